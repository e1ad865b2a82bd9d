/- The statement StoreLasts: the walk. -/
import Derived.Test.YtlefilfdomjkeaaGreatDoorStU
namespace Go.Proofs.YtlefilfdomjkeaaGreatDoor
open Go.RowKit Go.Deep
theorem shakes_any {w : World} {p q : Nat} {F : Fl} (f : FlashAt w p q F) (o : OpS) (ok : o.Ok) : Calls Tryz.prog 16 #[.pointer (some ⟨p, 0, none⟩), .agg #[.int .i64 o.kind, .int .i64 o.n, .int .i64 o.keep, .string ⟨o.s.toArray⟩]] w fun e w' => e = .returned (.tuple #[]) ∧ FlashAt w' p q (shakeP F o) ∧ Upd (fun k => k = p) w w' := by
  obtain ⟨kd, on, kp, os⟩ := o
  dsimp only
  obtain ⟨W, hW⟩ : ∃ W, w.alloc (.cells #[.int .i64 kd, .int .i64 on, .int .i64 kp, .string ⟨os.toArray⟩] 39 (0, 0)) = W := ⟨_, rfl⟩
  have u0 : Upd (fun _ => False) w W := by rw [← hW]; exact (Upd.refl _ _).alloc _
  have hb : W.heap[w.heap.size]? = some (.cells #[.int .i64 kd, .int .i64 on, .int .i64 kp, .string ⟨os.toArray⟩] 39 (0, 0)) := by rw [← hW]; exact heap_alloc_new
  have F0 := hid (f.upd u0 id id fun _ h => h.elim); have U0 := hid (u0.mono (T := fun k => k = p) fun _ h => h.elim); have HW := hid hW; have OK := hid ok
  obtain ⟨ob, hob⟩ : ∃ ob, w.heap.size = ob := ⟨_, rfl⟩
  rw [hob] at hb
  have z0 : W.cell? ⟨ob, 0, none⟩ = some (.int .i64 kd) := by rw [cell_of_block hb]; rfl
  have z1 : W.cell? ⟨ob, 1, none⟩ = some (.int .i64 on) := by rw [cell_of_block hb]; rfl
  have z2 : W.cell? ⟨ob, 2, none⟩ = some (.int .i64 kp) := by rw [cell_of_block hb]; rfl
  have HOB := hid hob
  clear f ok hW u0 hb hob
  by_cases h2 : kd = 2
  · subst h2
    go_enter Tryz.func16, Tryz.ntmps16
    go_upto_region 1 with (fail)
    rw [HW.out]
    try rw [HOB.out]
    go_wp2_with fail
    refine (lose_any p q on W F F0.out OK.out.n.2).mono ?_
    rintro e w2 ⟨rfl, f2, u2⟩
    have F2 := hid f2; have U2 := hid (U0.out.trans u2)
    clear f2 u2
    go_wp2_with fail
    go_end0
    exact ⟨rfl, F2.out, U2.out⟩
  by_cases h3 : kd = 3
  · subst h3
    clear h2
    go_enter Tryz.func16, Tryz.ntmps16
    go_upto_region 1 with (fail)
    rw [HW.out]
    try rw [HOB.out]
    go_wp2_with fail
    refine (arm_any p q on kp W F F0.out OK.out.n.2).mono ?_
    rintro e w2 ⟨rfl, f2, u2⟩
    have F2 := hid f2; have U2 := hid (U0.out.trans u2)
    clear f2 u2
    go_wp2_with fail
    go_end0
    exact ⟨rfl, F2.out, U2.out⟩
  by_cases h4 : kd = 4
  · subst h4
    clear h2 h3
    go_enter Tryz.func16, Tryz.ntmps16
    go_upto_region 1 with (fail)
    rw [HW.out]
    try rw [HOB.out]
    go_wp2_with fail
    refine (crash_any p q W F F0.out).mono ?_
    rintro e w2 ⟨rfl, f2, u2⟩
    have F2 := hid f2; have U2 := hid (U0.out.trans u2)
    clear f2 u2
    go_wp2_with fail
    refine (start_any p q w2 F.crash F2.out).mono ?_
    rintro e w3 ⟨rfl, f3, u3⟩
    have F3 := hid f3; have U3 := hid (U2.out.trans u3)
    clear f3 u3
    go_wp2_with fail
    go_end0
    exact ⟨rfl, F3.out, U3.out⟩
  by_cases h5 : kd = 5
  · subst h5
    clear h2 h3 h4
    go_enter Tryz.func16, Tryz.ntmps16
    go_upto_region 1 with (fail)
    rw [HW.out]
    try rw [HOB.out]
    go_wp2_with fail
    refine (start_any p q W F F0.out).mono ?_
    rintro e w3 ⟨rfl, f3, u3⟩
    have F3 := hid f3; have U3 := hid (U0.out.trans u3)
    clear f3 u3
    go_wp2_with fail
    go_end0
    exact ⟨rfl, F3.out, U3.out⟩
  · have g2 : (kd == 2) = false := beq_eq_false_iff_ne.2 h2
    have g3 : (kd == 3) = false := beq_eq_false_iff_ne.2 h3
    have g4 : (kd == 4) = false := beq_eq_false_iff_ne.2 h4
    have g5 : (kd == 5) = false := beq_eq_false_iff_ne.2 h5
    have R := hid (show shakeP F ⟨kd, on, kp, os⟩ = F by unfold shakeP; rw [if_neg h2, if_neg h3, if_neg h4, if_neg h5])
    go_enter Tryz.func16, Tryz.ntmps16
    go_upto_region 1 with (fail)
    rw [HW.out]
    try rw [HOB.out]
    go_wp2_with fail
    go_end0
    exact ⟨rfl, by rw [R.out]; exact F0.out, U0.out⟩
/-- The flash of a store was shaken. -/
theorem Shop.shaken {w0 w w' : World} {O : Nat → Prop} {p q x : Nat} {F G : Fl} {S : St} (h : Shop w0 w O p q F x S) (f : FlashAt w' p q G) (u : Upd (fun k => k = p) w w') (hn : G.nb = F.nb) (hk : G.np = F.np) : Shop w0 w' O p q G x S := by
  obtain ⟨⟨vr, va, st⟩, ho, uu⟩ := h
  exact ⟨⟨vr, va, st.flashed (u.mono fun _ h => .inl h) f hn hk⟩, ho, uu.comp u fun i hi e => by have := ho p st.op; omega⟩
def LastsAt (w : World) (nb np p q i : Nat) (s10 s12 s13 s14 s15 : Value) (wr : World) : Prop :=
  ∃ (x : Nat) (O : Nat → Prop) (F : Fl) (S : St) (a : Option Addr) (c : Nat) (a2 : Option Addr) (c2 : Nat) (second : Nat) (other : List (List UInt8)),
    s10 = .pointer (some ⟨x, 0, none⟩) ∧ s12 = .slice a S.recs.length c ∧ s13 = .slice a2 other.length c2 ∧ s14 = .int .i64 S.first ∧ s15 = .int .i64 second ∧ Shop w wr O p q F x S ∧ OwnS wr (.slice a S.recs.length c) S.recs ∧ OwnS wr (.slice a2 other.length c2) other ∧
    (∀ g, (Value.slice a S.recs.length c).ownBlock = some g → ¬ O g) ∧ (∀ g, (Value.slice a2 other.length c2).ownBlock = some g → ¬ O g) ∧ Lasts i nb np F S second other
theorem op4_ok : OpS.Ok ⟨4, 0, 0, []⟩ := ⟨⟨by decide, by decide⟩, ⟨by decide, by decide⟩, ⟨by decide, by decide⟩, Nat.zero_le _⟩
set_option maxRecDepth 100000 in
set_option maxHeartbeats 8000000 in
theorem lasts_walk (x0 x1 : Int) (v : Value) (l : List OpS) (w : World) (E : Env w) (hz : 6 ≤ w.heap.size) (h0 : (Lit.int .u8 x0).wf = true) (h1 : (Lit.int .u8 x1).wf = true) (hl : (kSlice kOpS).rep (· < w.heap.size) w [v] l) :
    Calls Tryz.prog 4 #[.int .u8 x0, .int .u8 x1, v] w fun e w' => e = .returned (.bool true) ∧ Upd (fun _ => False) w w' := by
  have b0 := bounds_u8 h0
  have b1 := bounds_u8 h1
  clear h0 h1
  obtain ⟨nb, hnb⟩ := Int.eq_ofNat_of_zero_le (by omega : 0 ≤ 2 + x0 % 5)
  obtain ⟨np, hnp⟩ := Int.eq_ofNat_of_zero_le (by omega : 0 ≤ 1 + x1 % 6)
  have hb : 2 ≤ nb ∧ nb ≤ 6 := by omega
  have hp : 1 ≤ np ∧ np ≤ 6 := by omega
  obtain ⟨al, cl, rfl, hc1, hc2, hel⟩ := slice_open hl
  have hc2 : cl ≤ 9223372036854775807 := hc2
  have HE := hid E; have HZ := hid hz; have HL := hid hl; have HB := hid hb; have HP := hid hp; have EL := hid hel
  clear E hz hl hel hb hp
  go_enter Tryz.func4, Tryz.ntmps4
  go_wp2_with fail
  refine (small_any w HE.out HZ.out).mono ?_
  rintro e w1 ⟨rfl, u1⟩
  have U1 := hid u1
  have HL1 := hid ((kSlice kOpS).keep HL.out (Same.of_upd u1 fun _ _ => id))
  clear u1
  go_wp2_with fail
  refine (fewS_any _ l w1 ((kSlice kOpS).mono HL1.out fun g hg => Nat.lt_of_lt_of_le hg U1.out.size)).mono ?_
  rintro e w2 ⟨rfl, u2⟩
  have U2 := hid (U1.out.trans u2)
  clear u2 U1 HL1
  cases hfew : fewS l with
  | false =>
    go_wp2_with fail
    go_ret
    exact ⟨rfl, U2.out⟩
  | true =>
    obtain ⟨hl40, hs300⟩ := fewS_true hfew
    have HL40 := hid hl40; have HS := hid hs300
    have l40i : (l.length : Int) ≤ 40 := by omega
    clear hfew hl40 hs300
    go_wp2_with fail
    refine (new_ok nb np w2 (by have := HB.out; omega) (by have := HP.out; omega)).mono ?_
    rintro e w3 ⟨p, q, hp3, hq3, rfl, f3', u3⟩
    have F3 := hid f3'; have PQ3 := hid (show w.heap.size ≤ p ∧ w.heap.size ≤ q from ⟨Nat.le_trans U2.out.size hp3, Nat.le_trans U2.out.size hq3⟩); have U3 := hid (U2.out.trans u3)
    clear f3' hp3 hq3 u3 U2
    obtain ⟨so1, so2, so3, so4⟩ := (tidy_new (nb := nb) (np := np) ⟨HB.out.1, by have := HB.out; omega⟩ ⟨HP.out.1, by have := HP.out; omega⟩).sopen (Nat.zero_le _)
    have OC := hid (shop_open F3.out PQ3.out.1 PQ3.out.2 U3.out so1 so2 so3 so4 HE.out HZ.out (new_open ⟨HB.out.1, by have := HB.out; omega⟩ ⟨HP.out.1, by have := HP.out; omega⟩))
    clear so1 so2 so3 so4
    go_wp2_with fail
    refine OC.out.mono ?_
    rintro e w5 ⟨x, rfl, ⟨O5, sh5, _⟩, _⟩
    clear OC
    have START := hid (show LastsAt w nb np p q 0 (.pointer (some ⟨x, 0, none⟩)) (.slice none 0 0) (.slice none 0 0) (.int .i64 0) (.int .i64 0) w5 from
      ⟨x, O5, _, _, none, 0, none, 0, 0, [], rfl, rfl, rfl, rfl, rfl, sh5, Own1.nil _ _, Own1.nil _ _, (fun g hg => by cases hg), (fun g hg => by cases hg), lasts_new HB.out HP.out⟩)
    clear sh5
    go_wp2_with fail
    go_loopg [10, 12, 13, 14, 15, 16] (l.length + 1) (fun gg s10 s12 s13 s14 s15 s16 wr => ∃ i : Nat, s16 = .int .i64 i ∧ i ≤ l.length + 1 ∧ gg = l.length + 1 - i ∧ LastsAt w nb np p q i s10 s12 s13 s14 s15 wr)
    case atStart => exact ⟨0, rfl, Nat.zero_le _, rfl, START.out⟩
    case round =>
      obtain ⟨i, rfl, hi, hg, x1, O, F, S, a, c, a2, c2, second, other, rfl, rfl, rfl, rfl, rfl, sh, ow, ot, nw, nt, la⟩ := hrel
      have SH := hid sh; have OW := hid ow; have OT := hid ot; have NW := hid nw; have NT := hid nt; have LA := hid la; have HG := hid hg
      clear sh ow ot nw nt la hg START
      have I41 := hid (show i ≤ 41 from by have := HL40.out; omega)
      have hii : (i : Int) ≤ 41 := by have := I41.out; omega
      have STOK := hid (LA.out.bnd.ok (by have := I41.out; omega) (by have := I41.out; omega))
      have hrl : (S.recs.length : Int) ≤ 900000 := by have := STOK.out.len; unfold St.len at this; omega
      have hfi : (S.first : Int) ≤ 900000 := by have := STOK.out.len; unfold St.len at this; omega
      have hsi : (second : Int) ≤ 41 := by have := LA.out.len2; have := I41.out; omega
      by_cases hil : i ≤ l.length
      case neg =>
        have hili : ¬ (i : Int) ≤ l.length := by omega
        have UF := hid SH.out.2.2
        go_wp2_with fail
        go_ret
        exact ⟨rfl, UF.out⟩
      have hili : (i : Int) ≤ l.length := by omega
      obtain ⟨ob, hob⟩ : ∃ ob, wr.heap.size = ob := ⟨_, rfl⟩
      have HOB := hid hob
      have OBN := hid (show ¬ O ob from fun e => by obtain ⟨⟨vr, va, st⟩, _, _⟩ := SH.out; have := st.lt ob e; omega)
      clear hob
      -- the operation
      go_upto_if 64 with (fail)
      obtain ⟨wa, hwa⟩ : ∃ wa, wr.alloc (.cells #[.int .i64 4, .int .i64 0, .int .i64 0, .string ⟨#[]⟩] 39 (0, 0)) = wa := ⟨_, rfl⟩
      have ua : Upd (fun _ => False) wr wa := by rw [← hwa]; exact (Upd.refl _ _).alloc _
      have hba : wa.heap[wr.heap.size]? = some (.cells #[.int .i64 4, .int .i64 0, .int .i64 0, .string ⟨#[]⟩] 39 (0, 0)) := by rw [← hwa]; exact heap_alloc_new
      rw [hwa]
      try rw [HOB.out]
      rw [HOB.out] at hba
      have UA := hid ua; have BA := hid hba
      clear hwa ua hba
      go_cut [] (fun wx => ∃ o : OpS, o.Ok ∧ o.s.length ≤ 300 ∧ wx.heap[ob]? = some (.cells #[.int .i64 o.kind, .int .i64 o.n, .int .i64 o.keep, .string ⟨o.s.toArray⟩] 39 (0, 0)) ∧ Upd (fun k => k = ob) wa wx)
      case first =>
        by_cases hlt : i < l.length
        · have hlti : (i : Int) < l.length := by omega
          obtain ⟨b, of, rfl, hb, hE⟩ := EL.out (by omega)
          have hE := hE.keep (Same.of_upd (SH.out.2.2.trans UA.out) fun _ _ => id) hb
          obtain ⟨⟨e0, e1, e2, e3⟩, ok⟩ := opS_cells hE hlt
          have OK := hid ok; have HSO := hid (HS.out _ (List.getElem_mem hlt))
          generalize l[i] = op at *
          obtain ⟨kd, on, kp, os⟩ := op
          dsimp only at e0 e1 e2 e3
          have zf : ∀ k, wa.frozen? ⟨ob, k, none⟩ = false := fun k => frozen_of_block BA.out
          have z0 : wa.cell? ⟨ob, 0, none⟩ = some (.int .i64 4) := by rw [cell_of_block BA.out]; rfl
          have z1 : wa.cell? ⟨ob, 1, none⟩ = some (.int .i64 0) := by rw [cell_of_block BA.out]; rfl
          have z2 : wa.cell? ⟨ob, 2, none⟩ = some (.int .i64 0) := by rw [cell_of_block BA.out]; rfl
          have z3 : wa.cell? ⟨ob, 3, none⟩ = some (.string ⟨#[]⟩) := by rw [cell_of_block BA.out]; rfl
          clear hE ok
          go_wp2_with fail
          go_meet
          case rel => exact ⟨⟨kd, on, kp, os⟩, OK.out, HSO.out, by simp [heap_setCell, Obj.setAt, BA.out], ((((Upd.refl (fun k => k = ob) wa).at_ _ _).at_ _ _).at_ _ _).at_ _ _⟩
        · have hlti : ¬ (i : Int) < l.length := by omega
          go_wp2_with fail
          go_meet
          case rel => exact ⟨⟨4, 0, 0, []⟩, op4_ok, Nat.zero_le _, BA.out, Upd.refl _ _⟩
      case rest =>
        obtain ⟨⟨kd, on, kp, os⟩, oko, hos, hbo, uo⟩ := hcut
        dsimp only at hos hbo
        have OKO := hid oko; have HSO := hid hos; have BO := hid hbo
        have UO := hid (show Upd (fun _ => False) wr wc from UA.out.comp uo fun k hk e => by have := HOB.out; omega)
        have SHA := hid (SH.out.upd UO.out); have OWA := hid (Own1.upd OW.out UO.out fun _ _ => id); have OTA := hid (Own1.upd OT.out UO.out fun _ _ => id)
        have OBS := hid (heap_lt hbo)
        have cell := hid (fun (wq : World) (e : wq.heap[ob]? = wc.heap[ob]?) => (show wq.cell? ⟨ob, 0, none⟩ = some (.int .i64 kd) ∧ wq.cell? ⟨ob, 1, none⟩ = some (.int .i64 on) ∧ wq.cell? ⟨ob, 2, none⟩ = some (.int .i64 kp) ∧ wq.cell? ⟨ob, 3, none⟩ = some (.string ⟨os.toArray⟩) from by
          have hb := e.trans BO.out
          refine ⟨?_, ?_, ?_, ?_⟩ <;> rw [cell_of_block hb] <;> rfl))
        obtain ⟨z0, z1, z2, z3⟩ := cell.out wc rfl
        have J1 := hid (show 400 * i ≤ 900000 ∧ i ≤ 900000 ∧ i ≤ 800 from by have := I41.out; omega)
        have FLA := hid (shop_flash SHA.out).1
        clear oko hos hbo uo
        by_cases hk : kd = 0
        case pos =>
          as_aux_lemma =>
            subst hk
            have DC := hid (down_any p q wc F FLA.out)
            cases hd : F.down with
            | true =>
              rw [hd] at DC
              have NXT := hid (show LastsAt w nb np p q (i + 1) (.pointer (some ⟨x1, 0, none⟩)) (.slice a S.recs.length c) (.slice a2 other.length c2) (.int .i64 S.first) (.int .i64 second) wc from
                ⟨x1, O, F, S, a, c, a2, c2, second, other, rfl, rfl, rfl, rfl, rfl, SHA.out, OWA.out, OTA.out, NW.out, NT.out, LA.out.wide (Nat.le_succ i)⟩)
              clear hd
              go_wp2_with fail
              refine DC.out.mono ?_
              rintro e w5 ⟨rfl, rfl⟩
              go_wp2_with fail
              go_roundg (l.length + 1 - (i + 1))
              case measure => have := HG.out; omega
              case rel => exact ⟨i + 1, by go_num, by omega, rfl, NXT.out⟩
            | false =>
              rw [hd] at DC
              have LV := hid (LA.out.up hd); have HD := hid hd
              clear hd
              obtain ⟨R, hR⟩ : ∃ R, appendP F S os = R := ⟨_, rfl⟩
              have DN := hid (append_done (o := ⟨0, on, kp, os⟩) LV.out LA.out.bnd J1.out.1 J1.out.2.1 rfl HSO.out hR)
              have AC1 := hid (shop_append SHA.out STOK.out HE.out HZ.out HD.out os (Nat.le_trans HSO.out (by decide)) hR)
              obtain ⟨G, T, er⟩ := R
              dsimp only at DN AC1
              clear hR
              go_wp2_with fail
              refine DC.out.mono ?_
              rintro e w5 ⟨rfl, rfl⟩
              clear DC
              go_wp2_with fail
              refine AC1.out.mono ?_
              rintro e w5 ⟨rfl, mv⟩
              clear AC1
              obtain ⟨ON, sh5, so5, ho5⟩ := mv
              have SHN := hid sh5
              have E5 := hid (so5.block OBS.out OBN.out)
              have OW5 := hid (Own1.upd OWA.out so5 fun g hg e => NW.out g hg e.1)
              have NW5 := hid (show ∀ g, (Value.slice a S.recs.length c).ownBlock = some g → ¬ ON g from fun g hg e => (ho5 g e).elim (fun h => NW.out g hg h) fun h => by have h1 := Own1.lt OWA.out g hg; omega)
              have ONL := hid (show ∀ k, ON k → k < w5.heap.size from fun k hk => by obtain ⟨⟨vr, va, st⟩, _, _⟩ := sh5; exact st.lt k hk)
              have GOK := hid (shop_flash sh5).1.ok
              have SZ5 := hid so5.size
              clear sh5 so5 ho5 z0 z1 z2 z3
              obtain ⟨z0, z1, z2, z3⟩ := cell.out w5 E5.out
              obtain ⟨k1, k2, k3⟩ := LA.out.call (o := ⟨0, on, kp, os⟩) (.inl rfl) HSO.out DN.out GOK.out
              have K1 := hid k1; have K2 := hid k2; have K3 := hid k3
              have DG := hid (fun (e : er = 0) => (DN.out.good e).2); have DB := hid (fun (e : er ≠ 0) => (And.intro (DN.out.bad e).1 (DN.out.bad e).2.1))
              have OKN := hid (DN.out.bnd.ok (by have := J1.out; have := I41.out; omega) (by have := I41.out; omega))
              clear k1 k2 k3
              obtain ⟨fr, hfr⟩ : ∃ fr, fromF S.first S.recs ⟨0, on, kp, os⟩ = fr := ⟨_, rfl⟩
              rw [hfr] at DG K3
              have hfr2 : fr = S.first := by rw [← hfr]; rfl
              subst hfr2
              clear hfr
              go_wp2_with fail
              refine (after_add OW5.out (by have := STOK.out.len; unfold St.len at this; omega) ⟨0, on, kp, os⟩ rfl).mono ?_
              rintro e w6 ⟨aA, cA, rfl, o6, n6, u6⟩
              have OA6 := hid o6
              have NA6 := hid (show ∀ g, (Value.slice aA (afterP S.recs ⟨0, on, kp, os⟩).length cA).ownBlock = some g → ¬ ON g from fun g hg e => by have h1 := n6 g hg; have h2 := ONL.out g e; omega)
              have SHN := hid (SHN.out.upd u6); have OW6 := hid (Own1.upd OW5.out u6 fun _ _ => id)
              have E6 := hid ((u6.block ob (Nat.lt_of_lt_of_le OBS.out SZ5.out) id).trans E5.out)
              obtain ⟨af, haf⟩ : ∃ af, afterP S.recs ⟨0, on, kp, os⟩ = af := ⟨_, rfl⟩
              rw [haf] at OA6 NA6 DG K3
              rw [haf]
              clear haf o6 n6 u6 z0 z1 z2 z3
              obtain ⟨z0, z1, z2, z3⟩ := cell.out w6 E6.out
              by_cases her : er = 0
              case pos =>
                subst her
                obtain ⟨g1, g2⟩ := DG.out rfl
                have LAN := hid (K1.out rfl)
                obtain rfl : af = T.recs := g1.symm
                have OWN := OA6; have NWN := NA6; have OTN := OA6; have NTN := NA6
                have hgf : S.first = T.first := g2.symm
                rw [hgf]
                clear hgf g1 g2
                go_wp2_with fail
                refine (shop_all SHN.out OKN.out).mono ?_
                rintro e w8 ⟨⟨a8, c8, rfl, o8, n8⟩, u8⟩
                have O8 := hid o8; have SH8 := hid (SHN.out.upd u8); have OW8 := hid (Own1.upd OWN.out u8 fun _ _ => id); have OT8 := hid (Own1.upd OTN.out u8 fun _ _ => id)
                clear o8 n8 u8
                go_wp2_with fail
                have SC := hid (sameTexts_any _ _ T.recs T.recs w8 (OwnS.rep O8.out (fun x hx => Nat.le_trans (OKN.out.txt x hx) (by decide)) fun g hg => Own1.lt O8.out g hg) (OwnS.rep OW8.out (fun x hx => Nat.le_trans (OKN.out.txt x hx) (by decide)) fun g hg => Own1.lt OW8.out g hg))
                rw [show (T.recs == T.recs) = true from beq_self_eq_true _] at SC
                refine SC.out.mono ?_
                rintro e w9 ⟨rfl, u9⟩
                have SH9 := hid (SH8.out.upd u9); have OW9 := hid (Own1.upd OW8.out u9 fun _ _ => id); have OT9 := hid (Own1.upd OT8.out u9 fun _ _ => id)
                clear u9 SC
                go_wp2_with fail
                refine (shop_first SH9.out).mono ?_
                rintro e w10 ⟨rfl, rfl⟩
                go_wp2_with fail
                refine (shop_len SH9.out OKN.out).mono ?_
                rintro e w11 ⟨rfl, u11⟩
                rw [show T.len = T.first + T.recs.length from rfl]
                have NXT := hid (show LastsAt w nb np p q (i + 1) (.pointer (some ⟨x1, 0, none⟩)) (.slice aA T.recs.length cA) (.slice aA T.recs.length cA) (.int .i64 T.first) (.int .i64 T.first) w11 from
                  ⟨x1, ON, G, T, aA, cA, aA, cA, T.first, T.recs, rfl, rfl, rfl, rfl, rfl, SH9.out.upd u11, Own1.upd OW9.out u11 fun _ _ => id, Own1.upd OT9.out u11 fun _ _ => id, NWN.out, NTN.out, LAN.out⟩)
                have TL := hid (show (T.recs.length : Int) ≤ 900000 ∧ (T.first : Int) ≤ 900000 from by have := OKN.out.len; unfold St.len at this; omega)
                obtain ⟨tl1, tl2⟩ := TL.out
                clear u11
                go_wp2_with fail
                go_roundg (l.length + 1 - (i + 1))
                case measure => have := HG.out; omega
                case rel => exact ⟨i + 1, by go_num, by omega, rfl, NXT.out⟩
              have g1 : (er == 0) = false := beq_eq_false_iff_ne.2 her
              obtain ⟨r1, r2⟩ := DB.out her
              by_cases he8 : er = 8
              case pos =>
                subst he8
                have LAN := hid (K3.out rfl)
                have OWN := OW6; have NWN := NW5
                rw [← r1] at OWN NWN ⊢
                rw [← r2] at LAN ⊢
                have OTN := OA6; have NTN := NA6
                clear r1 r2
                go_wp2_with fail
                refine (shop_all SHN.out OKN.out).mono ?_
                rintro e w8 ⟨⟨a8, c8, rfl, o8, n8⟩, u8⟩
                have O8 := hid o8; have SH8 := hid (SHN.out.upd u8); have OW8 := hid (Own1.upd OWN.out u8 fun _ _ => id); have OT8 := hid (Own1.upd OTN.out u8 fun _ _ => id)
                clear o8 n8 u8
                go_wp2_with fail
                have SC := hid (sameTexts_any _ _ T.recs T.recs w8 (OwnS.rep O8.out (fun x hx => Nat.le_trans (OKN.out.txt x hx) (by decide)) fun g hg => Own1.lt O8.out g hg) (OwnS.rep OW8.out (fun x hx => Nat.le_trans (OKN.out.txt x hx) (by decide)) fun g hg => Own1.lt OW8.out g hg))
                rw [show (T.recs == T.recs) = true from beq_self_eq_true _] at SC
                refine SC.out.mono ?_
                rintro e w9 ⟨rfl, u9⟩
                have SH9 := hid (SH8.out.upd u9); have OW9 := hid (Own1.upd OW8.out u9 fun _ _ => id); have OT9 := hid (Own1.upd OT8.out u9 fun _ _ => id)
                clear u9 SC
                go_wp2_with fail
                refine (shop_first SH9.out).mono ?_
                rintro e w10 ⟨rfl, rfl⟩
                go_wp2_with fail
                refine (shop_len SH9.out OKN.out).mono ?_
                rintro e w11 ⟨rfl, u11⟩
                rw [show T.len = T.first + T.recs.length from rfl]
                have NXT := hid (show LastsAt w nb np p q (i + 1) (.pointer (some ⟨x1, 0, none⟩)) (.slice a T.recs.length c) (.slice aA af.length cA) (.int .i64 T.first) (.int .i64 T.first) w11 from
                  ⟨x1, ON, G, T, a, c, aA, cA, T.first, af, rfl, rfl, rfl, rfl, rfl, SH9.out.upd u11, Own1.upd OW9.out u11 fun _ _ => id, Own1.upd OT9.out u11 fun _ _ => id, NWN.out, NTN.out, LAN.out⟩)
                have TL := hid (show (T.recs.length : Int) ≤ 900000 ∧ (T.first : Int) ≤ 900000 from by have := OKN.out.len; unfold St.len at this; omega)
                obtain ⟨tl1, tl2⟩ := TL.out
                clear u11
                go_wp2_with fail
                go_roundg (l.length + 1 - (i + 1))
                case measure => have := HG.out; omega
                case rel => exact ⟨i + 1, by go_num, by omega, rfl, NXT.out⟩
              have g8 : (er == 8) = false := beq_eq_false_iff_ne.2 he8
              have LAN := hid (K2.out her he8)
              have OWN := OW6; have NWN := NW5
              rw [← r1] at OWN NWN LAN ⊢
              rw [← r2] at LAN ⊢
              have OTN := OWN; have NTN := NWN
              clear r1 r2
              go_wp2_with fail
              refine (shop_all SHN.out OKN.out).mono ?_
              rintro e w8 ⟨⟨a8, c8, rfl, o8, n8⟩, u8⟩
              have O8 := hid o8; have SH8 := hid (SHN.out.upd u8); have OW8 := hid (Own1.upd OWN.out u8 fun _ _ => id); have OT8 := hid (Own1.upd OTN.out u8 fun _ _ => id)
              clear o8 n8 u8
              go_wp2_with fail
              have SC := hid (sameTexts_any _ _ T.recs T.recs w8 (OwnS.rep O8.out (fun x hx => Nat.le_trans (OKN.out.txt x hx) (by decide)) fun g hg => Own1.lt O8.out g hg) (OwnS.rep OW8.out (fun x hx => Nat.le_trans (OKN.out.txt x hx) (by decide)) fun g hg => Own1.lt OW8.out g hg))
              rw [show (T.recs == T.recs) = true from beq_self_eq_true _] at SC
              refine SC.out.mono ?_
              rintro e w9 ⟨rfl, u9⟩
              have SH9 := hid (SH8.out.upd u9); have OW9 := hid (Own1.upd OW8.out u9 fun _ _ => id); have OT9 := hid (Own1.upd OT8.out u9 fun _ _ => id)
              clear u9 SC
              go_wp2_with fail
              refine (shop_first SH9.out).mono ?_
              rintro e w10 ⟨rfl, rfl⟩
              go_wp2_with fail
              refine (shop_len SH9.out OKN.out).mono ?_
              rintro e w11 ⟨rfl, u11⟩
              rw [show T.len = T.first + T.recs.length from rfl]
              have NXT := hid (show LastsAt w nb np p q (i + 1) (.pointer (some ⟨x1, 0, none⟩)) (.slice a T.recs.length c) (.slice a T.recs.length c) (.int .i64 T.first) (.int .i64 T.first) w11 from
                ⟨x1, ON, G, T, a, c, a, c, T.first, T.recs, rfl, rfl, rfl, rfl, rfl, SH9.out.upd u11, Own1.upd OW9.out u11 fun _ _ => id, Own1.upd OT9.out u11 fun _ _ => id, NWN.out, NTN.out, LAN.out⟩)
              have TL := hid (show (T.recs.length : Int) ≤ 900000 ∧ (T.first : Int) ≤ 900000 from by have := OKN.out.len; unfold St.len at this; omega)
              obtain ⟨tl1, tl2⟩ := TL.out
              clear u11
              go_wp2_with fail
              go_roundg (l.length + 1 - (i + 1))
              case measure => have := HG.out; omega
              case rel => exact ⟨i + 1, by go_num, by omega, rfl, NXT.out⟩
        have hkb : (kd == 0) = false := beq_eq_false_iff_ne.2 hk
        by_cases hk1 : kd = 1
        case pos =>
          as_aux_lemma =>
            subst hk1
            clear hkb
            have DC := hid (down_any p q wc F FLA.out)
            cases hd : F.down with
            | true =>
              rw [hd] at DC
              have NXT := hid (show LastsAt w nb np p q (i + 1) (.pointer (some ⟨x1, 0, none⟩)) (.slice a S.recs.length c) (.slice a2 other.length c2) (.int .i64 S.first) (.int .i64 second) wc from
                ⟨x1, O, F, S, a, c, a2, c2, second, other, rfl, rfl, rfl, rfl, rfl, SHA.out, OWA.out, OTA.out, NW.out, NT.out, LA.out.wide (Nat.le_succ i)⟩)
              clear hd
              go_wp2_with fail
              refine DC.out.mono ?_
              rintro e w5 ⟨rfl, rfl⟩
              go_wp2_with fail
              go_roundg (l.length + 1 - (i + 1))
              case measure => have := HG.out; omega
              case rel => exact ⟨i + 1, by go_num, by omega, rfl, NXT.out⟩
            | false =>
              rw [hd] at DC
              have LV := hid (LA.out.up hd); have HD := hid hd
              clear hd
              obtain ⟨R, hR⟩ : ∃ R, dropP F S on = R := ⟨_, rfl⟩
              have DN := hid (drop_done (o := ⟨1, on, kp, os⟩) LV.out LA.out.bnd J1.out.1 J1.out.2.1 rfl hR)
              have AC1 := hid (shop_drop SHA.out STOK.out HE.out HZ.out HD.out on OKO.out.n hR)
              obtain ⟨G, T, er⟩ := R
              dsimp only at DN AC1
              clear hR
              go_wp2_with fail
              refine DC.out.mono ?_
              rintro e w5 ⟨rfl, rfl⟩
              clear DC
              go_wp2_with fail
              refine AC1.out.mono ?_
              rintro e w5 ⟨rfl, mv⟩
              clear AC1
              obtain ⟨ON, sh5, so5, ho5⟩ := mv
              have SHN := hid sh5
              have E5 := hid (so5.block OBS.out OBN.out)
              have OW5 := hid (Own1.upd OWA.out so5 fun g hg e => NW.out g hg e.1)
              have NW5 := hid (show ∀ g, (Value.slice a S.recs.length c).ownBlock = some g → ¬ ON g from fun g hg e => (ho5 g e).elim (fun h => NW.out g hg h) fun h => by have h1 := Own1.lt OWA.out g hg; omega)
              have ONL := hid (show ∀ k, ON k → k < w5.heap.size from fun k hk => by obtain ⟨⟨vr, va, st⟩, _, _⟩ := sh5; exact st.lt k hk)
              have GOK := hid (shop_flash sh5).1.ok
              have SZ5 := hid so5.size
              clear sh5 so5 ho5 z0 z1 z2 z3
              obtain ⟨z0, z1, z2, z3⟩ := cell.out w5 E5.out
              obtain ⟨k1, k2, k3⟩ := LA.out.call (o := ⟨1, on, kp, os⟩) (.inr rfl) HSO.out DN.out GOK.out
              have K1 := hid k1; have K2 := hid k2; have K3 := hid k3
              have DG := hid (fun (e : er = 0) => (DN.out.good e).2); have DB := hid (fun (e : er ≠ 0) => (And.intro (DN.out.bad e).1 (DN.out.bad e).2.1))
              have OKN := hid (DN.out.bnd.ok (by have := J1.out; have := I41.out; omega) (by have := I41.out; omega))
              clear k1 k2 k3
              obtain ⟨fr, hfr⟩ : ∃ fr, fromF S.first S.recs ⟨1, on, kp, os⟩ = fr := ⟨_, rfl⟩
              rw [hfr] at DG K3
              obtain ⟨mx, hmx⟩ : ∃ mx : Nat, max (min on (S.recs.length : Int)) 0 = mx := ⟨(max (min on (S.recs.length : Int)) 0).toNat, by omega⟩
              have hfm : fr = S.first + mx := by rw [← hfr]; unfold fromF; rw [if_pos rfl]; dsimp only; omega
              have hfi2 : (S.first : Int) + mx = fr := by omega
              have hmxi : (mx : Int) ≤ 900000 := by omega
              have hfrb : (fr : Int) ≤ 1800000 := by omega
              clear hfr hfm
              go_wp2_with fail
              refine (after_drop OW5.out (by have := STOK.out.len; unfold St.len at this; omega) ⟨1, on, kp, os⟩ OKO.out (show ¬ (1 : Int) = 0 by decide)).mono ?_
              rintro e w6 ⟨aA, cA, rfl, o6, n6, u6⟩
              have OA6 := hid o6
              have NA6 := hid (show ∀ g, (Value.slice aA (afterP S.recs ⟨1, on, kp, os⟩).length cA).ownBlock = some g → ¬ ON g from fun g hg e => by have h1 := n6 g hg; have h2 := ONL.out g e; omega)
              have SHN := hid (SHN.out.upd u6); have OW6 := hid (Own1.upd OW5.out u6 fun _ _ => id)
              have E6 := hid ((u6.block ob (Nat.lt_of_lt_of_le OBS.out SZ5.out) id).trans E5.out)
              obtain ⟨af, haf⟩ : ∃ af, afterP S.recs ⟨1, on, kp, os⟩ = af := ⟨_, rfl⟩
              rw [haf] at OA6 NA6 DG K3
              rw [haf]
              clear haf o6 n6 u6 z0 z1 z2 z3
              obtain ⟨z0, z1, z2, z3⟩ := cell.out w6 E6.out
              by_cases her : er = 0
              case pos =>
                subst her
                obtain ⟨g1, g2⟩ := DG.out rfl
                have LAN := hid (K1.out rfl)
                obtain rfl : af = T.recs := g1.symm
                have OWN := OA6; have NWN := NA6; have OTN := OA6; have NTN := NA6
                obtain rfl : fr = T.first := g2.symm
                clear g1 g2
                go_wp2_with fail
                refine (shop_all SHN.out OKN.out).mono ?_
                rintro e w8 ⟨⟨a8, c8, rfl, o8, n8⟩, u8⟩
                have O8 := hid o8; have SH8 := hid (SHN.out.upd u8); have OW8 := hid (Own1.upd OWN.out u8 fun _ _ => id); have OT8 := hid (Own1.upd OTN.out u8 fun _ _ => id)
                clear o8 n8 u8
                go_wp2_with fail
                have SC := hid (sameTexts_any _ _ T.recs T.recs w8 (OwnS.rep O8.out (fun x hx => Nat.le_trans (OKN.out.txt x hx) (by decide)) fun g hg => Own1.lt O8.out g hg) (OwnS.rep OW8.out (fun x hx => Nat.le_trans (OKN.out.txt x hx) (by decide)) fun g hg => Own1.lt OW8.out g hg))
                rw [show (T.recs == T.recs) = true from beq_self_eq_true _] at SC
                refine SC.out.mono ?_
                rintro e w9 ⟨rfl, u9⟩
                have SH9 := hid (SH8.out.upd u9); have OW9 := hid (Own1.upd OW8.out u9 fun _ _ => id); have OT9 := hid (Own1.upd OT8.out u9 fun _ _ => id)
                clear u9 SC
                go_wp2_with fail
                refine (shop_first SH9.out).mono ?_
                rintro e w10 ⟨rfl, rfl⟩
                go_wp2_with fail
                refine (shop_len SH9.out OKN.out).mono ?_
                rintro e w11 ⟨rfl, u11⟩
                rw [show T.len = T.first + T.recs.length from rfl]
                have NXT := hid (show LastsAt w nb np p q (i + 1) (.pointer (some ⟨x1, 0, none⟩)) (.slice aA T.recs.length cA) (.slice aA T.recs.length cA) (.int .i64 T.first) (.int .i64 T.first) w11 from
                  ⟨x1, ON, G, T, aA, cA, aA, cA, T.first, T.recs, rfl, rfl, rfl, rfl, rfl, SH9.out.upd u11, Own1.upd OW9.out u11 fun _ _ => id, Own1.upd OT9.out u11 fun _ _ => id, NWN.out, NTN.out, LAN.out⟩)
                have TL := hid (show (T.recs.length : Int) ≤ 900000 ∧ (T.first : Int) ≤ 900000 from by have := OKN.out.len; unfold St.len at this; omega)
                obtain ⟨tl1, tl2⟩ := TL.out
                clear u11
                go_wp2_with fail
                go_roundg (l.length + 1 - (i + 1))
                case measure => have := HG.out; omega
                case rel => exact ⟨i + 1, by go_num, by omega, rfl, NXT.out⟩
              have g1 : (er == 0) = false := beq_eq_false_iff_ne.2 her
              obtain ⟨r1, r2⟩ := DB.out her
              by_cases he8 : er = 8
              case pos =>
                subst he8
                have LAN := hid (K3.out rfl)
                have OWN := OW6; have NWN := NW5
                rw [← r1] at OWN NWN hmx ⊢
                rw [← r2] at hfi2 ⊢
                have OTN := OA6; have NTN := NA6
                clear r1 r2
                go_wp2_with fail
                refine (shop_all SHN.out OKN.out).mono ?_
                rintro e w8 ⟨⟨a8, c8, rfl, o8, n8⟩, u8⟩
                have O8 := hid o8; have SH8 := hid (SHN.out.upd u8); have OW8 := hid (Own1.upd OWN.out u8 fun _ _ => id); have OT8 := hid (Own1.upd OTN.out u8 fun _ _ => id)
                clear o8 n8 u8
                go_wp2_with fail
                have SC := hid (sameTexts_any _ _ T.recs T.recs w8 (OwnS.rep O8.out (fun x hx => Nat.le_trans (OKN.out.txt x hx) (by decide)) fun g hg => Own1.lt O8.out g hg) (OwnS.rep OW8.out (fun x hx => Nat.le_trans (OKN.out.txt x hx) (by decide)) fun g hg => Own1.lt OW8.out g hg))
                rw [show (T.recs == T.recs) = true from beq_self_eq_true _] at SC
                refine SC.out.mono ?_
                rintro e w9 ⟨rfl, u9⟩
                have SH9 := hid (SH8.out.upd u9); have OW9 := hid (Own1.upd OW8.out u9 fun _ _ => id); have OT9 := hid (Own1.upd OT8.out u9 fun _ _ => id)
                clear u9 SC
                go_wp2_with fail
                refine (shop_first SH9.out).mono ?_
                rintro e w10 ⟨rfl, rfl⟩
                go_wp2_with fail
                refine (shop_len SH9.out OKN.out).mono ?_
                rintro e w11 ⟨rfl, u11⟩
                rw [show T.len = T.first + T.recs.length from rfl]
                have NXT := hid (show LastsAt w nb np p q (i + 1) (.pointer (some ⟨x1, 0, none⟩)) (.slice a T.recs.length c) (.slice aA af.length cA) (.int .i64 T.first) (.int .i64 fr) w11 from
                  ⟨x1, ON, G, T, a, c, aA, cA, fr, af, rfl, rfl, rfl, rfl, rfl, SH9.out.upd u11, Own1.upd OW9.out u11 fun _ _ => id, Own1.upd OT9.out u11 fun _ _ => id, NWN.out, NTN.out, LAN.out⟩)
                have TL := hid (show (T.recs.length : Int) ≤ 900000 ∧ (T.first : Int) ≤ 900000 from by have := OKN.out.len; unfold St.len at this; omega)
                obtain ⟨tl1, tl2⟩ := TL.out
                clear u11
                go_wp2_with fail
                go_roundg (l.length + 1 - (i + 1))
                case measure => have := HG.out; omega
                case rel => exact ⟨i + 1, by go_num, by omega, rfl, NXT.out⟩
              have g8 : (er == 8) = false := beq_eq_false_iff_ne.2 he8
              have LAN := hid (K2.out her he8)
              have OWN := OW6; have NWN := NW5
              rw [← r1] at OWN NWN LAN hmx ⊢
              rw [← r2] at LAN hfi2 ⊢
              have OTN := OWN; have NTN := NWN
              clear r1 r2
              go_wp2_with fail
              refine (shop_all SHN.out OKN.out).mono ?_
              rintro e w8 ⟨⟨a8, c8, rfl, o8, n8⟩, u8⟩
              have O8 := hid o8; have SH8 := hid (SHN.out.upd u8); have OW8 := hid (Own1.upd OWN.out u8 fun _ _ => id); have OT8 := hid (Own1.upd OTN.out u8 fun _ _ => id)
              clear o8 n8 u8
              go_wp2_with fail
              have SC := hid (sameTexts_any _ _ T.recs T.recs w8 (OwnS.rep O8.out (fun x hx => Nat.le_trans (OKN.out.txt x hx) (by decide)) fun g hg => Own1.lt O8.out g hg) (OwnS.rep OW8.out (fun x hx => Nat.le_trans (OKN.out.txt x hx) (by decide)) fun g hg => Own1.lt OW8.out g hg))
              rw [show (T.recs == T.recs) = true from beq_self_eq_true _] at SC
              refine SC.out.mono ?_
              rintro e w9 ⟨rfl, u9⟩
              have SH9 := hid (SH8.out.upd u9); have OW9 := hid (Own1.upd OW8.out u9 fun _ _ => id); have OT9 := hid (Own1.upd OT8.out u9 fun _ _ => id)
              clear u9 SC
              go_wp2_with fail
              refine (shop_first SH9.out).mono ?_
              rintro e w10 ⟨rfl, rfl⟩
              go_wp2_with fail
              refine (shop_len SH9.out OKN.out).mono ?_
              rintro e w11 ⟨rfl, u11⟩
              rw [show T.len = T.first + T.recs.length from rfl]
              have NXT := hid (show LastsAt w nb np p q (i + 1) (.pointer (some ⟨x1, 0, none⟩)) (.slice a T.recs.length c) (.slice a T.recs.length c) (.int .i64 T.first) (.int .i64 T.first) w11 from
                ⟨x1, ON, G, T, a, c, a, c, T.first, T.recs, rfl, rfl, rfl, rfl, rfl, SH9.out.upd u11, Own1.upd OW9.out u11 fun _ _ => id, Own1.upd OT9.out u11 fun _ _ => id, NWN.out, NTN.out, LAN.out⟩)
              have TL := hid (show (T.recs.length : Int) ≤ 900000 ∧ (T.first : Int) ≤ 900000 from by have := OKN.out.len; unfold St.len at this; omega)
              obtain ⟨tl1, tl2⟩ := TL.out
              clear u11
              go_wp2_with fail
              go_roundg (l.length + 1 - (i + 1))
              case measure => have := HG.out; omega
              case rel => exact ⟨i + 1, by go_num, by omega, rfl, NXT.out⟩
        have hk1b : (kd == 1) = false := beq_eq_false_iff_ne.2 hk1
        obtain ⟨s1, s2, s3⟩ := shake_does LA.out.ok OKO.out
        have SK := hid s1; have SD := hid s2; have S45 := hid s3
        have KC := hid (shakes_any FLA.out ⟨kd, on, kp, os⟩ OKO.out)
        clear s1 s2 s3
        obtain ⟨G, hG⟩ : ∃ G, shakeP F ⟨kd, on, kp, os⟩ = G := ⟨_, rfl⟩
        rw [hG] at SK SD S45 KC
        clear hG
        by_cases h4 : kd = 4
        case pos =>
          as_aux_lemma =>
            subst h4
            have h45 : (4 : Int) = 4 ∨ (4 : Int) = 5 := .inl rfl
            clear hk hk1 hkb hk1b
            have DN := hid (S45.out h45)
            obtain ⟨l1, l2, l3, l4, l5⟩ := LA.out.open_ HB.out.1 HP.out.2 J1.out.2.2 SK.out DN.out
            have LAN := hid l1; have WHO := hid l2; have GNB := hid l3; have GINV := hid l4; have GPOS := hid l5
            obtain ⟨T, hT⟩ : ∃ T, openP G = T := ⟨_, rfl⟩
            rw [hT] at LAN WHO
            have HT := hid hT
            have OKN := hid (LAN.out.bnd.ok (by have := I41.out; omega) (by have := I41.out; omega))
            clear l1 l2 l3 l4 l5 hT
            go_wp2_with fail
            refine KC.out.mono ?_
            rintro e w5 ⟨rfl, f5, u5⟩
            have PX := hid (show O p from by obtain ⟨⟨vr, va, st⟩, _, _⟩ := SHA.out; exact st.op)
            have QX := hid (show O q from by obtain ⟨⟨vr, va, st⟩, _, _⟩ := SHA.out; exact st.oq)
            have E5 := hid (u5.block ob OBS.out (fun e => OBN.out (by rw [e]; exact PX.out)))
            have OW5 := hid (Own1.upd OWA.out u5 (fun g hg e => NW.out g hg (by rw [e]; exact PX.out))); have OT5 := hid (Own1.upd OTA.out u5 (fun g hg e => NT.out g hg (by rw [e]; exact PX.out)))
            have F5 := hid f5
            have U5 := hid (show Upd (fun _ => False) w w5 from SHA.out.2.2.comp u5 fun k hk e => by have := (shop_flash SHA.out).2.1; omega)
            clear f5 u5 z0 z1 z2 z3 KC
            obtain ⟨z0, z1, z2, z3⟩ := cell.out w5 E5.out
            have OC := hid (shop_open F5.out (shop_flash SHA.out).2.1 (shop_flash SHA.out).2.2.1 U5.out GNB.out DN.out GINV.out GPOS.out HE.out HZ.out HT.out)
            go_wp2_with fail
            refine OC.out.mono ?_
            rintro e w6 ⟨y, rfl, ⟨ON, sh6, ho6⟩, so6⟩
            have SH6 := hid sh6
            have OW6 := hid (Own1.upd OW5.out so6 fun g hg e => by
              rcases e.1 with rfl | rfl
              · exact NW.out _ hg PX.out
              · exact NW.out _ hg QX.out)
            have OT6 := hid (Own1.upd OT5.out so6 fun g hg e => by
              rcases e.1 with rfl | rfl
              · exact NT.out _ hg PX.out
              · exact NT.out _ hg QX.out)
            have ONL := hid (show ∀ k, ON k → k < w6.heap.size from fun k hk => by obtain ⟨⟨vr, va, st⟩, _, _⟩ := sh6; exact st.lt k hk)
            clear sh6 so6 OC z0 z1 z2 z3
            have TXS := hid (fun (v8 : Value) (wq : World) (o8 : OwnS wq v8 T.recs) (v9 : Value) (l9 : List (List UInt8)) (o9 : OwnS wq v9 l9) (ht : ∀ r ∈ l9, r.length ≤ 1000000) => sameTexts_any v8 v9 T.recs l9 wq (OwnS.rep o8 (fun x hx => Nat.le_trans (OKN.out.txt x hx) (by decide)) fun g hg => Own1.lt o8 g hg) (OwnS.rep o9 (fun x hx => Nat.le_trans (ht x hx) (by decide)) fun g hg => Own1.lt o9 g hg))
            obtain ⟨bone, hbone⟩ : ∃ b, decide (T.recs = S.recs ∧ T.first = S.first) = b := ⟨_, rfl⟩
            obtain ⟨btwo, hbtwo⟩ : ∃ b, decide (T.recs = other ∧ T.first = second) = b := ⟨_, rfl⟩
            have BONE := hid hbone; have BTWO := hid hbtwo
            clear hbone hbtwo
            go_upto_region 45 with (fail)
            go_cut [22] (fun s wx => s = .bool bone ∧ Upd (fun _ => False) w6 wx)
            case first =>
              go_wp2_with fail
              refine (shop_all SH6.out OKN.out).mono ?_
              rintro e w8 ⟨⟨a8, c8, rfl, o8, _⟩, u8⟩
              have SH8 := hid (SH6.out.upd u8)
              have SC := hid (TXS.out _ w8 o8 _ S.recs (Own1.upd OW6.out u8 fun _ _ => id) (STOK.out.txt))
              have U8 := hid u8
              clear o8 u8
              cases hb : (T.recs == S.recs) with
              | false =>
                rw [hb] at SC
                have D := hid (show decide (T.recs = S.recs ∧ T.first = S.first) = false from decide_eq_false fun h => by rw [beq_iff_eq.2 h.1] at hb; cases hb)
                clear hb
                go_wp2_with fail
                refine SC.out.mono ?_
                rintro e w9 ⟨rfl, u9⟩
                have U9 := hid (U8.out.trans u9)
                clear u9
                go_wp2_with fail
                go_meet
                case rel => exact ⟨by rw [← BONE.out, D.out], U9.out⟩
              | true =>
                rw [hb] at SC
                have HB2 := hid (beq_iff_eq.1 hb)
                clear hb
                go_wp2_with fail
                refine SC.out.mono ?_
                rintro e w9 ⟨rfl, u9⟩
                have U9 := hid (U8.out.trans u9); have SH9 := hid (SH8.out.upd u9)
                clear u9
                go_wp2_with fail
                refine (shop_first SH9.out).mono ?_
                rintro e w10 ⟨rfl, rfl⟩
                by_cases hf : T.first = S.first
                · have D := hid (show decide (T.recs = S.recs ∧ T.first = S.first) = true from decide_eq_true ⟨HB2.out, hf⟩)
                  have hfb : ((T.first : Int) == (S.first : Nat)) = true := beq_iff_eq.2 (by omega)
                  have hfe : (T.first : Int) = (S.first : Nat) := by omega
                  clear hf
                  go_wp2_with fail
                  go_meet
                  case rel => exact ⟨by rw [← BONE.out, D.out], U9.out⟩
                · have D := hid (show decide (T.recs = S.recs ∧ T.first = S.first) = false from decide_eq_false fun h => hf h.2)
                  have hfb : ((T.first : Int) == (S.first : Nat)) = false := beq_eq_false_iff_ne.2 (by omega)
                  have hfe : ¬ (T.first : Int) = (S.first : Nat) := by omega
                  clear hf
                  go_wp2_with fail
                  go_meet
                  case rel => exact ⟨by rw [← BONE.out, D.out], U9.out⟩
            case rest =>
              obtain ⟨rfl, uc⟩ := hcut
              obtain ⟨w7, hw7⟩ : ∃ w7, w7 = wc := ⟨_, rfl⟩
              rw [← hw7] at uc ⊢
              clear hw7
              have SH7 := hid (SH6.out.upd uc); have OT7 := hid (Own1.upd OT6.out uc fun _ _ => id)
              have SZ7 := hid uc.size
              clear uc
              go_upto_region 46 with (fail)
              go_cut [23] (fun s wx => s = .bool btwo ∧ Upd (fun _ => False) w7 wx)
              case first =>
                go_wp2_with fail
                refine (shop_all SH7.out OKN.out).mono ?_
                rintro e w8 ⟨⟨a8, c8, rfl, o8, _⟩, u8⟩
                have SH8 := hid (SH7.out.upd u8)
                have SC := hid (TXS.out _ w8 o8 _ other (Own1.upd OT7.out u8 fun _ _ => id) (fun r hr => Nat.le_trans (LA.out.txt2 r hr) (by decide)))
                have U8 := hid u8
                clear o8 u8
                cases hb : (T.recs == other) with
                | false =>
                  rw [hb] at SC
                  have D := hid (show decide (T.recs = other ∧ T.first = second) = false from decide_eq_false fun h => by rw [beq_iff_eq.2 h.1] at hb; cases hb)
                  clear hb
                  go_wp2_with fail
                  refine SC.out.mono ?_
                  rintro e w9 ⟨rfl, u9⟩
                  have U9 := hid (U8.out.trans u9)
                  clear u9
                  go_wp2_with fail
                  go_meet
                  case rel => exact ⟨by rw [← BTWO.out, D.out], U9.out⟩
                | true =>
                  rw [hb] at SC
                  have HB2 := hid (beq_iff_eq.1 hb)
                  clear hb
                  go_wp2_with fail
                  refine SC.out.mono ?_
                  rintro e w9 ⟨rfl, u9⟩
                  have U9 := hid (U8.out.trans u9); have SH9 := hid (SH8.out.upd u9)
                  clear u9
                  go_wp2_with fail
                  refine (shop_first SH9.out).mono ?_
                  rintro e w10 ⟨rfl, rfl⟩
                  by_cases hf : T.first = second
                  · have D := hid (show decide (T.recs = other ∧ T.first = second) = true from decide_eq_true ⟨HB2.out, hf⟩)
                    have hfb : ((T.first : Int) == (second : Nat)) = true := beq_iff_eq.2 (by omega)
                    have hfe : (T.first : Int) = (second : Nat) := by omega
                    clear hf
                    go_wp2_with fail
                    go_meet
                    case rel => exact ⟨by rw [← BTWO.out, D.out], U9.out⟩
                  · have D := hid (show decide (T.recs = other ∧ T.first = second) = false from decide_eq_false fun h => hf h.2)
                    have hfb : ((T.first : Int) == (second : Nat)) = false := beq_eq_false_iff_ne.2 (by omega)
                    have hfe : ¬ (T.first : Int) = (second : Nat) := by omega
                    clear hf
                    go_wp2_with fail
                    go_meet
                    case rel => exact ⟨by rw [← BTWO.out, D.out], U9.out⟩
              case rest =>
                obtain ⟨rfl, uc⟩ := hcut
                obtain ⟨w8, hw8⟩ : ∃ w8, w8 = wc := ⟨_, rfl⟩
                rw [← hw8] at uc ⊢
                clear hw8
                have SH8 := hid (SH7.out.upd uc); have SZ8 := hid (Nat.le_trans SZ7.out uc.size)
                clear uc
                have TL := hid (show (T.recs.length : Int) ≤ 900000 ∧ (T.first : Int) ≤ 900000 from by have := OKN.out.len; unfold St.len at this; omega)
                go_upto_region 47 with (fail)
                go_cut [194] (fun s wx => s = .bool false ∧ Upd (fun _ => False) w8 wx)
                case first =>
                  have tail : True := trivial
                  obtain ⟨tl1, tl2⟩ := TL.out
                  by_cases hone : T.recs = S.recs ∧ T.first = S.first
                  · obtain rfl : bone = true := BONE.out.symm.trans (decide_eq_true hone)
                    clear hone
                    go_wp2_with fail
                    refine (shop_len SH8.out OKN.out).mono ?_
                    rintro e wd ⟨rfl, ud⟩
                    rw [show T.len = T.first + T.recs.length from rfl]
                    have SHd := hid (SH8.out.upd ud); have UD := hid ud
                    clear ud
                    go_wp2_with fail
                    refine (shop_first SHd.out).mono ?_
                    rintro e we ⟨rfl, rfl⟩
                    go_wp2_with fail
                    refine (shop_all SHd.out OKN.out).mono ?_
                    rintro e wf ⟨⟨a8, c8, rfl, _, _⟩, uf⟩
                    have UF := hid (UD.out.trans uf)
                    clear uf
                    go_wp2_with fail
                    go_meet
                    case rel => exact ⟨rfl, UF.out⟩
                  · obtain rfl : bone = false := BONE.out.symm.trans (decide_eq_false hone)
                    have htwo : T.recs = other ∧ T.first = second := by
                      rcases WHO.out with h | h
                      · exact absurd h hone
                      · exact h
                    obtain rfl : btwo = true := BTWO.out.symm.trans (decide_eq_true htwo)
                    clear hone htwo
                    go_wp2_with fail
                    refine (shop_len SH8.out OKN.out).mono ?_
                    rintro e wd ⟨rfl, ud⟩
                    rw [show T.len = T.first + T.recs.length from rfl]
                    have SHd := hid (SH8.out.upd ud); have UD := hid ud
                    clear ud
                    go_wp2_with fail
                    refine (shop_first SHd.out).mono ?_
                    rintro e we ⟨rfl, rfl⟩
                    go_wp2_with fail
                    refine (shop_all SHd.out OKN.out).mono ?_
                    rintro e wf ⟨⟨a8, c8, rfl, _, _⟩, uf⟩
                    have UF := hid (UD.out.trans uf)
                    clear uf
                    go_wp2_with fail
                    go_meet
                    case rel => exact ⟨rfl, UF.out⟩
                case rest =>
                  obtain ⟨rfl, uc⟩ := hcut
                  obtain ⟨w9, hw9⟩ : ∃ w9, w9 = wc := ⟨_, rfl⟩
                  rw [← hw9] at uc ⊢
                  clear hw9
                  have SH9 := hid (SH8.out.upd uc); have SZ9 := hid (Nat.le_trans SZ8.out uc.size)
                  clear uc
                  go_wp2_with fail
                  refine (shop_all SH9.out OKN.out).mono ?_
                  rintro e w10 ⟨⟨a8, c8, rfl, o8, n8⟩, u8⟩
                  have SH10 := hid (SH9.out.upd u8); have O8 := hid o8
                  have N8 := hid (show ∀ g, (Value.slice a8 T.recs.length c8).ownBlock = some g → ¬ ON g from fun g hg e => by have h1 := n8 g hg; have h2 := ONL.out g e; have h3 := SZ9.out; omega)
                  clear u8 o8 n8
                  go_wp2_with fail
                  refine (shop_first SH10.out).mono ?_
                  rintro e w11 ⟨rfl, rfl⟩
                  have NXT := hid (show LastsAt w nb np p q (i + 1) (.pointer (some ⟨y, 0, none⟩)) (.slice a8 T.recs.length c8) (.slice a8 T.recs.length c8) (.int .i64 T.first) (.int .i64 T.first) w10 from
                    ⟨y, ON, G, T, a8, c8, a8, c8, T.first, T.recs, rfl, rfl, rfl, rfl, rfl, SH10.out, O8.out, O8.out, N8.out, N8.out, LAN.out⟩)
                  go_wp2_with fail
                  go_roundg (l.length + 1 - (i + 1))
                  case measure => have := HG.out; omega
                  case rel => exact ⟨i + 1, by go_num, by omega, rfl, NXT.out⟩
        by_cases h5 : kd = 5
        case pos =>
          as_aux_lemma =>
            subst h5
            have h45 : (5 : Int) = 4 ∨ (5 : Int) = 5 := .inr rfl
            clear hk hk1 hkb hk1b h4
            have DN := hid (S45.out h45)
            obtain ⟨l1, l2, l3, l4, l5⟩ := LA.out.open_ HB.out.1 HP.out.2 J1.out.2.2 SK.out DN.out
            have LAN := hid l1; have WHO := hid l2; have GNB := hid l3; have GINV := hid l4; have GPOS := hid l5
            obtain ⟨T, hT⟩ : ∃ T, openP G = T := ⟨_, rfl⟩
            rw [hT] at LAN WHO
            have HT := hid hT
            have OKN := hid (LAN.out.bnd.ok (by have := I41.out; omega) (by have := I41.out; omega))
            clear l1 l2 l3 l4 l5 hT
            go_wp2_with fail
            refine KC.out.mono ?_
            rintro e w5 ⟨rfl, f5, u5⟩
            have PX := hid (show O p from by obtain ⟨⟨vr, va, st⟩, _, _⟩ := SHA.out; exact st.op)
            have QX := hid (show O q from by obtain ⟨⟨vr, va, st⟩, _, _⟩ := SHA.out; exact st.oq)
            have E5 := hid (u5.block ob OBS.out (fun e => OBN.out (by rw [e]; exact PX.out)))
            have OW5 := hid (Own1.upd OWA.out u5 (fun g hg e => NW.out g hg (by rw [e]; exact PX.out))); have OT5 := hid (Own1.upd OTA.out u5 (fun g hg e => NT.out g hg (by rw [e]; exact PX.out)))
            have F5 := hid f5
            have U5 := hid (show Upd (fun _ => False) w w5 from SHA.out.2.2.comp u5 fun k hk e => by have := (shop_flash SHA.out).2.1; omega)
            clear f5 u5 z0 z1 z2 z3 KC
            obtain ⟨z0, z1, z2, z3⟩ := cell.out w5 E5.out
            have OC := hid (shop_open F5.out (shop_flash SHA.out).2.1 (shop_flash SHA.out).2.2.1 U5.out GNB.out DN.out GINV.out GPOS.out HE.out HZ.out HT.out)
            go_wp2_with fail
            refine OC.out.mono ?_
            rintro e w6 ⟨y, rfl, ⟨ON, sh6, ho6⟩, so6⟩
            have SH6 := hid sh6
            have OW6 := hid (Own1.upd OW5.out so6 fun g hg e => by
              rcases e.1 with rfl | rfl
              · exact NW.out _ hg PX.out
              · exact NW.out _ hg QX.out)
            have OT6 := hid (Own1.upd OT5.out so6 fun g hg e => by
              rcases e.1 with rfl | rfl
              · exact NT.out _ hg PX.out
              · exact NT.out _ hg QX.out)
            have ONL := hid (show ∀ k, ON k → k < w6.heap.size from fun k hk => by obtain ⟨⟨vr, va, st⟩, _, _⟩ := sh6; exact st.lt k hk)
            clear sh6 so6 OC z0 z1 z2 z3
            have TXS := hid (fun (v8 : Value) (wq : World) (o8 : OwnS wq v8 T.recs) (v9 : Value) (l9 : List (List UInt8)) (o9 : OwnS wq v9 l9) (ht : ∀ r ∈ l9, r.length ≤ 1000000) => sameTexts_any v8 v9 T.recs l9 wq (OwnS.rep o8 (fun x hx => Nat.le_trans (OKN.out.txt x hx) (by decide)) fun g hg => Own1.lt o8 g hg) (OwnS.rep o9 (fun x hx => Nat.le_trans (ht x hx) (by decide)) fun g hg => Own1.lt o9 g hg))
            obtain ⟨bone, hbone⟩ : ∃ b, decide (T.recs = S.recs ∧ T.first = S.first) = b := ⟨_, rfl⟩
            obtain ⟨btwo, hbtwo⟩ : ∃ b, decide (T.recs = other ∧ T.first = second) = b := ⟨_, rfl⟩
            have BONE := hid hbone; have BTWO := hid hbtwo
            clear hbone hbtwo
            go_upto_region 45 with (fail)
            go_cut [22] (fun s wx => s = .bool bone ∧ Upd (fun _ => False) w6 wx)
            case first =>
              go_wp2_with fail
              refine (shop_all SH6.out OKN.out).mono ?_
              rintro e w8 ⟨⟨a8, c8, rfl, o8, _⟩, u8⟩
              have SH8 := hid (SH6.out.upd u8)
              have SC := hid (TXS.out _ w8 o8 _ S.recs (Own1.upd OW6.out u8 fun _ _ => id) (STOK.out.txt))
              have U8 := hid u8
              clear o8 u8
              cases hb : (T.recs == S.recs) with
              | false =>
                rw [hb] at SC
                have D := hid (show decide (T.recs = S.recs ∧ T.first = S.first) = false from decide_eq_false fun h => by rw [beq_iff_eq.2 h.1] at hb; cases hb)
                clear hb
                go_wp2_with fail
                refine SC.out.mono ?_
                rintro e w9 ⟨rfl, u9⟩
                have U9 := hid (U8.out.trans u9)
                clear u9
                go_wp2_with fail
                go_meet
                case rel => exact ⟨by rw [← BONE.out, D.out], U9.out⟩
              | true =>
                rw [hb] at SC
                have HB2 := hid (beq_iff_eq.1 hb)
                clear hb
                go_wp2_with fail
                refine SC.out.mono ?_
                rintro e w9 ⟨rfl, u9⟩
                have U9 := hid (U8.out.trans u9); have SH9 := hid (SH8.out.upd u9)
                clear u9
                go_wp2_with fail
                refine (shop_first SH9.out).mono ?_
                rintro e w10 ⟨rfl, rfl⟩
                by_cases hf : T.first = S.first
                · have D := hid (show decide (T.recs = S.recs ∧ T.first = S.first) = true from decide_eq_true ⟨HB2.out, hf⟩)
                  have hfb : ((T.first : Int) == (S.first : Nat)) = true := beq_iff_eq.2 (by omega)
                  have hfe : (T.first : Int) = (S.first : Nat) := by omega
                  clear hf
                  go_wp2_with fail
                  go_meet
                  case rel => exact ⟨by rw [← BONE.out, D.out], U9.out⟩
                · have D := hid (show decide (T.recs = S.recs ∧ T.first = S.first) = false from decide_eq_false fun h => hf h.2)
                  have hfb : ((T.first : Int) == (S.first : Nat)) = false := beq_eq_false_iff_ne.2 (by omega)
                  have hfe : ¬ (T.first : Int) = (S.first : Nat) := by omega
                  clear hf
                  go_wp2_with fail
                  go_meet
                  case rel => exact ⟨by rw [← BONE.out, D.out], U9.out⟩
            case rest =>
              obtain ⟨rfl, uc⟩ := hcut
              obtain ⟨w7, hw7⟩ : ∃ w7, w7 = wc := ⟨_, rfl⟩
              rw [← hw7] at uc ⊢
              clear hw7
              have SH7 := hid (SH6.out.upd uc); have OT7 := hid (Own1.upd OT6.out uc fun _ _ => id)
              have SZ7 := hid uc.size
              clear uc
              go_upto_region 46 with (fail)
              go_cut [23] (fun s wx => s = .bool btwo ∧ Upd (fun _ => False) w7 wx)
              case first =>
                go_wp2_with fail
                refine (shop_all SH7.out OKN.out).mono ?_
                rintro e w8 ⟨⟨a8, c8, rfl, o8, _⟩, u8⟩
                have SH8 := hid (SH7.out.upd u8)
                have SC := hid (TXS.out _ w8 o8 _ other (Own1.upd OT7.out u8 fun _ _ => id) (fun r hr => Nat.le_trans (LA.out.txt2 r hr) (by decide)))
                have U8 := hid u8
                clear o8 u8
                cases hb : (T.recs == other) with
                | false =>
                  rw [hb] at SC
                  have D := hid (show decide (T.recs = other ∧ T.first = second) = false from decide_eq_false fun h => by rw [beq_iff_eq.2 h.1] at hb; cases hb)
                  clear hb
                  go_wp2_with fail
                  refine SC.out.mono ?_
                  rintro e w9 ⟨rfl, u9⟩
                  have U9 := hid (U8.out.trans u9)
                  clear u9
                  go_wp2_with fail
                  go_meet
                  case rel => exact ⟨by rw [← BTWO.out, D.out], U9.out⟩
                | true =>
                  rw [hb] at SC
                  have HB2 := hid (beq_iff_eq.1 hb)
                  clear hb
                  go_wp2_with fail
                  refine SC.out.mono ?_
                  rintro e w9 ⟨rfl, u9⟩
                  have U9 := hid (U8.out.trans u9); have SH9 := hid (SH8.out.upd u9)
                  clear u9
                  go_wp2_with fail
                  refine (shop_first SH9.out).mono ?_
                  rintro e w10 ⟨rfl, rfl⟩
                  by_cases hf : T.first = second
                  · have D := hid (show decide (T.recs = other ∧ T.first = second) = true from decide_eq_true ⟨HB2.out, hf⟩)
                    have hfb : ((T.first : Int) == (second : Nat)) = true := beq_iff_eq.2 (by omega)
                    have hfe : (T.first : Int) = (second : Nat) := by omega
                    clear hf
                    go_wp2_with fail
                    go_meet
                    case rel => exact ⟨by rw [← BTWO.out, D.out], U9.out⟩
                  · have D := hid (show decide (T.recs = other ∧ T.first = second) = false from decide_eq_false fun h => hf h.2)
                    have hfb : ((T.first : Int) == (second : Nat)) = false := beq_eq_false_iff_ne.2 (by omega)
                    have hfe : ¬ (T.first : Int) = (second : Nat) := by omega
                    clear hf
                    go_wp2_with fail
                    go_meet
                    case rel => exact ⟨by rw [← BTWO.out, D.out], U9.out⟩
              case rest =>
                obtain ⟨rfl, uc⟩ := hcut
                obtain ⟨w8, hw8⟩ : ∃ w8, w8 = wc := ⟨_, rfl⟩
                rw [← hw8] at uc ⊢
                clear hw8
                have SH8 := hid (SH7.out.upd uc); have SZ8 := hid (Nat.le_trans SZ7.out uc.size)
                clear uc
                have TL := hid (show (T.recs.length : Int) ≤ 900000 ∧ (T.first : Int) ≤ 900000 from by have := OKN.out.len; unfold St.len at this; omega)
                go_upto_region 47 with (fail)
                go_cut [194] (fun s wx => s = .bool false ∧ Upd (fun _ => False) w8 wx)
                case first =>
                  have tail : True := trivial
                  obtain ⟨tl1, tl2⟩ := TL.out
                  by_cases hone : T.recs = S.recs ∧ T.first = S.first
                  · obtain rfl : bone = true := BONE.out.symm.trans (decide_eq_true hone)
                    clear hone
                    go_wp2_with fail
                    refine (shop_len SH8.out OKN.out).mono ?_
                    rintro e wd ⟨rfl, ud⟩
                    rw [show T.len = T.first + T.recs.length from rfl]
                    have SHd := hid (SH8.out.upd ud); have UD := hid ud
                    clear ud
                    go_wp2_with fail
                    refine (shop_first SHd.out).mono ?_
                    rintro e we ⟨rfl, rfl⟩
                    go_wp2_with fail
                    refine (shop_all SHd.out OKN.out).mono ?_
                    rintro e wf ⟨⟨a8, c8, rfl, _, _⟩, uf⟩
                    have UF := hid (UD.out.trans uf)
                    clear uf
                    go_wp2_with fail
                    go_meet
                    case rel => exact ⟨rfl, UF.out⟩
                  · obtain rfl : bone = false := BONE.out.symm.trans (decide_eq_false hone)
                    have htwo : T.recs = other ∧ T.first = second := by
                      rcases WHO.out with h | h
                      · exact absurd h hone
                      · exact h
                    obtain rfl : btwo = true := BTWO.out.symm.trans (decide_eq_true htwo)
                    clear hone htwo
                    go_wp2_with fail
                    refine (shop_len SH8.out OKN.out).mono ?_
                    rintro e wd ⟨rfl, ud⟩
                    rw [show T.len = T.first + T.recs.length from rfl]
                    have SHd := hid (SH8.out.upd ud); have UD := hid ud
                    clear ud
                    go_wp2_with fail
                    refine (shop_first SHd.out).mono ?_
                    rintro e we ⟨rfl, rfl⟩
                    go_wp2_with fail
                    refine (shop_all SHd.out OKN.out).mono ?_
                    rintro e wf ⟨⟨a8, c8, rfl, _, _⟩, uf⟩
                    have UF := hid (UD.out.trans uf)
                    clear uf
                    go_wp2_with fail
                    go_meet
                    case rel => exact ⟨rfl, UF.out⟩
                case rest =>
                  obtain ⟨rfl, uc⟩ := hcut
                  obtain ⟨w9, hw9⟩ : ∃ w9, w9 = wc := ⟨_, rfl⟩
                  rw [← hw9] at uc ⊢
                  clear hw9
                  have SH9 := hid (SH8.out.upd uc); have SZ9 := hid (Nat.le_trans SZ8.out uc.size)
                  clear uc
                  go_wp2_with fail
                  refine (shop_all SH9.out OKN.out).mono ?_
                  rintro e w10 ⟨⟨a8, c8, rfl, o8, n8⟩, u8⟩
                  have SH10 := hid (SH9.out.upd u8); have O8 := hid o8
                  have N8 := hid (show ∀ g, (Value.slice a8 T.recs.length c8).ownBlock = some g → ¬ ON g from fun g hg e => by have h1 := n8 g hg; have h2 := ONL.out g e; have h3 := SZ9.out; omega)
                  clear u8 o8 n8
                  go_wp2_with fail
                  refine (shop_first SH10.out).mono ?_
                  rintro e w11 ⟨rfl, rfl⟩
                  have NXT := hid (show LastsAt w nb np p q (i + 1) (.pointer (some ⟨y, 0, none⟩)) (.slice a8 T.recs.length c8) (.slice a8 T.recs.length c8) (.int .i64 T.first) (.int .i64 T.first) w10 from
                    ⟨y, ON, G, T, a8, c8, a8, c8, T.first, T.recs, rfl, rfl, rfl, rfl, rfl, SH10.out, O8.out, O8.out, N8.out, N8.out, LAN.out⟩)
                  go_wp2_with fail
                  go_roundg (l.length + 1 - (i + 1))
                  case measure => have := HG.out; omega
                  case rel => exact ⟨i + 1, by go_num, by omega, rfl, NXT.out⟩
        as_aux_lemma =>
          have g4 : (kd == 4) = false := beq_eq_false_iff_ne.2 h4
          have g5 : (kd == 5) = false := beq_eq_false_iff_ne.2 h5
          have g4n : (kd != 4) = true := by rw [bne_iff_ne]; exact h4
          have g5n : (kd != 5) = true := by rw [bne_iff_ne]; exact h5
          have SDN := hid (show G.down = F.down from SD.out (by rintro (h | h); exact h4 h; exact h5 h))
          go_wp2_with fail
          refine KC.out.mono ?_
          rintro e w5 ⟨rfl, f5, u5⟩
          have E5 := hid (u5.block ob OBS.out (fun e => OBN.out (by obtain ⟨⟨vr, va, st⟩, _, _⟩ := SHA.out; rw [e]; exact st.op)))
          have NXT := hid (show LastsAt w nb np p q (i + 1) (.pointer (some ⟨x1, 0, none⟩)) (.slice a S.recs.length c) (.slice a2 other.length c2) (.int .i64 S.first) (.int .i64 second) w5 from by
            obtain ⟨⟨vr, va, st⟩, _, _⟩ := SHA.out
            exact ⟨x1, O, G, S, a, c, a2, c2, second, other, rfl, rfl, rfl, rfl, rfl, SHA.out.shaken f5 u5 SK.out.nb SK.out.np, Own1.upd OWA.out u5 (fun g hg e => NW.out g hg (by rw [e]; exact st.op)), Own1.upd OTA.out u5 (fun g hg e => NT.out g hg (by rw [e]; exact st.op)), NW.out, NT.out, (LA.out.shake SK.out SDN.out).wide (Nat.le_succ i)⟩)
          clear f5 u5 z0 z1 z2 z3
          obtain ⟨z0, z1, z2, z3⟩ := cell.out w5 E5.out
          go_wp2_with fail
          go_roundg (l.length + 1 - (i + 1))
          case measure => have := HG.out; omega
          case rel => exact ⟨i + 1, by go_num, by omega, rfl, NXT.out⟩
theorem lasts_card (x0 x1 : Int) (v : Value) (l : List OpS) (w : World) (E : Env w) (hz : 6 ≤ w.heap.size) (h0 : (Lit.int .u8 x0).wf = true) (h1 : (Lit.int .u8 x1).wf = true) (hl : (kSlice kOpS).rep (· < w.heap.size) w [v] l) :
    Calls Tryz.prog 4 #[.int .u8 x0, .int .u8 x1, v] w fun e w' => e = .returned (.bool true) ∧ Below w.heap.size w w' :=
  (lasts_walk x0 x1 v l w E hz h0 h1 hl).mono fun _ _ h => ⟨h.1, h.2.below (Nat.le_refl _) fun _ h => h.elim⟩
end Go.Proofs.YtlefilfdomjkeaaGreatDoor
