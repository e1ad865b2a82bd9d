/- The walk of Erase of flash. -/
import Derived.Test.YtlefilfdomjkeaaGreatDoorFlA3
import Derived.Lib.SliceRun
namespace Go.Proofs.YtlefilfdomjkeaaGreatDoor
open Go.RowKit

theorem setCells_block (w : World) (b : Nat) (t : TypeId) (fr : Nat × Nat) (z : Value) : ∀ (n o : Nat) (w : World) (cs : Array Value), w.heap[b]? = some (.cells cs t fr) → o + n ≤ cs.size →
    ∃ cs', (w.setCells b o (List.replicate n z)).heap[b]? = some (.cells cs' t fr) ∧ (∀ j, j < o ∨ o + n ≤ j → cs'[j]? = cs[j]?) ∧ (∀ j, o ≤ j → j < o + n → cs'[j]? = some z)
  | 0, o, w, cs, h, _ => ⟨cs, h, fun _ _ => rfl, fun j h1 h2 => by omega⟩
  | n + 1, o, w, cs, h, hs => by
    have h1 : (w.setCell ⟨b, o, none⟩ z).heap[b]? = some (.cells (cs.setIfInBounds o z) t fr) := heap_setCell_same rfl h
    obtain ⟨cs', g1, g2, g3⟩ := setCells_block w b t fr z n (o + 1) (w.setCell ⟨b, o, none⟩ z) (cs.setIfInBounds o z) h1 (by simp; omega)
    refine ⟨cs', g1, fun j hj => ?_, fun j hj1 hj2 => ?_⟩
    · rw [g2 j (by omega), Array.getElem?_setIfInBounds_ne (by omega)]
    · by_cases e : j = o
      · subst e
        rw [g2 j (by omega)]
        exact Array.getElem?_setIfInBounds_self_of_lt (by omega)
      · exact g3 j (by omega) (by omega)

theorem upd_setCells {S : Nat → Prop} {a : World} (b : Nat) (hb : S b) : ∀ (vs : List Value) (o : Nat) (w : World), Upd S a w → Upd S a (w.setCells b o vs)
  | [], _, _, h => h
  | v :: vs, o, w, h => upd_setCells b hb vs (o + 1) (w.setCell ⟨b, o, none⟩ v) (h.setCell _ v (.inl hb))

theorem FlashAt.clear {w : World} {p q n m : Nat} {F : Fl} (h : FlashAt w p q F) (hn : n < F.nb) :
    FlashAt (w.setCells q (n * 17 + m) (List.replicate (16 - m) (.pointer none))) p q (F.clear n m) ∧ Upd (· = q) w (w.setCells q (n * 17 + m) (List.replicate (16 - m) (.pointer none))) := by
  have u : Upd (· = q) w (w.setCells q (n * 17 + m) (List.replicate (16 - m) (.pointer none))) := upd_setCells (S := (· = q)) q rfl _ _ _ (Upd.refl _ _)
  refine ⟨?_, u⟩
  obtain ⟨cap, h1⟩ := h.head
  obtain ⟨cs, h2, h3⟩ := h.rows
  have hlt : n * 17 + 16 < cs.size := by
    have := (h3 n hn).1
    rcases Nat.lt_or_ge (n * 17 + 16) cs.size with g1 | g1
    · exact g1
    · rw [Array.getElem?_eq_none g1] at this; cases this
  by_cases hm : m ≤ 16
  · obtain ⟨cs', g1, g2, g3⟩ := setCells_block w q 102 (0, 0) (.pointer none) (16 - m) (n * 17 + m) w cs h2 (by omega)
    refine ⟨⟨cap, by rw [u.block p (heap_lt h1) h.ne]; exact h1⟩, ⟨cs', g1, ?_⟩, Fl.clear_ok h.ok n m⟩
    intro i hi
    obtain ⟨a1, a2⟩ := h3 i hi
    refine ⟨by rw [g2 _ (by omega), a1, F.clear_wear], fun k hk => ?_⟩
    obtain ⟨v, hv, hp⟩ := a2 k hk
    by_cases e : i = n ∧ m ≤ k
    · obtain ⟨rfl, e2⟩ := e
      refine ⟨_, g3 _ (by omega) (by omega), ?_⟩
      simp only [Fl.clear, if_true, if_pos e2]
      rfl
    · refine ⟨v, by rw [g2 _ (by omega)]; exact hv, ?_⟩
      have : ((F.clear n m).blk i).page k = (F.blk i).page k := by
        simp only [Fl.clear]
        split
        · rename_i e1; subst e1
          exact if_neg fun e2 => e ⟨rfl, e2⟩
        · rfl
      rw [this]
      exact hp.upd u fun k hk => hk ▸ h.noStr_q
  · have e0 : 16 - m = 0 := by omega
    rw [e0] at u ⊢
    refine ⟨⟨cap, h1⟩, ⟨cs, h2, ?_⟩, Fl.clear_ok h.ok n m⟩
    intro i hi
    obtain ⟨a1, a2⟩ := h3 i hi
    refine ⟨by rw [a1, F.clear_wear], fun k hk => ?_⟩
    have : ((F.clear n m).blk i).page k = (F.blk i).page k := by
      simp only [Fl.clear]
      split
      · rename_i e1; subst e1
        exact if_neg (by omega)
      · rfl
    rw [this]
    exact a2 k hk

theorem FlashAt.worn {w : World} {p q n : Nat} {F : Fl} (h : FlashAt w p q F) (hn : n < F.nb) (hw : (F.blk n).wear < 1000) :
    FlashAt (w.setCell ⟨q, n * 17 + 16, none⟩ (.int .i64 ((F.blk n).wear + 1))) p q (F.worn n) := by
  obtain ⟨cap, h1⟩ := h.head
  obtain ⟨cs, h2, h3⟩ := h.rows
  have u := (Upd.refl (· = q) w).at_ (n * 17 + 16) (.int .i64 ((F.blk n).wear + 1))
  refine ⟨⟨cap, by rw [heap_setCell_other h.ne]; exact h1⟩, ⟨cs.setIfInBounds (n * 17 + 16) (.int .i64 ((F.blk n).wear + 1)), heap_setCell_same rfl h2, ?_⟩, ⟨h.ok.nb, h.ok.np, h.ok.lost, h.ok.left, fun i hi => ?_⟩⟩
  · intro i hi
    obtain ⟨a1, a2⟩ := h3 i hi
    have hlt : i * 17 + 16 < cs.size := by
      rcases Nat.lt_or_ge (i * 17 + 16) cs.size with g1 | g1
      · exact g1
      · rw [Array.getElem?_eq_none g1] at a1; cases a1
    refine ⟨?_, fun k hk => ?_⟩
    · by_cases e : i = n
      · subst e
        rw [Array.getElem?_setIfInBounds_self_of_lt hlt]
        simp [Fl.worn]
      · rw [Array.getElem?_setIfInBounds_ne (by omega), a1]
        simp [Fl.worn, e]
    · obtain ⟨v, hv, hp⟩ := a2 k hk
      refine ⟨v, by rw [Array.getElem?_setIfInBounds_ne (by omega)]; exact hv, ?_⟩
      have : ((F.worn n).blk i).page k = (F.blk i).page k := by
        simp only [Fl.worn]
        split
        · rename_i e1; subst e1; rfl
        · rfl
      rw [this]
      exact hp.upd u fun k hk => hk ▸ h.noStr_q
  · show (if i = n then _ else F.blk i : Blk).wear ≤ 1000
    split
    · show (F.blk n).wear + 1 ≤ 1000; omega
    · exact h.ok.wear i hi

theorem zero58 (w : World) : (zeroValue 99).run Tryz.prog w = .ok (.pointer none) w := by kernel_rfl

theorem clear_run {w : World} {p q n m : Nat} {F : Fl} (h : FlashAt w p q F) (hn : n < F.nb) (hm : m < 16) (ty : TypeId) :
    (Builtin.clear_ #[123] ty #[.slice (some ⟨q, n * 17 + m, none⟩) (16 - m) (16 - m)]).run Tryz.prog w = .ok (.tuple #[]) (w.setCells q (n * 17 + m) (List.replicate (16 - m) (.pointer none))) :=
  Lib.run_clear_slice w 123 99 ty (.pointer none) Tryz.underlying123 zero58 rfl rfl q (n * 17 + m) (16 - m) (16 - m) (by omega)
    (fun j hj => by
      obtain ⟨v, hv, _⟩ := h.page_cell hn (by omega : m + j < 16)
      rw [Nat.add_assoc, hv]; rfl)
    (fun j _ => h.frozen_q _)

def ErasePost (p q : Nat) (F : Fl) (b : Int) (w : World) (e : Ending) (w' : World) : Prop :=
  e = .returned (.int .i64 (F.erase b).2) ∧ FlashAt w' p q (F.erase b).1 ∧ Upd (fun k => k = p ∨ k = q) w w'

set_option maxRecDepth 100000 in
set_option maxHeartbeats 1000000 in
theorem erase_ok (p q n : Nat) (w : World) (F : Fl) (h : FlashAt w p q F) (hd : F.down = false) (hn : n < F.nb) :
    Calls Tryz.prog 69 #[.pointer (some ⟨p, 0, none⟩), .int .i64 n] w (ErasePost p q F n w) := by
  have hnb := h.ok.nb.2
  have hnp := h.ok.np
  have hwb := h.ok.wear n hn
  have hcw := h.wear_cell hn
  have E0 : F.erase n = if 1000 ≤ (F.blk n).wear then (F, 10) else
      if F.tick.down then ((F.tick.clear n (min (max F.keep 0) F.np).toNat).worn n, 8) else ((F.tick.clear n 0).worn n, 0) := by
    unfold Fl.erase
    rw [if_neg (by rw [Fl.atErr_ok hd (by omega) (by omega) (by omega) (by omega)]; exact fun h => h rfl)]
    rfl
  have E := hid E0; clear E0
  have H := hid h; clear h
  by_cases hw : 1000 ≤ (F.blk n).wear
  · have e1 : F.erase n = (F, 10) := by rw [E.out, if_pos hw]
    have E1 := hid e1; clear e1
    have hw' : (1000 : Int) ≤ (F.blk n).wear := by omega
    go_enter Tryz.func69, Tryz.ntmps69
    go_wp2_with fail
    refine (at_ok p q n 0 w F H.out hd hn hnp.1).mono ?_
    rintro e w' ⟨rfl, rfl⟩
    go_wp2_with fail
    go_ret
    unfold ErasePost
    rw [E1.out]
    exact ⟨rfl, H.out, Upd.refl _ _⟩
  · have hw' : ((F.blk n).wear : Int) < 1000 := by omega
    have HW := hid hw; clear hw hwb
    go_enter Tryz.func69, Tryz.ntmps69
    go_wp2_with fail
    refine (at_ok p q n 0 w F H.out hd hn hnp.1).mono ?_
    rintro e w' ⟨rfl, rfl⟩
    go_wp2_with fail
    clear hcw
    refine (crashes_any p q _ F H.out).mono ?_
    rintro e w2 ⟨rfl, f2, u2⟩
    obtain ⟨cap2, ⟨d0, d1, d2, d3, d4, d5⟩, hz2⟩ := f2.cells
    have tn : F.tick.nb = F.nb := F.tick_blk.2.1
    have tb : F.tick.blk = F.blk := F.tick_blk.1
    have tp : F.tick.np = F.np := F.tick_blk.2.2.1
    have tk : F.tick.keep = F.keep := F.tick_blk.2.2.2.2
    rw [tp] at d1
    rw [tk] at d5
    have hnt : n < F.tick.nb := by rw [tn]; exact hn
    have H2 := hid f2; clear f2
    have UW := hid u2; clear u2
    have TB := hid tb; have TN := hid tn; clear tb tn tp tk
    have fin : ∀ (W : World) (m : Nat), FlashAt W p q F.tick → Upd (· = p) w W →
        FlashAt (((W.setCells q (n * 17 + m) (List.replicate (16 - m) (.pointer none)))).setCell ⟨q, n * 17 + 16, none⟩ (.int .i64 ((F.blk n).wear + 1))) p q ((F.tick.clear n m).worn n) ∧
        Upd (fun k => k = p ∨ k = q) w (((W.setCells q (n * 17 + m) (List.replicate (16 - m) (.pointer none)))).setCell ⟨q, n * 17 + 16, none⟩ (.int .i64 ((F.blk n).wear + 1))) := by
      intro W m hW uW
      obtain ⟨g1, g2⟩ := hW.clear (m := m) hnt
      have hwe : ((F.tick.clear n m).blk n).wear = (F.blk n).wear := by rw [Fl.clear_wear, TB.out]
      have g3 := g1.worn (n := n) hnt (by rw [hwe]; omega)
      rw [hwe] at g3
      exact ⟨g3, (((uW.mono (T := fun k => k = p ∨ k = q) fun k hk => .inl hk).trans (g2.mono fun k hk => .inr hk))).setCell _ _ (.inl (.inr rfl))⟩
    have FIN := hid fin; clear fin
    cases ht : F.tick.down
    · have e1 : F.erase n = ((F.tick.clear n 0).worn n, 0) := by rw [E.out, if_neg HW.out, if_neg (by rw [ht]; decide)]
      have E1 := hid e1; clear e1
      have hcl : ∀ ty, (Builtin.clear_ #[123] ty #[.slice (some ⟨q, n * 17, none⟩) 16 16]).run Tryz.prog w2 = .ok (.tuple #[]) (w2.setCells q (n * 17 + 0) (List.replicate (16 - 0) (.pointer none))) := fun ty => clear_run H2.out hnt (by decide : 0 < 16) ty
      have hwc : (w2.setCells q (n * 17 + 0) (List.replicate (16 - 0) (.pointer none))).cell? ⟨q, n * 17 + 16, none⟩ = some (.int .i64 (F.blk n).wear) := by
        rw [(H2.out.clear (m := 0) hnt).1.wear_cell hnt, Fl.clear_wear, TB.out]
      have hwz : (w2.setCells q (n * 17 + 0) (List.replicate (16 - 0) (.pointer none))).frozen? ⟨q, n * 17 + 16, none⟩ = false := (H2.out.clear (m := 0) hnt).1.frozen_q _
      have FI := hid (FIN.out w2 0 H2.out UW.out)
      generalize hW : w2.setCells q (n * 17 + 0) (List.replicate (16 - 0) (.pointer none)) = W3 at *
      clear hW
      go_wp2_with (simp only [hcl])
      go_ret
      unfold ErasePost
      rw [E1.out]
      exact ⟨rfl, FI.out⟩
    · have W2 : FlashAt w2.drew p q F.tick := H2.out.upd (S := fun _ => False) ((Upd.refl _ _).drew) id id (fun _ h => h.elim)
      have W2 := hid W2
      have U2 := hid UW.out.drew
      have e8 : ∀ m : Nat, (m : Int) = min (max F.keep 0) F.np → F.erase n = ((F.tick.clear n m).worn n, 8) := fun m hm => by rw [E.out, if_neg HW.out, if_pos ht, ← hm]; rfl
      have E8 := hid e8; clear e8
      by_cases hk0 : F.keep < 0
      · have E1 := hid (E8.out 0 (by omega))
        have hcl : ∀ ty, (Builtin.clear_ #[123] ty #[.slice (some ⟨q, n * 17, none⟩) 16 16]).run Tryz.prog w2.drew = .ok (.tuple #[]) (w2.drew.setCells q (n * 17 + 0) (List.replicate (16 - 0) (.pointer none))) := fun ty => clear_run W2.out hnt (by omega : 0 < 16) ty
        have hwc : (w2.drew.setCells q (n * 17 + 0) (List.replicate (16 - 0) (.pointer none))).cell? ⟨q, n * 17 + 16, none⟩ = some (.int .i64 (F.blk n).wear) := by
          have := (W2.out.clear (m := 0) hnt).1.wear_cell hnt
          rw [Fl.clear_wear, TB.out] at this; exact this
        have hwz : (w2.drew.setCells q (n * 17 + 0) (List.replicate (16 - 0) (.pointer none))).frozen? ⟨q, n * 17 + 16, none⟩ = false := (W2.out.clear (m := 0) hnt).1.frozen_q _
        have fi := FIN.out w2.drew 0 W2.out U2.out
        have FI := hid fi; clear fi
        generalize hW : (w2.drew.setCells q (n * 17 + 0) (List.replicate (16 - 0) (.pointer none))) = W3 at *
        clear hW
        go_wp2_with fail
        go_region
        go_wp2_with (simp only [hcl])
        go_ret
        unfold ErasePost
        rw [E1.out]
        exact ⟨rfl, FI.out⟩
      · by_cases hk1 : F.keep ≤ F.np
        · obtain ⟨m, hm⟩ := Int.eq_ofNat_of_zero_le (by omega : 0 ≤ F.keep)
          have E1 := hid (E8.out m (by omega))
          rw [hm] at d5 hk0 hk1
          clear hm
          by_cases h16 : m = 16
          · subst h16
            have hcl : ∀ ty, (Builtin.clear_ #[123] ty #[.slice (some ⟨q, n * 17, none⟩) 0 0]).run Tryz.prog w2.drew = .ok (.tuple #[]) w2.drew := fun ty => by simp [Builtin.clear_, run_underlying Tryz.underlying123]
            have hwc : w2.drew.cell? ⟨q, n * 17 + 16, none⟩ = some (.int .i64 (F.blk n).wear) := by
              have := (W2.out.clear (m := 16) hnt).1.wear_cell hnt
              rw [Fl.clear_wear, TB.out] at this; exact this
            have hwz : w2.drew.frozen? ⟨q, n * 17 + 16, none⟩ = false := (W2.out.clear (m := 16) hnt).1.frozen_q _
            have fi := FIN.out w2.drew 16 W2.out U2.out
            replace fi : FlashAt ((w2.drew).setCell ⟨q, n * 17 + 16, none⟩ (.int .i64 ((F.blk n).wear + 1))) p q ((F.tick.clear n 16).worn n) ∧ Upd (fun k => k = p ∨ k = q) w ((w2.drew).setCell ⟨q, n * 17 + 16, none⟩ (.int .i64 ((F.blk n).wear + 1))) := fi
            have FI := hid fi; clear fi
            go_wp2_with fail
            go_region
            go_wp2_with (simp only [hcl])
            go_ret
            unfold ErasePost
            rw [E1.out]
            exact ⟨rfl, FI.out⟩
          · have hm16 : m < 16 := by omega
            have hm17 : (m : Int) ≤ 16 := by omega
            have hm18 : (0 : Int) ≤ m := by omega
            have hcl : ∀ ty, (Builtin.clear_ #[123] ty #[.slice (some ⟨q, n * 17 + m, none⟩) (16 - m) (16 - m)]).run Tryz.prog w2.drew = .ok (.tuple #[]) (w2.drew.setCells q (n * 17 + m) (List.replicate (16 - m) (.pointer none))) := fun ty => clear_run W2.out hnt (by omega : m < 16) ty
            have hwc : (w2.drew.setCells q (n * 17 + m) (List.replicate (16 - m) (.pointer none))).cell? ⟨q, n * 17 + 16, none⟩ = some (.int .i64 (F.blk n).wear) := by
              have := (W2.out.clear (m := m) hnt).1.wear_cell hnt
              rw [Fl.clear_wear, TB.out] at this; exact this
            have hwz : (w2.drew.setCells q (n * 17 + m) (List.replicate (16 - m) (.pointer none))).frozen? ⟨q, n * 17 + 16, none⟩ = false := (W2.out.clear (m := m) hnt).1.frozen_q _
            have fi := FIN.out w2.drew m W2.out U2.out
            have FI := hid fi; clear fi
            generalize hW : (w2.drew.setCells q (n * 17 + m) (List.replicate (16 - m) (.pointer none))) = W3 at *
            clear hW
            go_wp2_with fail
            go_region
            go_wp2_with (simp only [hcl])
            go_ret
            unfold ErasePost
            rw [E1.out]
            exact ⟨rfl, FI.out⟩
        · have E1 := hid (E8.out F.np (by omega))
          by_cases h16 : F.np = 16
          · rw [h16] at d1 hk1 E1
            have hcl : ∀ ty, (Builtin.clear_ #[123] ty #[.slice (some ⟨q, n * 17, none⟩) 0 0]).run Tryz.prog w2.drew = .ok (.tuple #[]) w2.drew := fun ty => by simp [Builtin.clear_, run_underlying Tryz.underlying123]
            have hwc : w2.drew.cell? ⟨q, n * 17 + 16, none⟩ = some (.int .i64 (F.blk n).wear) := by
              have := (W2.out.clear (m := 16) hnt).1.wear_cell hnt
              rw [Fl.clear_wear, TB.out] at this; exact this
            have hwz : w2.drew.frozen? ⟨q, n * 17 + 16, none⟩ = false := (W2.out.clear (m := 16) hnt).1.frozen_q _
            have fi := FIN.out w2.drew 16 W2.out U2.out
            replace fi : FlashAt ((w2.drew).setCell ⟨q, n * 17 + 16, none⟩ (.int .i64 ((F.blk n).wear + 1))) p q ((F.tick.clear n 16).worn n) ∧ Upd (fun k => k = p ∨ k = q) w ((w2.drew).setCell ⟨q, n * 17 + 16, none⟩ (.int .i64 ((F.blk n).wear + 1))) := fi
            have FI := hid fi; clear fi
            go_wp2_with fail
            go_region
            go_wp2_with (simp only [hcl])
            go_ret
            unfold ErasePost
            rw [E1.out]
            exact ⟨rfl, FI.out⟩
          · have hm16 : F.np < 16 := by omega
            have hm17 : (F.np : Int) ≤ 16 := by omega
            have hm18 : (0 : Int) ≤ F.np := by omega
            have hcl : ∀ ty, (Builtin.clear_ #[123] ty #[.slice (some ⟨q, n * 17 + F.np, none⟩) (16 - F.np) (16 - F.np)]).run Tryz.prog w2.drew = .ok (.tuple #[]) (w2.drew.setCells q (n * 17 + F.np) (List.replicate (16 - F.np) (.pointer none))) := fun ty => clear_run W2.out hnt (by omega : F.np < 16) ty
            have hwc : (w2.drew.setCells q (n * 17 + F.np) (List.replicate (16 - F.np) (.pointer none))).cell? ⟨q, n * 17 + 16, none⟩ = some (.int .i64 (F.blk n).wear) := by
              have := (W2.out.clear (m := F.np) hnt).1.wear_cell hnt
              rw [Fl.clear_wear, TB.out] at this; exact this
            have hwz : (w2.drew.setCells q (n * 17 + F.np) (List.replicate (16 - F.np) (.pointer none))).frozen? ⟨q, n * 17 + 16, none⟩ = false := (W2.out.clear (m := F.np) hnt).1.frozen_q _
            have fi := FIN.out w2.drew F.np W2.out U2.out
            have FI := hid fi; clear fi
            generalize hW : (w2.drew.setCells q (n * 17 + F.np) (List.replicate (16 - F.np) (.pointer none))) = W3 at *
            clear hW
            go_wp2_with fail
            go_region
            go_wp2_with (simp only [hcl])
            go_ret
            unfold ErasePost
            rw [E1.out]
            exact ⟨rfl, FI.out⟩

set_option maxHeartbeats 400000 in
theorem erase_any (p q : Nat) (b : Int) (w : World) (F : Fl) (h : FlashAt w p q F) :
    Calls Tryz.prog 69 #[.pointer (some ⟨p, 0, none⟩), .int .i64 b] w (ErasePost p q F b w) := by
  by_cases he : F.atErr b 0 = 0
  · obtain ⟨hd, h1, h2, h3, h4⟩ := Fl.atErr_zero he
    obtain ⟨n, rfl⟩ := Int.eq_ofNat_of_zero_le h1
    exact erase_ok p q n w F h hd (by omega)
  · have e1 : F.erase b = (F, F.atErr b 0) := by rw [Fl.erase, if_pos he]
    have E := hid e1; clear e1
    have hne2 : (F.atErr b 0 != 0) = true := by rw [bne_iff_ne]; exact he
    have HE := hid he; clear he
    have H1 := hid h; clear h
    go_enter Tryz.func69, Tryz.ntmps69
    go_wp2_with fail
    refine (at_err p q b 0 _ F H1.out HE.out).mono ?_
    rintro e w' ⟨rfl, rfl⟩
    go_wp2_with fail
    go_ret
    unfold ErasePost
    rw [E.out]
    exact ⟨rfl, H1.out, Upd.refl _ _⟩
end Go.Proofs.YtlefilfdomjkeaaGreatDoor
