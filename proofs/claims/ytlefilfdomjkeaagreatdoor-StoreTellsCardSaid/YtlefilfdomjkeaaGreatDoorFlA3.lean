/- The walk of Program of flash. -/
import Derived.Test.YtlefilfdomjkeaaGreatDoorFlA2
import Derived.Deep.QuietTactic
import Derived.BigQuiet
namespace Go.Proofs.YtlefilfdomjkeaaGreatDoor
open Go.RowKit

def ProgPost (p q : Nat) (F : Fl) (b g : Int) (s : ByteArray) (w : World) (e : Ending) (w' : World) : Prop :=
  e = .returned (.int .i64 (F.program b g s).2) ∧ FlashAt w' p q (F.program b g s).1 ∧ Upd (fun k => k = p ∨ k = q) w w'

theorem prog_torn {w w2 : World} {p q n g : Nat} {s : ByteArray} {F : Fl} (h : FlashAt w p q F) (u : Upd (· = p) w w2) (h2 : FlashAt w2 p q F.tick)
    (hx : w2.heap[w.heap.size]? = some (.cells #[.string s] 9 (0, 0))) (hn : n < F.nb) (hg : g < 16) (c : ByteArray) :
    FlashAt ((w2.setCell ⟨w.heap.size, 0, none⟩ (.string c)).setCell ⟨q, n * 17 + g, none⟩ (.pointer (some ⟨w.heap.size, 0, none⟩))).drew p q (F.tick.setPage n g c) ∧
    Upd (fun k => k = p ∨ k = q) w ((w2.setCell ⟨w.heap.size, 0, none⟩ (.string c)).setCell ⟨q, n * 17 + g, none⟩ (.pointer (some ⟨w.heap.size, 0, none⟩))).drew := by
  have u1 := u.setCell ⟨w.heap.size, 0, none⟩ (.string c) (.inr (Nat.le_refl _))
  have hp : w.heap.size ≠ p := by
    obtain ⟨cap, hh⟩ := h.head
    have := heap_lt hh; omega
  have f1 : FlashAt (w2.setCell ⟨w.heap.size, 0, none⟩ (.string c)) p q F.tick := by
    refine h.remake u1 F.tick_blk.1 F.tick_blk.2.1 (Fl.tick_ok h.ok) ?_
    obtain ⟨cap3, hh⟩ := h2.head
    exact ⟨cap3, by rw [heap_setCell_other (fun e => hp e.symm)]; exact hh⟩
  have f2 := f1.setPage (n := n) (g := g) (r := w.heap.size) (s := c) (by simp [heap_setCell, Obj.setAt, hx]) (by rw [F.tick_blk.2.1]; exact hn) hg
  refine ⟨f2.upd (S := fun _ => False) ⟨rfl, rfl, rfl, Nat.le_refl _, fun _ _ _ => rfl⟩ id id (fun _ h => h.elim), ?_⟩
  exact ((u1.mono (T := fun k => k = p ∨ k = q) fun k hk => .inl hk).setCell _ _ (.inl (.inr rfl))).drew

set_option maxHeartbeats 1000000 in
theorem program_ok (p q n g : Nat) (s : ByteArray) (w : World) (F : Fl) (h : FlashAt w p q F) (hd : F.down = false) (hn : n < F.nb) (hg : g < F.np) (hs : s.size ≤ 64) :
    Calls Tryz.prog 70 #[.pointer (some ⟨p, 0, none⟩), .int .i64 n, .int .i64 g, .string s] w (ProgPost p q F n g s w) := by
  have hnb := h.ok.nb.2
  have hnp := h.ok.np.2
  have hlo := h.ok.lost
  obtain ⟨cap, ⟨c0, c1, c2, c3, c4, c5⟩, hz⟩ := h.cells
  have hc : ∀ k, k < F.np - g → ∃ v, w.cell? ⟨q, n * 17 + g + k, none⟩ = some v ∧ PageRep w v ((F.blk n).page (g + k)) := fun k h1 => by
    rw [Nat.add_assoc]; exact h.page_cell hn (by omega)
  have hp : p < w.heap.size := World.block_lt_of_cell? _ _ c0
  have hq : q < w.heap.size := by obtain ⟨cs, r1, _⟩ := h.rows; exact heap_lt r1
  have hnp' : (F.np : Int) ≤ 16 := by omega
  have hg0 : (0 : Int) ≤ g := by omega
  have hg1 : (g : Int) ≤ F.np := by omega
  have E0 : F.program n g s = if F.later n g then (F, 7) else if F.tick.down then (F.tick.setPage n g (cut F s), 8) else
      if 0 < F.lost then ({ F.tick with lost := F.lost - 1 }, 9) else (F.tick.setPage n g s, 0) := by
    unfold Fl.program
    rw [if_neg (by rw [Fl.atErr_ok hd (by omega) (by omega) (by omega) (by omega)]; exact fun h => h rfl), if_neg (by omega)]
    rfl
  have E := hid E0; clear E0
  have u1 := (Upd.refl (fun _ => False) w).alloc (.cells #[.string s] 9 (0, 0))
  have h1 := h.upd u1 id id (fun _ h => h.elim)
  have H := hid h; clear h
  have U1 := hid u1; clear u1
  have H1 := hid h1; clear h1
  have HC := hid hc; clear hc
  go_enter Tryz.func70, Tryz.ntmps70
  go_wp2_with fail
  refine (at_ok p q n g _ F H1.out hd hn hg).mono ?_
  rintro e w' ⟨rfl, rfl⟩
  go_wp2_with fail
  go_quiet (fail)
  go_wp2_with fail
  have udrew : Upd (fun _ => False) w ((w.alloc (.cells #[.string s] 9 (0, 0))).drewN nq) := U1.out.trans ⟨rfl, rfl, rfl, Nat.le_refl _, fun _ _ _ => rfl⟩
  have UD := hid udrew; clear udrew
  go_loop [12, 36] (fun _ i => ∃ k : Nat, k ≤ F.np - g ∧ (∀ j, j < k → (F.blk n).page (g + j) = none) ∧ i = .int .i64 k) (fun _ i => F.np - g - (intOf i).toNat)
  case atStart => exact ⟨0, Nat.zero_le _, fun j hj => absurd hj (Nat.not_lt_zero _), rfl⟩
  case round =>
    obtain ⟨k, hk, hpre, rfl⟩ := hrel
    have PRE := hid hpre; clear hpre
    by_cases hlt : k < F.np - g
    · obtain ⟨v, hck, hr⟩ := HC.out k hlt
      cases ho : (F.blk n).page (g + k) with
      | none =>
        rw [ho] at hr
        have hr : v = .pointer none := hr
        subst hr
        have HO := hid ho; clear ho
        go_wp2
        go_round
        case rel => exact ⟨k + 1, by omega, fun j hj => by
          rcases Nat.lt_or_ge j k with h' | h'
          · exact PRE.out j h'
          · obtain rfl : j = k := by omega
            exact HO.out, by go_num⟩
        case measure => simp [intOf]; omega
      | some s' =>
        rw [ho] at hr
        obtain ⟨r, rfl, hr⟩ := hr
        have hlat := later_true hlt ho
        have E7 : F.program n g s = (F, 7) := by rw [E.out, if_pos hlat]
        have E7 := hid E7
        clear ho hlat hr
        go_wp2
        go_ret
        unfold ProgPost
        rw [E7.out]
        exact ⟨rfl, H.out.upd UD.out id id (fun _ h => h.elim), UD.out.mono fun _ h => h.elim⟩
    · have hlat : F.later n g = false := later_false fun j hj => PRE.out j (by omega)
      have E1 : F.program n g s = if F.tick.down then (F.tick.setPage n g (cut F s), 8) else
        if 0 < F.lost then ({ F.tick with lost := F.lost - 1 }, 9) else (F.tick.setPage n g s, 0) := by rw [E.out, hlat]; rfl
      have E1 := hid E1
      clear hlat
      go_wp2_with fail
      have h2 : FlashAt ((w.alloc (.cells #[.string s] 9 (0, 0))).drewN nq) p q F := H.out.upd UD.out id id (fun _ h => h.elim)
      refine (crashes_any p q _ F h2).mono ?_
      rintro e w2 ⟨rfl, f2, u2⟩
      obtain ⟨cap2, ⟨d0, d1, d2, d3, d4, d5⟩, hz2⟩ := f2.cells
      have hzq := f2.frozen_q
      obtain ⟨v2, hv2, _⟩ := f2.page_cell (by rw [F.tick_blk.2.1]; exact hn) (by omega : g < 16)
      have hbox : w2.heap[w.heap.size]? = some (.cells #[.string s] 9 (0, 0)) := by
        rw [u2.block w.heap.size (by show _ < ((w.alloc _).heap.size); simp) (by omega)]; exact heap_alloc_new
      have hsz : w.heap.size < w2.heap.size := heap_lt hbox
      have ht3 := F.tick_blk.2.2.2.1
      have ht5 := F.tick_blk.2.2.2.2
      rw [ht3] at d3
      rw [ht5] at d5
      have HX := hid hbox; clear hbox
      clear ht3 ht5
      have H2 := hid f2; clear f2 h2
      have uw : Upd (· = p) w w2 := (UD.out.mono (fun _ h => h.elim)).trans u2
      have UW := hid uw; clear uw u2
      have hwin : w.heap.size ≠ p := by omega
      cases ht : F.tick.down
      · by_cases h0 : 0 < F.lost
        · have E9 : F.program n g s = ({ F.tick with lost := F.lost - 1 }, 9) := by rw [E1.out, if_neg (by rw [ht]; decide), if_pos h0]
          have E9 := hid E9
          go_wp2_with fail
          go_ret
          unfold ProgPost
          rw [E9.out]
          have u3 := UW.out.at_ 3 (.int .i64 (F.lost - 1))
          refine ⟨rfl, H.out.remake u3 F.tick_blk.1 F.tick_blk.2.1 (Fl.lost_ok H.out.ok h0) ?_, u3.mono fun k hk => .inl hk⟩
          obtain ⟨cap3, hh⟩ := H2.out.head
          exact ⟨cap3, by simp [heap_setCell, Obj.setAt, hh]⟩
        · have E9 : F.program n g s = (F.tick.setPage n g s, 0) := by rw [E1.out, if_neg (by rw [ht]; decide), if_neg h0]
          have E9 := hid E9
          go_wp2_with fail
          go_ret
          unfold ProgPost
          rw [E9.out]
          refine ⟨rfl, H2.out.setPage HX.out (by rw [F.tick_blk.2.1]; exact hn) (by omega), ?_⟩
          exact (UW.out.mono fun k hk => .inl hk).setCell _ _ (.inl (.inr rfl))
      · have E9 : F.program n g s = (F.tick.setPage n g (cut F s), 8) := by rw [E1.out, if_pos ht]
        have E9 := hid E9
        have hbc : w2.cell? ⟨w.heap.size, 0, none⟩ = some (.string s) := by rw [cell_of_block HX.out]; rfl
        have hbz : w2.frozen? ⟨w.heap.size, 0, none⟩ = false := frozen_of_block HX.out
        have hs0 : (s.size : Int) ≤ 64 := by omega
        have TN := hid (prog_torn H.out UW.out H2.out HX.out hn (by omega : g < 16))
        have hcut : ∀ m : Nat, (m : Int) = min (max F.keep 0) s.size → cut F s = s.extract 0 m := fun m hm => by
          unfold cut; rw [← hm]; rfl
        have HCUT := hid hcut; clear hcut
        by_cases hk0 : F.keep < 0
        · have e1 : cut F s = ByteArray.empty := by rw [HCUT.out 0 (by omega)]; simp
          have E1 := hid e1; clear e1
          go_wp2_with fail
          go_region
          go_wp2_with fail
          go_ret
          unfold ProgPost
          rw [E9.out, E1.out]
          exact ⟨rfl, TN.out _⟩
        · by_cases hk1 : F.keep ≤ s.size
          · obtain ⟨m, hm⟩ := Int.eq_ofNat_of_zero_le (by omega : 0 ≤ F.keep)
            have e1 := HCUT.out m (by omega)
            have E1 := hid e1; clear e1
            rw [hm] at d5 hk0 hk1
            clear hm
            go_wp2_with fail
            go_region
            go_wp2_with fail
            go_ret
            unfold ProgPost
            rw [E9.out, E1.out]
            exact ⟨rfl, TN.out _⟩
          · have e1 : cut F s = s := by rw [HCUT.out s.size (by omega)]; simp
            have E1 := hid e1; clear e1
            go_wp2_with fail
            go_region
            go_wp2_with fail
            go_ret
            unfold ProgPost
            rw [E9.out, E1.out]
            exact ⟨rfl, TN.out _⟩

set_option maxHeartbeats 400000 in
theorem program_any (p q : Nat) (b g : Int) (s : ByteArray) (w : World) (F : Fl) (h : FlashAt w p q F) (hs : s.size ≤ maxLen) :
    Calls Tryz.prog 70 #[.pointer (some ⟨p, 0, none⟩), .int .i64 b, .int .i64 g, .string s] w (ProgPost p q F b g s w) := by
  unfold maxLen at hs
  by_cases he : F.atErr b g = 0
  · obtain ⟨hd, h1, h2, h3, h4⟩ := Fl.atErr_zero he
    obtain ⟨n, rfl⟩ := Int.eq_ofNat_of_zero_le h1
    obtain ⟨k, rfl⟩ := Int.eq_ofNat_of_zero_le h3
    have h2 : n < F.nb := by omega
    have h4 : k < F.np := by omega
    by_cases hs2 : s.size ≤ 64
    · exact program_ok p q n k s w F h hd h2 h4 hs2
    · have e1 : F.program n k s = (F, 1) := by
        unfold Fl.program
        rw [if_neg (by rw [he]; exact fun h => h rfl), if_pos (by omega)]
      have E := hid e1; clear e1 he h1 h3
      have u1 := (Upd.refl (fun _ => False) w).alloc (.cells #[.string s] 9 (0, 0))
      have f1 := h.upd u1 id id (fun _ h => h.elim)
      have U1 := hid u1; clear u1
      have H1 := hid f1; clear f1 h
      go_enter Tryz.func70, Tryz.ntmps70
      go_wp2_with fail
      refine (at_ok p q n k _ F H1.out hd h2 h4).mono ?_
      rintro e w' ⟨rfl, rfl⟩
      go_wp2_with fail
      go_ret
      unfold ProgPost
      rw [E.out]
      exact ⟨rfl, H1.out, U1.out.mono fun _ h => h.elim⟩
  · have e1 : F.program b g s = (F, F.atErr b g) := by rw [Fl.program, if_pos he]
    have E := hid e1; clear e1
    have hne2 : (F.atErr b g != 0) = true := by rw [bne_iff_ne]; exact he
    have HE := hid he; clear he
    have u1 := (Upd.refl (fun _ => False) w).alloc (.cells #[.string s] 9 (0, 0))
    have f1 := h.upd u1 id id (fun _ h => h.elim)
    have U1 := hid u1; clear u1
    have H1 := hid f1; clear f1 h
    go_enter Tryz.func70, Tryz.ntmps70
    go_wp2_with fail
    refine (at_err p q b g _ F H1.out HE.out).mono ?_
    rintro e w' ⟨rfl, rfl⟩
    go_wp2_with fail
    go_ret
    unfold ProgPost
    rw [E.out]
    exact ⟨rfl, H1.out, U1.out.mono fun _ h => h.elim⟩
end Go.Proofs.YtlefilfdomjkeaaGreatDoor
