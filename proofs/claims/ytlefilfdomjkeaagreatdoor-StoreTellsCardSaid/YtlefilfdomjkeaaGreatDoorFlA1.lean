/- Walks of the small methods of flash. -/
import Derived.Test.YtlefilfdomjkeaaGreatDoorFlBase
namespace Go.Proofs.YtlefilfdomjkeaaGreatDoor
open Go.RowKit

set_option maxHeartbeats 400000 in
theorem at_down (p q : Nat) (b g : Int) (w : World) (F : Fl) (h : FlashAt w p q F) (hd : F.down = true) :
    Calls Tryz.prog 57 #[.pointer (some ⟨p, 0, none⟩), .int .i64 b, .int .i64 g] w fun e w' => e = .returned (.tuple #[.pointer none, .int .i64 8]) ∧ w = w' := by
  obtain ⟨cap, ⟨c0, c1, c2, c3, c4, c5⟩, hz⟩ := h.cells
  clear h
  go_enter Tryz.func57, Tryz.ntmps57
  go_wp2
  go_ret2
  exact ⟨rfl, rfl⟩

set_option maxHeartbeats 400000 in
theorem at_bad (p q : Nat) (b g : Int) (w : World) (F : Fl) (h : FlashAt w p q F) (hd : F.down = false) (hb : b < 0 ∨ F.nb ≤ b ∨ g < 0 ∨ F.np ≤ g) :
    Calls Tryz.prog 57 #[.pointer (some ⟨p, 0, none⟩), .int .i64 b, .int .i64 g] w fun e w' => e = .returned (.tuple #[.pointer none, .int .i64 1]) ∧ w = w' := by
  obtain ⟨cap, ⟨c0, c1, c2, c3, c4, c5⟩, hz⟩ := h.cells
  clear h
  have hb' : b < 0 ∨ 0 ≤ b ∧ (F.nb : Int) ≤ b ∨ 0 ≤ b ∧ b < F.nb ∧ g < 0 ∨ 0 ≤ b ∧ b < F.nb ∧ 0 ≤ g ∧ (F.np : Int) ≤ g := by omega
  clear hb
  rcases hb' with h1 | ⟨h1, h2⟩ | ⟨h1, h2, h3⟩ | ⟨h1, h2, h3, h4⟩
  all_goals
    go_enter Tryz.func57, Tryz.ntmps57
    go_wp2
    go_ret2
    exact ⟨rfl, rfl⟩

set_option maxHeartbeats 400000 in
theorem at_ok (p q n k : Nat) (w : World) (F : Fl) (h : FlashAt w p q F) (hd : F.down = false) (h2 : n < F.nb) (h4 : k < F.np) :
    Calls Tryz.prog 57 #[.pointer (some ⟨p, 0, none⟩), .int .i64 n, .int .i64 k] w fun e w' => e = .returned (.tuple #[.pointer (some ⟨q, n * 17, none⟩), .int .i64 0]) ∧ w = w' := by
  obtain ⟨cap, ⟨c0, c1, c2, c3, c4, c5⟩, hz⟩ := h.cells
  have h5 := h.ok.nb.2
  have h6 := h.ok.np.2
  clear h
  go_enter Tryz.func57, Tryz.ntmps57
  go_wp2
  go_ret2
  exact ⟨rfl, rfl⟩

set_option maxHeartbeats 400000 in
theorem crashes_any (p q : Nat) (w : World) (F : Fl) (h : FlashAt w p q F) :
    Calls Tryz.prog 83 #[.pointer (some ⟨p, 0, none⟩)] w fun e w' => e = .returned (.bool F.tick.down) ∧ FlashAt w' p q F.tick ∧ Upd (· = p) w w' := by
  obtain ⟨cap, ⟨c0, c1, c2, c3, c4, c5⟩, hz⟩ := h.cells
  have hl := h.ok.left
  by_cases h0 : 0 < F.left
  · have H := hid h; clear h
    have e1 : F.tick = { F with left := F.left - 1, down := F.left - 1 == 0 } := by rw [Fl.tick, if_pos h0]
    have E := hid e1; clear e1
    go_enter Tryz.func83, Tryz.ntmps83
    go_wp2
    go_ret
    refine ⟨?_, ?_, ?_⟩
    · rw [E.out]; rfl
    · refine H.out.newHead ?_ F.tick_blk.1 F.tick_blk.2.1 (Fl.tick_ok H.out.ok) ?_
      · exact ((Upd.refl _ _).at_ _ _).at_ _ _
      · intro cap hcap
        rw [E.out]
        simp [heap_setCell, Obj.setAt, hcap]
    · exact ((Upd.refl _ _).at_ _ _).at_ _ _
  · have H := hid h; clear h
    have e1 : F.tick = F := by rw [Fl.tick, if_neg h0]
    have E := hid e1; clear e1
    go_enter Tryz.func83, Tryz.ntmps83
    go_wp2
    go_ret
    rw [E.out]
    exact ⟨rfl, H.out, Upd.refl _ _⟩

theorem down_any (p q : Nat) (w : World) (F : Fl) (h : FlashAt w p q F) :
    Calls Tryz.prog 11 #[.pointer (some ⟨p, 0, none⟩)] w fun e w' => e = .returned (.bool F.down) ∧ w = w' := by
  obtain ⟨cap, ⟨c0, c1, c2, c3, c4, c5⟩, hz⟩ := h.cells
  clear h
  go_enter Tryz.func11, Tryz.ntmps11
  go_wp2
  go_ret
  exact ⟨rfl, rfl⟩

theorem size_any (p q : Nat) (w : World) (F : Fl) (h : FlashAt w p q F) :
    Calls Tryz.prog 33 #[.pointer (some ⟨p, 0, none⟩)] w fun e w' => e = .returned (.tuple #[.int .i64 F.nb, .int .i64 F.np]) ∧ Upd (fun _ => False) w w' := by
  obtain ⟨cap, ⟨c0, c1, c2, c3, c4, c5⟩, hz⟩ := h.cells
  clear h
  go_enter Tryz.func33, Tryz.ntmps33
  go_wp2
  go_region
  all_goals go_wp2
  all_goals go_ret2
  all_goals exact ⟨rfl, (Upd.refl _ _).drew⟩

theorem start_any (p q : Nat) (w : World) (F : Fl) (h : FlashAt w p q F) :
    Calls Tryz.prog 25 #[.pointer (some ⟨p, 0, none⟩)] w fun e w' => e = .returned (.tuple #[]) ∧ FlashAt w' p q F.start ∧ Upd (· = p) w w' := by
  obtain ⟨cap, ⟨c0, c1, c2, c3, c4, c5⟩, hz⟩ := h.cells
  have H := hid h; clear h
  go_enter Tryz.func25, Tryz.ntmps25
  go_wp2
  go_end0
  have u := (Upd.refl (· = p) w).setCell ⟨p, 2, none⟩ (.bool false) (.inl rfl)
  refine ⟨rfl, H.out.newHead u rfl rfl (Fl.start_ok H.out.ok) ?_, u⟩
  intro cap hcap
  simp [heap_setCell, Obj.setAt, hcap, Fl.start]

theorem arm_any (p q : Nat) (n k : Int) (w : World) (F : Fl) (h : FlashAt w p q F) (hn : n ≤ 9223372036854775807) :
    Calls Tryz.prog 52 #[.pointer (some ⟨p, 0, none⟩), .int .i64 n, .int .i64 k] w fun e w' => e = .returned (.tuple #[]) ∧ FlashAt w' p q (F.arm n k) ∧ Upd (· = p) w w' := by
  obtain ⟨cap, ⟨c0, c1, c2, c3, c4, c5⟩, hz⟩ := h.cells
  have e1 : F.arm n k = { F with left := max n 0, keep := k } := rfl
  have E := hid e1; clear e1
  have ok := Fl.arm_ok h.ok n k hn
  have H := hid h; clear h
  by_cases hn0 : n < 0
  · have hm : max n 0 = 0 := by omega
    have M := hid hm; clear hm
    go_enter Tryz.func52, Tryz.ntmps52
    go_wp2
    go_end0
    have u := ((Upd.refl (· = p) w).at_ 4 (.int .i64 0)).at_ 5 (.int .i64 k)
    refine ⟨rfl, H.out.newHead u rfl rfl ok ?_, u⟩
    intro cap hcap
    rw [E.out, M.out]
    simp [heap_setCell, Obj.setAt, hcap]
  · have hm : max n 0 = n := by omega
    have M := hid hm; clear hm
    go_enter Tryz.func52, Tryz.ntmps52
    go_wp2
    go_end0
    have u := ((Upd.refl (· = p) w).at_ 4 (.int .i64 n)).at_ 5 (.int .i64 k)
    refine ⟨rfl, H.out.newHead u rfl rfl ok ?_, u⟩
    intro cap hcap
    rw [E.out, M.out]
    simp [heap_setCell, Obj.setAt, hcap]

theorem lose_any (p q : Nat) (n : Int) (w : World) (F : Fl) (h : FlashAt w p q F) (hn : n ≤ 9223372036854775807) :
    Calls Tryz.prog 51 #[.pointer (some ⟨p, 0, none⟩), .int .i64 n] w fun e w' => e = .returned (.tuple #[]) ∧ FlashAt w' p q (F.lose n) ∧ Upd (· = p) w w' := by
  obtain ⟨cap, ⟨c0, c1, c2, c3, c4, c5⟩, hz⟩ := h.cells
  have e1 : F.lose n = { F with lost := max n 0 } := rfl
  have E := hid e1; clear e1
  have ok := Fl.lose_ok h.ok n hn
  have H := hid h; clear h
  by_cases hn0 : n < 0
  · have hm : max n 0 = 0 := by omega
    have M := hid hm; clear hm
    go_enter Tryz.func51, Tryz.ntmps51
    go_wp2
    go_end0
    have u := (Upd.refl (· = p) w).at_ 3 (.int .i64 0)
    refine ⟨rfl, H.out.newHead u rfl rfl ok ?_, u⟩
    intro cap hcap
    rw [E.out, M.out]
    simp [heap_setCell, Obj.setAt, hcap]
  · have hm : max n 0 = n := by omega
    have M := hid hm; clear hm
    go_enter Tryz.func51, Tryz.ntmps51
    go_wp2
    go_end0
    have u := (Upd.refl (· = p) w).at_ 3 (.int .i64 n)
    refine ⟨rfl, H.out.newHead u rfl rfl ok ?_, u⟩
    intro cap hcap
    rw [E.out, M.out]
    simp [heap_setCell, Obj.setAt, hcap]

theorem crash_any (p q : Nat) (w : World) (F : Fl) (h : FlashAt w p q F) :
    Calls Tryz.prog 53 #[.pointer (some ⟨p, 0, none⟩)] w fun e w' => e = .returned (.tuple #[]) ∧ FlashAt w' p q F.crash ∧ Upd (· = p) w w' := by
  obtain ⟨cap, ⟨c0, c1, c2, c3, c4, c5⟩, hz⟩ := h.cells
  have ok := Fl.crash_ok h.ok
  have H := hid h; clear h
  cases hd : F.down
  · have e1 : F.crash = { F with down := true, left := 0 } := by simp [Fl.crash, hd]
    have E := hid e1; clear e1
    go_enter Tryz.func53, Tryz.ntmps53
    go_wp2
    go_end0
    have u := ((Upd.refl (· = p) w).at_ 2 (.bool true)).at_ 4 (.int .i64 0)
    refine ⟨rfl, H.out.newHead u (by rw [E.out]) (by rw [E.out]) ok ?_, u⟩
    intro cap hcap
    rw [E.out]
    simp [heap_setCell, Obj.setAt, hcap]
  · have e1 : F.crash = F := by simp [Fl.crash, hd]
    have E := hid e1; clear e1
    go_enter Tryz.func53, Tryz.ntmps53
    go_wp2
    go_end0
    rw [E.out]
    exact ⟨rfl, H.out, Upd.refl _ _⟩

theorem wear_any (p q : Nat) (b : Int) (w : World) (F : Fl) (h : FlashAt w p q F) :
    Calls Tryz.prog 29 #[.pointer (some ⟨p, 0, none⟩), .int .i64 b] w fun e w' => e = .returned (.int .i64 (if b < 0 ∨ F.nb ≤ b then 0 else (F.blk b.toNat).wear)) ∧ w = w' := by
  obtain ⟨cap, ⟨c0, c1, c2, c3, c4, c5⟩, hz⟩ := h.cells
  obtain ⟨cs, h1, h2⟩ := h.rows
  have hnb := h.ok.nb.2
  have hc : ∀ n, n < F.nb → w.cell? ⟨q, n * 17 + 16, none⟩ = some (.int .i64 (F.blk n).wear) := fun n hn => by rw [cell_of_block h1]; exact (h2 n hn).1
  clear h h1 h2
  by_cases hb : b < 0
  · rw [if_pos (.inl hb)]
    go_enter Tryz.func29, Tryz.ntmps29
    go_wp2
    go_ret
    exact ⟨rfl, rfl⟩
  · by_cases hb2 : F.nb ≤ b
    · rw [if_pos (.inr hb2)]
      go_enter Tryz.func29, Tryz.ntmps29
      go_wp2
      go_ret
      exact ⟨rfl, rfl⟩
    · rw [if_neg (by omega)]
      obtain ⟨n, rfl⟩ := Int.eq_ofNat_of_zero_le (by omega : 0 ≤ b)
      have hc := hc n (by omega)
      rw [Int.toNat_natCast]
      go_enter Tryz.func29, Tryz.ntmps29
      go_wp2
      go_ret
      exact ⟨rfl, rfl⟩

end Go.Proofs.YtlefilfdomjkeaaGreatDoor
