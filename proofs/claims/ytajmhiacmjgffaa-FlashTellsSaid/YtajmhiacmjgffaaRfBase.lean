/- The memory of the reference's flash, over the same model, and the walks of its small methods. -/
import Derived.Test.YtajmhiacmjgffaaFlKeepsPlain
namespace Go.Proofs.Ytajmhiacmjgffaa
open Go.RowKit

/-- The cells of the reference's pages. -/
def PagesRep (ps : Array Value) (np : Nat) (page : Nat → Option ByteArray) : Prop :=
  ∀ k, k < np → ps[k * 2]? = some (.bool (page k).isSome) ∧ ps[k * 2 + 1]? = some (.string (vS (page k)))

/-- The world holds the reference's flash F: its struct is block p, its blocks lie in block q, the pages of block i in block g i. -/
structure RefAt (w : World) (p q : Nat) (g : Nat → Nat) (F : Fl) : Prop where
  head : ∃ cap, w.heap[p]? = some (.cells #[.slice (some ⟨q, 0, none⟩) F.nb cap, .int .i64 F.np, .bool F.down, .int .i64 F.lost, .int .i64 F.left, .int .i64 F.keep] 70 (0, 0))
  rows : ∃ cs, w.heap[q]? = some (.cells cs 73 (0, 0)) ∧ ∀ i, i < F.nb → (∃ cap, F.np ≤ cap ∧ cs[i * 2]? = some (.slice (some ⟨g i, 0, none⟩) F.np cap)) ∧ cs[i * 2 + 1]? = some (.int .i64 (F.blk i).wear)
  pages : ∀ i, i < F.nb → ∃ ps, w.heap[g i]? = some (.cells ps 78 (0, 0)) ∧ PagesRep ps F.np (F.blk i).page
  inj : ∀ i j, i < F.nb → j < F.nb → g i = g j → i = j
  ok : F.Ok

theorem RefAt.ne {w : World} {p q : Nat} {g : Nat → Nat} {F : Fl} (h : RefAt w p q g F) : p ≠ q ∧ (∀ i, i < F.nb → p ≠ g i ∧ q ≠ g i) := by
  obtain ⟨cap, h1⟩ := h.head
  obtain ⟨cs, h2, _⟩ := h.rows
  refine ⟨fun e => ?_, fun i hi => ⟨fun e => ?_, fun e => ?_⟩⟩
  · subst e; rw [h1] at h2; injection h2 with e; injection e with _ e _; exact absurd e (by decide)
  · obtain ⟨ps, h3, _⟩ := h.pages i hi
    rw [← e, h1] at h3; injection h3 with e; injection e with _ e _; exact absurd e (by decide)
  · obtain ⟨ps, h3, _⟩ := h.pages i hi
    rw [← e, h2] at h3; injection h3 with e; injection e with _ e _; exact absurd e (by decide)

/-- The blocks of the reference's flash. -/
def Foot (p q : Nat) (g : Nat → Nat) (nb k : Nat) : Prop := k = p ∨ k = q ∨ ∃ i, i < nb ∧ k = g i

theorem RefAt.upd {S : Nat → Prop} {w w' : World} {p q : Nat} {g : Nat → Nat} {F : Fl} (h : RefAt w p q g F) (u : Upd S w w') (hS : ∀ k, Foot p q g F.nb k → ¬ S k) : RefAt w' p q g F := by
  obtain ⟨cap, h1⟩ := h.head
  obtain ⟨cs, h2, h3⟩ := h.rows
  refine ⟨⟨cap, by rw [u.block p (heap_lt h1) (hS p (.inl rfl))]; exact h1⟩, ⟨cs, by rw [u.block q (heap_lt h2) (hS q (.inr (.inl rfl)))]; exact h2, h3⟩, fun i hi => ?_, h.inj, h.ok⟩
  obtain ⟨ps, h4, h5⟩ := h.pages i hi
  exact ⟨ps, by rw [u.block _ (heap_lt h4) (hS _ (.inr (.inr ⟨i, hi, rfl⟩)))]; exact h4, h5⟩

theorem RefAt.cells {w : World} {p q : Nat} {g : Nat → Nat} {F : Fl} (h : RefAt w p q g F) : ∃ cap, (w.cell? ⟨p, 0, none⟩ = some (.slice (some ⟨q, 0, none⟩) F.nb cap) ∧ w.cell? ⟨p, 1, none⟩ = some (.int .i64 F.np) ∧
    w.cell? ⟨p, 2, none⟩ = some (.bool F.down) ∧ w.cell? ⟨p, 3, none⟩ = some (.int .i64 F.lost) ∧ w.cell? ⟨p, 4, none⟩ = some (.int .i64 F.left) ∧ w.cell? ⟨p, 5, none⟩ = some (.int .i64 F.keep)) ∧ (∀ o, w.frozen? ⟨p, o, none⟩ = false) := by
  obtain ⟨cap, h1⟩ := h.head
  refine ⟨cap, ⟨?_, ?_, ?_, ?_, ?_, ?_⟩, fun o => frozen_of_block h1⟩ <;> rw [cell_of_block h1] <;> rfl
theorem RefAt.row {w : World} {p q : Nat} {g : Nat → Nat} {F : Fl} (h : RefAt w p q g F) {i : Nat} (hi : i < F.nb) : (∃ cap, F.np ≤ cap ∧ w.cell? ⟨q, i * 2, none⟩ = some (.slice (some ⟨g i, 0, none⟩) F.np cap)) ∧
    w.cell? ⟨q, i * 2 + 1, none⟩ = some (.int .i64 (F.blk i).wear) ∧ w.frozen? ⟨q, i * 2 + 1, none⟩ = false := by
  obtain ⟨cs, h2, h3⟩ := h.rows
  obtain ⟨⟨cap, hc, h4⟩, h5⟩ := h3 i hi
  exact ⟨⟨cap, hc, by rw [cell_of_block h2]; exact h4⟩, by rw [cell_of_block h2]; exact h5, frozen_of_block h2⟩
theorem RefAt.page {w : World} {p q : Nat} {g : Nat → Nat} {F : Fl} (h : RefAt w p q g F) {i k : Nat} (hi : i < F.nb) (hk : k < F.np) : w.cell? ⟨g i, k * 2, none⟩ = some (.bool ((F.blk i).page k).isSome) ∧
    w.cell? ⟨g i, k * 2 + 1, none⟩ = some (.string (vS ((F.blk i).page k))) ∧ (∀ o, w.frozen? ⟨g i, o, none⟩ = false) := by
  obtain ⟨ps, h4, h5⟩ := h.pages i hi
  exact ⟨by rw [cell_of_block h4]; exact (h5 k hk).1, by rw [cell_of_block h4]; exact (h5 k hk).2, fun o => frozen_of_block h4⟩
theorem RefAt.lt {w : World} {p q : Nat} {g : Nat → Nat} {F : Fl} (h : RefAt w p q g F) : p < w.heap.size ∧ q < w.heap.size ∧ ∀ i, i < F.nb → g i < w.heap.size := by
  obtain ⟨cap, h1⟩ := h.head
  obtain ⟨cs, h2, _⟩ := h.rows
  refine ⟨heap_lt h1, heap_lt h2, fun i hi => ?_⟩
  obtain ⟨ps, h4, _⟩ := h.pages i hi
  exact heap_lt h4

/-- The struct was written, nothing else. -/
theorem RefAt.newHead {w w' : World} {p q : Nat} {g : Nat → Nat} {F G : Fl} (h : RefAt w p q g F) (u : Upd (· = p) w w') (hb : G.blk = F.blk) (hn : G.nb = F.nb) (hm : G.np = F.np) (ok : G.Ok)
    (hh : ∀ cap, w.heap[p]? = some (.cells #[.slice (some ⟨q, 0, none⟩) F.nb cap, .int .i64 F.np, .bool F.down, .int .i64 F.lost, .int .i64 F.left, .int .i64 F.keep] 70 (0, 0)) →
      w'.heap[p]? = some (.cells #[.slice (some ⟨q, 0, none⟩) G.nb cap, .int .i64 G.np, .bool G.down, .int .i64 G.lost, .int .i64 G.left, .int .i64 G.keep] 70 (0, 0))) : RefAt w' p q g G := by
  obtain ⟨cap, h1⟩ := h.head
  obtain ⟨cs, h2, h3⟩ := h.rows
  have hne := h.ne
  refine ⟨⟨cap, hh cap h1⟩, ⟨cs, ?_, ?_⟩, fun i hi => ?_, ?_, ok⟩
  · rw [u.block q (heap_lt h2) fun e => hne.1 e.symm]; exact h2
  · rw [hn, hb, hm]; exact h3
  · rw [hn] at hi
    obtain ⟨ps, h4, h5⟩ := h.pages i hi
    exact ⟨ps, by rw [u.block _ (heap_lt h4) fun e => (hne.2 i hi).1 e.symm]; exact h4, by rw [hm, hb]; exact h5⟩
  · rw [hn]; exact h.inj

/-! ## The small methods -/

def Fl.hasB (F : Fl) (b : Int) : Bool := decide (0 ≤ b ∧ b < F.nb)
theorem rhas_any (p q : Nat) (g : Nat → Nat) (b : Int) (w : World) (F : Fl) (h : RefAt w p q g F) :
    Calls Try.prog 38 #[.pointer (some ⟨p, 0, none⟩), .int .i64 b] w fun e w' => e = .returned (.bool (F.hasB b)) ∧ w = w' := by
  obtain ⟨cap, ⟨c0, c1, c2, c3, c4, c5⟩, hz⟩ := h.cells
  clear h
  by_cases h0 : 0 ≤ b
  · by_cases h1 : b < F.nb
    · have e : F.hasB b = true := by unfold Fl.hasB; exact decide_eq_true ⟨h0, h1⟩
      have E := hid e; clear e
      go_enter Try.func38, Try.ntmps38
      go_wp2
      go_ret
      rw [E.out]
      exact ⟨rfl, rfl⟩
    · have e : F.hasB b = false := by unfold Fl.hasB; exact decide_eq_false fun h => h1 h.2
      have E := hid e; clear e
      go_enter Try.func38, Try.ntmps38
      go_wp2
      go_ret
      rw [E.out]
      exact ⟨rfl, rfl⟩
  · have e : F.hasB b = false := by unfold Fl.hasB; exact decide_eq_false fun h => h0 h.1
    have E := hid e; clear e
    go_enter Try.func38, Try.ntmps38
    go_wp2
    go_ret
    rw [E.out]
    exact ⟨rfl, rfl⟩

set_option maxHeartbeats 400000 in
theorem rcomes_any (p q : Nat) (g : Nat → Nat) (w : World) (F : Fl) (h : RefAt w p q g F) (hd : F.down = false) :
    Calls Try.prog 39 #[.pointer (some ⟨p, 0, none⟩)] w fun e w' => e = .returned (.bool F.tick.down) ∧ RefAt w' p q g F.tick ∧ Upd (· = p) w w' := by
  obtain ⟨cap, ⟨c0, c1, c2, c3, c4, c5⟩, hz⟩ := h.cells
  have hl := h.ok.left
  by_cases h0 : 0 < F.left
  · have H := hid h; clear h
    have e1 : F.tick = { F with left := F.left - 1, down := F.left - 1 == 0 } := by rw [Fl.tick, if_pos h0]
    have E := hid e1; clear e1
    have hne : (F.left == 0) = false := beq_eq_false_iff_ne.2 (by omega)
    go_enter Try.func39, Try.ntmps39
    go_wp2
    go_ret
    have u := ((Upd.refl (· = p) w).at_ 4 (.int .i64 (F.left - 1))).at_ 2 (.bool (F.left - 1 == 0))
    refine ⟨?_, ?_, u⟩
    · rw [E.out]; rfl
    · refine H.out.newHead u F.tick_blk.1 F.tick_blk.2.1 F.tick_blk.2.2.1 (Fl.tick_ok H.out.ok) ?_
      intro cap hcap
      rw [E.out]
      simp [heap_setCell, Obj.setAt, hcap]
  · have H := hid h; clear h
    have e1 : F.tick = F := by rw [Fl.tick, if_neg h0]
    have E := hid e1; clear e1
    have hne : (F.left == 0) = true := beq_iff_eq.2 (by omega)
    have HD := hid hd
    go_enter Try.func39, Try.ntmps39
    go_wp2
    go_ret
    rw [E.out, HD.out]
    exact ⟨rfl, H.out, Upd.refl _ _⟩

theorem rstart_any (p q : Nat) (g : Nat → Nat) (w : World) (F : Fl) (h : RefAt w p q g F) :
    Calls Try.prog 34 #[.pointer (some ⟨p, 0, none⟩)] w fun e w' => e = .returned (.tuple #[]) ∧ RefAt w' p q g F.start ∧ Upd (· = p) w w' := by
  obtain ⟨cap, ⟨c0, c1, c2, c3, c4, c5⟩, hz⟩ := h.cells
  have H := hid h; clear h
  go_enter Try.func34, Try.ntmps34
  go_wp2
  go_end0
  have u := (Upd.refl (· = p) w).setCell ⟨p, 2, none⟩ (.bool false) (.inl rfl)
  refine ⟨rfl, H.out.newHead u rfl rfl rfl (Fl.start_ok H.out.ok) ?_, u⟩
  intro cap hcap
  simp [heap_setCell, Obj.setAt, hcap, Fl.start]

theorem rarm_any (p q : Nat) (g : Nat → Nat) (n k : Int) (w : World) (F : Fl) (h : RefAt w p q g F) (hn : n ≤ 9223372036854775807) :
    Calls Try.prog 32 #[.pointer (some ⟨p, 0, none⟩), .int .i64 n, .int .i64 k] w fun e w' => e = .returned (.tuple #[]) ∧ RefAt w' p q g (F.arm n k) ∧ Upd (· = p) w w' := by
  obtain ⟨cap, ⟨c0, c1, c2, c3, c4, c5⟩, hz⟩ := h.cells
  have E := hid (show F.arm n k = { F with left := max n 0, keep := k } from rfl)
  have ok := Fl.arm_ok h.ok n k hn
  have H := hid h; clear h
  by_cases hn0 : n < 0
  · have M := hid (show max n 0 = 0 by omega)
    go_enter Try.func32, Try.ntmps32
    go_wp2
    go_end0
    have u := ((Upd.refl (· = p) w).at_ 4 (.int .i64 0)).at_ 5 (.int .i64 k)
    refine ⟨rfl, H.out.newHead u rfl rfl rfl ok ?_, u⟩
    intro cap hcap
    rw [E.out, M.out]
    simp [heap_setCell, Obj.setAt, hcap]
  · have M := hid (show max n 0 = n by omega)
    go_enter Try.func32, Try.ntmps32
    go_wp2
    go_end0
    have u := ((Upd.refl (· = p) w).at_ 4 (.int .i64 n)).at_ 5 (.int .i64 k)
    refine ⟨rfl, H.out.newHead u rfl rfl rfl ok ?_, u⟩
    intro cap hcap
    rw [E.out, M.out]
    simp [heap_setCell, Obj.setAt, hcap]

theorem rlose_any (p q : Nat) (g : Nat → Nat) (n : Int) (w : World) (F : Fl) (h : RefAt w p q g F) (hn : n ≤ 9223372036854775807) :
    Calls Try.prog 31 #[.pointer (some ⟨p, 0, none⟩), .int .i64 n] w fun e w' => e = .returned (.tuple #[]) ∧ RefAt w' p q g (F.lose n) ∧ Upd (· = p) w w' := by
  obtain ⟨cap, ⟨c0, c1, c2, c3, c4, c5⟩, hz⟩ := h.cells
  have E := hid (show F.lose n = { F with lost := max n 0 } from rfl)
  have ok := Fl.lose_ok h.ok n hn
  have H := hid h; clear h
  by_cases hn0 : n < 0
  · have M := hid (show max n 0 = 0 by omega)
    go_enter Try.func31, Try.ntmps31
    go_wp2
    go_end0
    have u := (Upd.refl (· = p) w).at_ 3 (.int .i64 0)
    refine ⟨rfl, H.out.newHead u rfl rfl rfl ok ?_, u⟩
    intro cap hcap
    rw [E.out, M.out]
    simp [heap_setCell, Obj.setAt, hcap]
  · have M := hid (show max n 0 = n by omega)
    go_enter Try.func31, Try.ntmps31
    go_wp2
    go_end0
    have u := (Upd.refl (· = p) w).at_ 3 (.int .i64 n)
    refine ⟨rfl, H.out.newHead u rfl rfl rfl ok ?_, u⟩
    intro cap hcap
    rw [E.out, M.out]
    simp [heap_setCell, Obj.setAt, hcap]

theorem rcrash_any (p q : Nat) (g : Nat → Nat) (w : World) (F : Fl) (h : RefAt w p q g F) :
    Calls Try.prog 33 #[.pointer (some ⟨p, 0, none⟩)] w fun e w' => e = .returned (.tuple #[]) ∧ RefAt w' p q g F.crash ∧ Upd (· = p) w w' := by
  obtain ⟨cap, ⟨c0, c1, c2, c3, c4, c5⟩, hz⟩ := h.cells
  have ok := Fl.crash_ok h.ok
  have H := hid h; clear h
  cases hd : F.down
  · have E := hid (show F.crash = { F with down := true, left := 0 } by simp [Fl.crash, hd])
    go_enter Try.func33, Try.ntmps33
    go_wp2
    go_end0
    have u := ((Upd.refl (· = p) w).at_ 2 (.bool true)).at_ 4 (.int .i64 0)
    refine ⟨rfl, H.out.newHead u (by rw [E.out]) (by rw [E.out]) (by rw [E.out]) ok ?_, u⟩
    intro cap hcap
    rw [E.out]
    simp [heap_setCell, Obj.setAt, hcap]
  · have E := hid (show F.crash = F by simp [Fl.crash, hd])
    go_enter Try.func33, Try.ntmps33
    go_wp2
    go_end0
    rw [E.out]
    exact ⟨rfl, H.out, Upd.refl _ _⟩

set_option maxHeartbeats 400000 in
theorem rwear_any (p q : Nat) (g : Nat → Nat) (b : Int) (w : World) (F : Fl) (h : RefAt w p q g F) :
    Calls Try.prog 36 #[.pointer (some ⟨p, 0, none⟩), .int .i64 b] w fun e w' => e = .returned (.int .i64 (if b < 0 ∨ F.nb ≤ b then 0 else (F.blk b.toNat).wear)) ∧ w = w' := by
  obtain ⟨cap, ⟨c0, c1, c2, c3, c4, c5⟩, hz⟩ := h.cells
  have hnb := h.ok.nb.2
  have hrow := fun i (hi : i < F.nb) => (h.row hi).2.1
  have H := hid h; clear h
  by_cases hb : 0 ≤ b ∧ b < F.nb
  · rw [if_neg (by omega)]
    have e : F.hasB b = true := decide_eq_true hb
    obtain ⟨n, rfl⟩ := Int.eq_ofNat_of_zero_le hb.1
    have hr := hrow n (by omega)
    have E := hid e
    have hb2 := hb.2
    clear hrow hb e
    rw [Int.toNat_natCast]
    go_enter Try.func36, Try.ntmps36
    go_wp2_with fail
    refine (rhas_any p q g n w F H.out).mono ?_
    rintro e w' ⟨he, rfl⟩
    rw [E.out] at he
    subst he
    go_wp2_with fail
    go_ret
    exact ⟨rfl, rfl⟩
  · rw [if_pos (by omega)]
    have E := hid (show F.hasB b = false from decide_eq_false hb)
    clear hrow hb
    go_enter Try.func36, Try.ntmps36
    go_wp2_with fail
    refine (rhas_any p q g b w F H.out).mono ?_
    rintro e w' ⟨he, rfl⟩
    rw [E.out] at he
    subst he
    go_wp2_with fail
    go_ret
    exact ⟨rfl, rfl⟩
end Go.Proofs.Ytajmhiacmjgffaa
