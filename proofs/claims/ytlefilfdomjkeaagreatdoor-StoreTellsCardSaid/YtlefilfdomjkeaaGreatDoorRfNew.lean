/- The memory of the reference's flash, over the same model, and the walks of its small methods. -/
/- The walks of Read, Program, Erase and Do of the reference's flash. -/
/- The walks of Erase and Do of the reference's flash. -/
/- The walk of New of the reference. -/
import Derived.Test.YtlefilfdomjkeaaGreatDoorFlA5
import Derived.Deep.RegionLaw
namespace Go.Proofs.YtlefilfdomjkeaaGreatDoor
open Go.RowKit

def vS (o : Option ByteArray) : ByteArray := o.getD ByteArray.empty

/-- The cells of the reference's pages. -/
def PagesRep (ps : Array Value) (np : Nat) (page : Nat → Option ByteArray) : Prop :=
  ∀ k, k < np → ps[k * 2]? = some (.bool (page k).isSome) ∧ ps[k * 2 + 1]? = some (.string (vS (page k)))

/-- The world holds the reference's flash F: its struct is block p, its blocks lie in block q, the pages of block i in block g i. -/
structure RefAt (w : World) (p q : Nat) (g : Nat → Nat) (F : Fl) : Prop where
  head : ∃ cap, w.heap[p]? = some (.cells #[.slice (some ⟨q, 0, none⟩) F.nb cap, .int .i64 F.np, .bool F.down, .int .i64 F.lost, .int .i64 F.left, .int .i64 F.keep] 46 (0, 0))
  rows : ∃ cs, w.heap[q]? = some (.cells cs 68 (0, 0)) ∧ ∀ i, i < F.nb → (∃ cap, F.np ≤ cap ∧ cs[i * 2]? = some (.slice (some ⟨g i, 0, none⟩) F.np cap)) ∧ cs[i * 2 + 1]? = some (.int .i64 (F.blk i).wear)
  pages : ∀ i, i < F.nb → ∃ ps, w.heap[g i]? = some (.cells ps 104 (0, 0)) ∧ PagesRep ps F.np (F.blk i).page
  inj : ∀ i j, i < F.nb → j < F.nb → g i = g j → i = j
  ok : F.Ok

theorem RefAt.ne {w : World} {p q : Nat} {g : Nat → Nat} {F : Fl} (h : RefAt w p q g F) : p ≠ q ∧ (∀ i, i < F.nb → p ≠ g i ∧ q ≠ g i) := by
  obtain ⟨cap, h1⟩ := h.head
  obtain ⟨cs, h2, _⟩ := h.rows
  refine ⟨fun e => ?_, fun i hi => ⟨fun e => ?_, fun e => ?_⟩⟩
  · subst e; rw [h1] at h2; injection h2 with e; injection e with _ e _; exact absurd e (by decide)
  · obtain ⟨ps, h3, _⟩ := h.pages i hi
    rw [← e, h1] at h3; injection h3 with e; injection e with _ e _; exact absurd e (by decide)
  · obtain ⟨ps, h3, _⟩ := h.pages i hi
    rw [← e, h2] at h3; injection h3 with e; injection e with _ e _; exact absurd e (by decide)

/-- The blocks of the reference's flash. -/
def Foot (p q : Nat) (g : Nat → Nat) (nb k : Nat) : Prop := k = p ∨ k = q ∨ ∃ i, i < nb ∧ k = g i

theorem RefAt.upd {S : Nat → Prop} {w w' : World} {p q : Nat} {g : Nat → Nat} {F : Fl} (h : RefAt w p q g F) (u : Upd S w w') (hS : ∀ k, Foot p q g F.nb k → ¬ S k) : RefAt w' p q g F := by
  obtain ⟨cap, h1⟩ := h.head
  obtain ⟨cs, h2, h3⟩ := h.rows
  refine ⟨⟨cap, by rw [u.block p (heap_lt h1) (hS p (.inl rfl))]; exact h1⟩, ⟨cs, by rw [u.block q (heap_lt h2) (hS q (.inr (.inl rfl)))]; exact h2, h3⟩, fun i hi => ?_, h.inj, h.ok⟩
  obtain ⟨ps, h4, h5⟩ := h.pages i hi
  exact ⟨ps, by rw [u.block _ (heap_lt h4) (hS _ (.inr (.inr ⟨i, hi, rfl⟩)))]; exact h4, h5⟩

theorem RefAt.cells {w : World} {p q : Nat} {g : Nat → Nat} {F : Fl} (h : RefAt w p q g F) : ∃ cap, (w.cell? ⟨p, 0, none⟩ = some (.slice (some ⟨q, 0, none⟩) F.nb cap) ∧ w.cell? ⟨p, 1, none⟩ = some (.int .i64 F.np) ∧
    w.cell? ⟨p, 2, none⟩ = some (.bool F.down) ∧ w.cell? ⟨p, 3, none⟩ = some (.int .i64 F.lost) ∧ w.cell? ⟨p, 4, none⟩ = some (.int .i64 F.left) ∧ w.cell? ⟨p, 5, none⟩ = some (.int .i64 F.keep)) ∧ (∀ o, w.frozen? ⟨p, o, none⟩ = false) := by
  obtain ⟨cap, h1⟩ := h.head
  refine ⟨cap, ⟨?_, ?_, ?_, ?_, ?_, ?_⟩, fun o => frozen_of_block h1⟩ <;> rw [cell_of_block h1] <;> rfl
theorem RefAt.row {w : World} {p q : Nat} {g : Nat → Nat} {F : Fl} (h : RefAt w p q g F) {i : Nat} (hi : i < F.nb) : (∃ cap, F.np ≤ cap ∧ w.cell? ⟨q, i * 2, none⟩ = some (.slice (some ⟨g i, 0, none⟩) F.np cap)) ∧
    w.cell? ⟨q, i * 2 + 1, none⟩ = some (.int .i64 (F.blk i).wear) ∧ w.frozen? ⟨q, i * 2 + 1, none⟩ = false := by
  obtain ⟨cs, h2, h3⟩ := h.rows
  obtain ⟨⟨cap, hc, h4⟩, h5⟩ := h3 i hi
  exact ⟨⟨cap, hc, by rw [cell_of_block h2]; exact h4⟩, by rw [cell_of_block h2]; exact h5, frozen_of_block h2⟩
theorem RefAt.page {w : World} {p q : Nat} {g : Nat → Nat} {F : Fl} (h : RefAt w p q g F) {i k : Nat} (hi : i < F.nb) (hk : k < F.np) : w.cell? ⟨g i, k * 2, none⟩ = some (.bool ((F.blk i).page k).isSome) ∧
    w.cell? ⟨g i, k * 2 + 1, none⟩ = some (.string (vS ((F.blk i).page k))) ∧ (∀ o, w.frozen? ⟨g i, o, none⟩ = false) := by
  obtain ⟨ps, h4, h5⟩ := h.pages i hi
  exact ⟨by rw [cell_of_block h4]; exact (h5 k hk).1, by rw [cell_of_block h4]; exact (h5 k hk).2, fun o => frozen_of_block h4⟩
theorem RefAt.lt {w : World} {p q : Nat} {g : Nat → Nat} {F : Fl} (h : RefAt w p q g F) : p < w.heap.size ∧ q < w.heap.size ∧ ∀ i, i < F.nb → g i < w.heap.size := by
  obtain ⟨cap, h1⟩ := h.head
  obtain ⟨cs, h2, _⟩ := h.rows
  refine ⟨heap_lt h1, heap_lt h2, fun i hi => ?_⟩
  obtain ⟨ps, h4, _⟩ := h.pages i hi
  exact heap_lt h4

/-- The struct was written, nothing else. -/
theorem RefAt.newHead {w w' : World} {p q : Nat} {g : Nat → Nat} {F G : Fl} (h : RefAt w p q g F) (u : Upd (· = p) w w') (hb : G.blk = F.blk) (hn : G.nb = F.nb) (hm : G.np = F.np) (ok : G.Ok)
    (hh : ∀ cap, w.heap[p]? = some (.cells #[.slice (some ⟨q, 0, none⟩) F.nb cap, .int .i64 F.np, .bool F.down, .int .i64 F.lost, .int .i64 F.left, .int .i64 F.keep] 46 (0, 0)) →
      w'.heap[p]? = some (.cells #[.slice (some ⟨q, 0, none⟩) G.nb cap, .int .i64 G.np, .bool G.down, .int .i64 G.lost, .int .i64 G.left, .int .i64 G.keep] 46 (0, 0))) : RefAt w' p q g G := by
  obtain ⟨cap, h1⟩ := h.head
  obtain ⟨cs, h2, h3⟩ := h.rows
  have hne := h.ne
  refine ⟨⟨cap, hh cap h1⟩, ⟨cs, ?_, ?_⟩, fun i hi => ?_, ?_, ok⟩
  · rw [u.block q (heap_lt h2) fun e => hne.1 e.symm]; exact h2
  · rw [hn, hb, hm]; exact h3
  · rw [hn] at hi
    obtain ⟨ps, h4, h5⟩ := h.pages i hi
    exact ⟨ps, by rw [u.block _ (heap_lt h4) fun e => (hne.2 i hi).1 e.symm]; exact h4, by rw [hm, hb]; exact h5⟩
  · rw [hn]; exact h.inj

/-! ## The small methods -/

def Fl.hasB (F : Fl) (b : Int) : Bool := decide (0 ≤ b ∧ b < F.nb)
theorem rhas_any (p q : Nat) (g : Nat → Nat) (b : Int) (w : World) (F : Fl) (h : RefAt w p q g F) :
    Calls Tryz.prog 58 #[.pointer (some ⟨p, 0, none⟩), .int .i64 b] w fun e w' => e = .returned (.bool (F.hasB b)) ∧ w = w' := by
  obtain ⟨cap, ⟨c0, c1, c2, c3, c4, c5⟩, hz⟩ := h.cells
  clear h
  by_cases h0 : 0 ≤ b
  · by_cases h1 : b < F.nb
    · have e : F.hasB b = true := by unfold Fl.hasB; exact decide_eq_true ⟨h0, h1⟩
      have E := hid e; clear e
      go_enter Tryz.func58, Tryz.ntmps58
      go_wp2
      go_ret
      rw [E.out]
      exact ⟨rfl, rfl⟩
    · have e : F.hasB b = false := by unfold Fl.hasB; exact decide_eq_false fun h => h1 h.2
      have E := hid e; clear e
      go_enter Tryz.func58, Tryz.ntmps58
      go_wp2
      go_ret
      rw [E.out]
      exact ⟨rfl, rfl⟩
  · have e : F.hasB b = false := by unfold Fl.hasB; exact decide_eq_false fun h => h0 h.1
    have E := hid e; clear e
    go_enter Tryz.func58, Tryz.ntmps58
    go_wp2
    go_ret
    rw [E.out]
    exact ⟨rfl, rfl⟩

set_option maxHeartbeats 400000 in
theorem rcomes_any (p q : Nat) (g : Nat → Nat) (w : World) (F : Fl) (h : RefAt w p q g F) (hd : F.down = false) :
    Calls Tryz.prog 84 #[.pointer (some ⟨p, 0, none⟩)] w fun e w' => e = .returned (.bool F.tick.down) ∧ RefAt w' p q g F.tick ∧ Upd (· = p) w w' := by
  obtain ⟨cap, ⟨c0, c1, c2, c3, c4, c5⟩, hz⟩ := h.cells
  have hl := h.ok.left
  by_cases h0 : 0 < F.left
  · have H := hid h; clear h
    have e1 : F.tick = { F with left := F.left - 1, down := F.left - 1 == 0 } := by rw [Fl.tick, if_pos h0]
    have E := hid e1; clear e1
    have hne : (F.left == 0) = false := beq_eq_false_iff_ne.2 (by omega)
    go_enter Tryz.func84, Tryz.ntmps84
    go_wp2
    go_ret
    have u := ((Upd.refl (· = p) w).at_ 4 (.int .i64 (F.left - 1))).at_ 2 (.bool (F.left - 1 == 0))
    refine ⟨?_, ?_, u⟩
    · rw [E.out]; rfl
    · refine H.out.newHead u F.tick_blk.1 F.tick_blk.2.1 F.tick_blk.2.2.1 (Fl.tick_ok H.out.ok) ?_
      intro cap hcap
      rw [E.out]
      simp [heap_setCell, Obj.setAt, hcap]
  · have H := hid h; clear h
    have e1 : F.tick = F := by rw [Fl.tick, if_neg h0]
    have E := hid e1; clear e1
    have hne : (F.left == 0) = true := beq_iff_eq.2 (by omega)
    have HD := hid hd
    go_enter Tryz.func84, Tryz.ntmps84
    go_wp2
    go_ret
    rw [E.out, HD.out]
    exact ⟨rfl, H.out, Upd.refl _ _⟩

theorem rstart_any (p q : Nat) (g : Nat → Nat) (w : World) (F : Fl) (h : RefAt w p q g F) :
    Calls Tryz.prog 26 #[.pointer (some ⟨p, 0, none⟩)] w fun e w' => e = .returned (.tuple #[]) ∧ RefAt w' p q g F.start ∧ Upd (· = p) w w' := by
  obtain ⟨cap, ⟨c0, c1, c2, c3, c4, c5⟩, hz⟩ := h.cells
  have H := hid h; clear h
  go_enter Tryz.func26, Tryz.ntmps26
  go_wp2
  go_end0
  have u := (Upd.refl (· = p) w).setCell ⟨p, 2, none⟩ (.bool false) (.inl rfl)
  refine ⟨rfl, H.out.newHead u rfl rfl rfl (Fl.start_ok H.out.ok) ?_, u⟩
  intro cap hcap
  simp [heap_setCell, Obj.setAt, hcap, Fl.start]

theorem rarm_any (p q : Nat) (g : Nat → Nat) (n k : Int) (w : World) (F : Fl) (h : RefAt w p q g F) (hn : n ≤ 9223372036854775807) :
    Calls Tryz.prog 55 #[.pointer (some ⟨p, 0, none⟩), .int .i64 n, .int .i64 k] w fun e w' => e = .returned (.tuple #[]) ∧ RefAt w' p q g (F.arm n k) ∧ Upd (· = p) w w' := by
  obtain ⟨cap, ⟨c0, c1, c2, c3, c4, c5⟩, hz⟩ := h.cells
  have E := hid (show F.arm n k = { F with left := max n 0, keep := k } from rfl)
  have ok := Fl.arm_ok h.ok n k hn
  have H := hid h; clear h
  by_cases hn0 : n < 0
  · have M := hid (show max n 0 = 0 by omega)
    go_enter Tryz.func55, Tryz.ntmps55
    go_wp2
    go_end0
    have u := ((Upd.refl (· = p) w).at_ 4 (.int .i64 0)).at_ 5 (.int .i64 k)
    refine ⟨rfl, H.out.newHead u rfl rfl rfl ok ?_, u⟩
    intro cap hcap
    rw [E.out, M.out]
    simp [heap_setCell, Obj.setAt, hcap]
  · have M := hid (show max n 0 = n by omega)
    go_enter Tryz.func55, Tryz.ntmps55
    go_wp2
    go_end0
    have u := ((Upd.refl (· = p) w).at_ 4 (.int .i64 n)).at_ 5 (.int .i64 k)
    refine ⟨rfl, H.out.newHead u rfl rfl rfl ok ?_, u⟩
    intro cap hcap
    rw [E.out, M.out]
    simp [heap_setCell, Obj.setAt, hcap]

theorem rlose_any (p q : Nat) (g : Nat → Nat) (n : Int) (w : World) (F : Fl) (h : RefAt w p q g F) (hn : n ≤ 9223372036854775807) :
    Calls Tryz.prog 54 #[.pointer (some ⟨p, 0, none⟩), .int .i64 n] w fun e w' => e = .returned (.tuple #[]) ∧ RefAt w' p q g (F.lose n) ∧ Upd (· = p) w w' := by
  obtain ⟨cap, ⟨c0, c1, c2, c3, c4, c5⟩, hz⟩ := h.cells
  have E := hid (show F.lose n = { F with lost := max n 0 } from rfl)
  have ok := Fl.lose_ok h.ok n hn
  have H := hid h; clear h
  by_cases hn0 : n < 0
  · have M := hid (show max n 0 = 0 by omega)
    go_enter Tryz.func54, Tryz.ntmps54
    go_wp2
    go_end0
    have u := (Upd.refl (· = p) w).at_ 3 (.int .i64 0)
    refine ⟨rfl, H.out.newHead u rfl rfl rfl ok ?_, u⟩
    intro cap hcap
    rw [E.out, M.out]
    simp [heap_setCell, Obj.setAt, hcap]
  · have M := hid (show max n 0 = n by omega)
    go_enter Tryz.func54, Tryz.ntmps54
    go_wp2
    go_end0
    have u := (Upd.refl (· = p) w).at_ 3 (.int .i64 n)
    refine ⟨rfl, H.out.newHead u rfl rfl rfl ok ?_, u⟩
    intro cap hcap
    rw [E.out, M.out]
    simp [heap_setCell, Obj.setAt, hcap]

theorem rcrash_any (p q : Nat) (g : Nat → Nat) (w : World) (F : Fl) (h : RefAt w p q g F) :
    Calls Tryz.prog 56 #[.pointer (some ⟨p, 0, none⟩)] w fun e w' => e = .returned (.tuple #[]) ∧ RefAt w' p q g F.crash ∧ Upd (· = p) w w' := by
  obtain ⟨cap, ⟨c0, c1, c2, c3, c4, c5⟩, hz⟩ := h.cells
  have ok := Fl.crash_ok h.ok
  have H := hid h; clear h
  cases hd : F.down
  · have E := hid (show F.crash = { F with down := true, left := 0 } by simp [Fl.crash, hd])
    go_enter Tryz.func56, Tryz.ntmps56
    go_wp2
    go_end0
    have u := ((Upd.refl (· = p) w).at_ 2 (.bool true)).at_ 4 (.int .i64 0)
    refine ⟨rfl, H.out.newHead u (by rw [E.out]) (by rw [E.out]) (by rw [E.out]) ok ?_, u⟩
    intro cap hcap
    rw [E.out]
    simp [heap_setCell, Obj.setAt, hcap]
  · have E := hid (show F.crash = F by simp [Fl.crash, hd])
    go_enter Tryz.func56, Tryz.ntmps56
    go_wp2
    go_end0
    rw [E.out]
    exact ⟨rfl, H.out, Upd.refl _ _⟩

set_option maxHeartbeats 400000 in
theorem rwear_any (p q : Nat) (g : Nat → Nat) (b : Int) (w : World) (F : Fl) (h : RefAt w p q g F) :
    Calls Tryz.prog 30 #[.pointer (some ⟨p, 0, none⟩), .int .i64 b] w fun e w' => e = .returned (.int .i64 (if b < 0 ∨ F.nb ≤ b then 0 else (F.blk b.toNat).wear)) ∧ w = w' := by
  obtain ⟨cap, ⟨c0, c1, c2, c3, c4, c5⟩, hz⟩ := h.cells
  have hnb := h.ok.nb.2
  have hrow := fun i (hi : i < F.nb) => (h.row hi).2.1
  have H := hid h; clear h
  by_cases hb : 0 ≤ b ∧ b < F.nb
  · rw [if_neg (by omega)]
    have e : F.hasB b = true := decide_eq_true hb
    obtain ⟨n, rfl⟩ := Int.eq_ofNat_of_zero_le hb.1
    have hr := hrow n (by omega)
    have E := hid e
    have hb2 := hb.2
    clear hrow hb e
    rw [Int.toNat_natCast]
    go_enter Tryz.func30, Tryz.ntmps30
    go_wp2_with fail
    refine (rhas_any p q g n w F H.out).mono ?_
    rintro e w' ⟨he, rfl⟩
    rw [E.out] at he
    subst he
    go_wp2_with fail
    go_ret
    exact ⟨rfl, rfl⟩
  · rw [if_pos (by omega)]
    have E := hid (show F.hasB b = false from decide_eq_false hb)
    clear hrow hb
    go_enter Tryz.func30, Tryz.ntmps30
    go_wp2_with fail
    refine (rhas_any p q g b w F H.out).mono ?_
    rintro e w' ⟨he, rfl⟩
    rw [E.out] at he
    subst he
    go_wp2_with fail
    go_ret
    exact ⟨rfl, rfl⟩
end Go.Proofs.YtlefilfdomjkeaaGreatDoor
namespace Go.Proofs.YtlefilfdomjkeaaGreatDoor
open Go.RowKit

set_option maxHeartbeats 1000000 in
theorem rread_any (p q : Nat) (g : Nat → Nat) (b k : Int) (w : World) (F : Fl) (h : RefAt w p q g F) :
    Calls Tryz.prog 28 #[.pointer (some ⟨p, 0, none⟩), .int .i64 b, .int .i64 k] w fun e w' => e = .returned (.tuple #[.string (F.read b k).1, .int .i64 (F.read b k).2]) ∧ Upd (fun _ => False) w w' := by
  obtain ⟨cap, ⟨c0, c1, c2, c3, c4, c5⟩, hz⟩ := h.cells
  have hnb := h.ok.nb.2
  have hnp := h.ok.np.2
  have hnb1 := h.ok.nb.1
  have ROW := hid fun i (hi : i < F.nb) => h.row hi
  have PG := hid fun i k (hi : i < F.nb) (hk : k < F.np) => h.page hi hk
  have H := hid h; clear h
  cases hd : F.down
  · by_cases hb : 0 ≤ b ∧ b < F.nb
    · have HB := hid (show F.hasB b = true from decide_eq_true hb)
      by_cases hk : 0 ≤ k ∧ k < F.np
      · have ha : F.atErr b k = 0 := Fl.atErr_ok hd hb.1 hb.2 hk.1 hk.2
        obtain ⟨n, rfl⟩ := Int.eq_ofNat_of_zero_le hb.1
        obtain ⟨m, rfl⟩ := Int.eq_ofNat_of_zero_le hk.1
        have hn2 : n < F.nb := by omega
        have hm2 : m < F.np := by omega
        obtain ⟨⟨cp, hcp, r1⟩, _, _⟩ := ROW.out n hn2
        obtain ⟨p1, p2, _⟩ := PG.out n m hn2 hm2
        have e1 : F.read n m = match (F.blk n).page m with | some s => (s, 0) | none => (ByteArray.empty, 4) := by rw [Fl.read, if_pos ha]; rfl
        clear ROW PG hb hk ha
        cases ho : (F.blk n).page m with
        | none =>
          rw [ho] at p1 p2 e1
          have E := hid e1; clear e1 ho
          have p1 : _ = some (Value.bool false) := p1
          go_enter Tryz.func28, Tryz.ntmps28
          go_wp2_with fail
          refine (rhas_any p q g n w F H.out).mono ?_
          rintro e w' ⟨he, rfl⟩
          rw [HB.out] at he
          subst he
          go_wp2_with fail
          go_ret2
          rw [E.out]
          exact ⟨rfl, (Upd.refl _ _).alloc _⟩
        | some s =>
          rw [ho] at p1 p2 e1
          have E := hid e1; clear e1 ho
          have p1 : _ = some (Value.bool true) := p1
          have p2 : _ = some (Value.string s) := p2
          go_enter Tryz.func28, Tryz.ntmps28
          go_wp2_with fail
          refine (rhas_any p q g n w F H.out).mono ?_
          rintro e w' ⟨he, rfl⟩
          rw [HB.out] at he
          subst he
          go_wp2_with fail
          go_ret2
          rw [E.out]
          exact ⟨rfl, (Upd.refl _ _).alloc _⟩
      · have ha : F.atErr b k = 1 := by unfold Fl.atErr; rw [hd, if_neg (by decide), if_pos (by omega)]
        have E := hid (show F.read b k = (ByteArray.empty, 1) by rw [Fl.read, if_neg (by rw [ha]; decide), ha])
        clear ROW PG ha
        have hk' : k < 0 ∨ 0 ≤ k ∧ (F.np : Int) ≤ k := by omega
        clear hk hb
        rcases hk' with hk | ⟨hk1, hk2⟩
        all_goals
          go_enter Tryz.func28, Tryz.ntmps28
          go_wp2_with fail
          refine (rhas_any p q g b w F H.out).mono ?_
          rintro e w' ⟨he, rfl⟩
          rw [HB.out] at he
          subst he
          go_wp2_with fail
          go_ret2
          rw [E.out]
          exact ⟨rfl, Upd.refl _ _⟩
    · have HB := hid (show F.hasB b = false from decide_eq_false hb)
      have ha : F.atErr b k = 1 := by unfold Fl.atErr; rw [hd, if_neg (by decide), if_pos (by omega)]
      have E := hid (show F.read b k = (ByteArray.empty, 1) by rw [Fl.read, if_neg (by rw [ha]; decide), ha])
      clear ROW PG ha hb
      go_enter Tryz.func28, Tryz.ntmps28
      go_wp2_with fail
      refine (rhas_any p q g b w F H.out).mono ?_
      rintro e w' ⟨he, rfl⟩
      rw [HB.out] at he
      subst he
      go_wp2_with fail
      go_ret2
      rw [E.out]
      exact ⟨rfl, Upd.refl _ _⟩
  · have ha : F.atErr b k = 8 := by unfold Fl.atErr; rw [hd, if_pos rfl]
    have E := hid (show F.read b k = (ByteArray.empty, 8) by rw [Fl.read, if_neg (by rw [ha]; decide), ha])
    clear ROW PG ha
    go_enter Tryz.func28, Tryz.ntmps28
    go_wp2_with fail
    go_ret2
    rw [E.out]
    exact ⟨rfl, Upd.refl _ _⟩

theorem RefAt.setPage {w : World} {p q n k : Nat} {g : Nat → Nat} {F : Fl} {s : ByteArray} (h : RefAt w p q g F) (hn : n < F.nb) (hk : k < F.np) :
    RefAt ((w.setCell ⟨g n, k * 2, none⟩ (.bool true)).setCell ⟨g n, k * 2 + 1, none⟩ (.string s)) p q g (F.setPage n k s) := by
  obtain ⟨cap, h1⟩ := h.head
  obtain ⟨cs, h2, h3⟩ := h.rows
  have hne := h.ne
  obtain ⟨ps, h4, h5⟩ := h.pages n hn
  have hps : ∀ j, j < F.np → j * 2 + 1 < ps.size := fun j hj => by
    rcases Nat.lt_or_ge (j * 2 + 1) ps.size with g1 | g1
    · exact g1
    · have := (h5 j hj).2; rw [Array.getElem?_eq_none g1] at this; cases this
  refine ⟨⟨cap, by simp only [heap_setCell, if_neg ((hne.2 n hn).1.symm)]; exact h1⟩, ⟨cs, by simp only [heap_setCell, if_neg ((hne.2 n hn).2.symm)]; exact h2, fun i hi => ?_⟩, fun i hi => ?_, h.inj, Fl.setPage_ok h.ok n k s⟩
  · rw [Fl.setPage_wear]; exact h3 i hi
  · by_cases e : i = n
    · subst e
      refine ⟨(ps.setIfInBounds (k * 2) (.bool true)).setIfInBounds (k * 2 + 1) (.string s), ?_, fun j hj => ?_⟩
      · simp [heap_setCell, Obj.setAt, h4]
      · have hpg : ((F.setPage i k s).blk i).page j = if j = k then some s else (F.blk i).page j := by
          unfold Fl.setPage; dsimp only; rw [if_pos rfl]
        rw [hpg]
        by_cases ej : j = k
        · subst ej
          rw [if_pos rfl]
          have := hps j hj
          refine ⟨?_, ?_⟩
          · rw [Array.getElem?_setIfInBounds_ne (by omega), Array.getElem?_setIfInBounds_self_of_lt (by omega)]; rfl
          · rw [Array.getElem?_setIfInBounds_self_of_lt (by simp; omega)]; rfl
        · rw [if_neg ej]
          refine ⟨?_, ?_⟩
          · rw [Array.getElem?_setIfInBounds_ne (by omega), Array.getElem?_setIfInBounds_ne (by omega)]; exact (h5 j hj).1
          · rw [Array.getElem?_setIfInBounds_ne (by omega), Array.getElem?_setIfInBounds_ne (by omega)]; exact (h5 j hj).2
    · obtain ⟨ps', h6, h7⟩ := h.pages i hi
      have hgi : g n ≠ g i := fun e1 => e (h.inj i n hi hn e1.symm)
      refine ⟨ps', by simp only [heap_setCell, if_neg hgi]; exact h6, fun j hj => ?_⟩
      have hpg : ((F.setPage n k s).blk i).page j = (F.blk i).page j := by
        unfold Fl.setPage; dsimp only; rw [if_neg e]
      rw [hpg]; exact h7 j hj

def RProgPost (p q : Nat) (g : Nat → Nat) (F : Fl) (b k : Int) (s : ByteArray) (w : World) (e : Ending) (w' : World) : Prop :=
  e = .returned (.int .i64 (F.program b k s).2) ∧ RefAt w' p q g (F.program b k s).1 ∧ Upd (Foot p q g F.nb) w w'

set_option maxRecDepth 100000 in
set_option maxHeartbeats 2000000 in
theorem rprogram_any (p q : Nat) (g : Nat → Nat) (b k : Int) (s : ByteArray) (w : World) (F : Fl) (h : RefAt w p q g F) (hsz : s.size ≤ maxLen) :
    Calls Tryz.prog 73 #[.pointer (some ⟨p, 0, none⟩), .int .i64 b, .int .i64 k, .string s] w (RProgPost p q g F b k s w) := by
  unfold maxLen at hsz
  obtain ⟨cap, ⟨c0, c1, c2, c3, c4, c5⟩, hz⟩ := h.cells
  have hnb := h.ok.nb.2
  have hnp := h.ok.np.2
  have hlo := h.ok.lost
  have ROW := hid fun i (hi : i < F.nb) => h.row hi
  have PG := hid fun i k (hi : i < F.nb) (hk : k < F.np) => h.page hi hk
  have H := hid h; clear h
  cases hd : F.down
  case true =>
    have ha : F.atErr b k = 8 := by unfold Fl.atErr; rw [hd, if_pos rfl]
    have E := hid (show F.program b k s = (F, 8) by rw [Fl.program, if_pos (by rw [ha]; decide), ha])
    clear ROW PG ha
    go_enter Tryz.func73, Tryz.ntmps73
    go_wp2_with fail
    go_ret
    unfold RProgPost
    rw [E.out]
    exact ⟨rfl, H.out, Upd.refl _ _⟩
  case false =>
    by_cases hb : 0 ≤ b ∧ b < F.nb
    case neg =>
      have HB := hid (show F.hasB b = false from decide_eq_false hb)
      have ha : F.atErr b k = 1 := by unfold Fl.atErr; rw [hd, if_neg (by decide), if_pos (by omega)]
      have E := hid (show F.program b k s = (F, 1) by rw [Fl.program, if_pos (by rw [ha]; decide), ha])
      clear ROW PG ha hb
      go_enter Tryz.func73, Tryz.ntmps73
      go_wp2_with fail
      refine (rhas_any p q g b w F H.out).mono ?_
      rintro e w' ⟨he, rfl⟩
      rw [HB.out] at he
      subst he
      go_wp2_with fail
      go_ret
      unfold RProgPost
      rw [E.out]
      exact ⟨rfl, H.out, Upd.refl _ _⟩
    case pos =>
      have HB := hid (show F.hasB b = true from decide_eq_true hb)
      by_cases hk : 0 ≤ k ∧ k < F.np ∧ s.size ≤ 64
      case neg =>
        have E : F.program b k s = (F, 1) := by
          by_cases hk2 : 0 ≤ k ∧ k < F.np
          · have ha : F.atErr b k = 0 := Fl.atErr_ok hd hb.1 hb.2 hk2.1 hk2.2
            rw [Fl.program, if_neg (by rw [ha]; exact fun h => h rfl), if_pos (by omega)]
          · have ha : F.atErr b k = 1 := by unfold Fl.atErr; rw [hd, if_neg (by decide), if_pos (by omega)]
            rw [Fl.program, if_pos (by rw [ha]; decide), ha]
        have E := hid E
        have hk' : k < 0 ∨ 0 ≤ k ∧ (F.np : Int) ≤ k ∨ 0 ≤ k ∧ k < F.np ∧ 64 < (s.size : Int) := by omega
        clear ROW PG hk hb
        rcases hk' with hk | ⟨hk1, hk2⟩ | ⟨hk1, hk2, hk3⟩
        all_goals
          go_enter Tryz.func73, Tryz.ntmps73
          go_wp2_with fail
          refine (rhas_any p q g b w F H.out).mono ?_
          rintro e w' ⟨he, rfl⟩
          rw [HB.out] at he
          subst he
          go_wp2_with fail
          go_ret
          unfold RProgPost
          rw [E.out]
          exact ⟨rfl, H.out, Upd.refl _ _⟩
      case pos =>
        have ha : F.atErr b k = 0 := Fl.atErr_ok hd hb.1 hb.2 hk.1 hk.2.1
        obtain ⟨n, rfl⟩ := Int.eq_ofNat_of_zero_le hb.1
        obtain ⟨m, rfl⟩ := Int.eq_ofNat_of_zero_le hk.1
        have hn2 : n < F.nb := by omega
        have hm2 : m < F.np := by omega
        have hs64 : (s.size : Int) ≤ 64 := by omega
        obtain ⟨⟨cp, hcp, r1⟩, _, _⟩ := ROW.out n hn2
        have E0 : F.program n m s = if F.later n m then (F, 7) else if F.tick.down then (F.tick.setPage n m (cut F s), 8) else
            if 0 < F.lost then ({ F.tick with lost := F.lost - 1 }, 9) else (F.tick.setPage n m s, 0) := by
          unfold Fl.program
          rw [if_neg (by rw [ha]; exact fun h => h rfl), if_neg (by omega)]
          rfl
        have E := hid E0
        clear ROW hb hk ha E0
        go_enter Tryz.func73, Tryz.ntmps73
        go_wp2_with fail
        refine (rhas_any p q g n w F H.out).mono ?_
        rintro e w' ⟨he, rfl⟩
        rw [HB.out] at he
        subst he
        go_wp2_with fail
        go_loop [10] (fun i => ∃ j : Nat, m ≤ j ∧ j ≤ F.np ∧ (∀ x, m ≤ x → x < j → (F.blk n).page x = none) ∧ i = .int .i64 j) (fun i => F.np - (intOf i).toNat)
        case atStart => exact ⟨m, Nat.le_refl _, by omega, fun x h1 h2 => by omega, rfl⟩
        case round =>
          obtain ⟨j, hj1, hj2, hpre, rfl⟩ := hrel
          have PRE := hid hpre; clear hpre
          by_cases hlt : j < F.np
          · obtain ⟨p1, _, _⟩ := PG.out n j hn2 hlt
            cases ho : (F.blk n).page j with
            | none =>
              rw [ho] at p1
              have p1 : _ = some (Value.bool false) := p1
              have HO := hid ho; clear ho
              go_wp2
              go_round
              case rel => exact ⟨j + 1, by omega, by omega, fun x h1 h2 => by
                rcases Nat.lt_or_ge x j with h' | h'
                · exact PRE.out x h1 h'
                · obtain rfl : x = j := by omega
                  exact HO.out, by go_num⟩
              case measure => simp [intOf]; omega
            | some s' =>
              rw [ho] at p1
              have p1 : _ = some (Value.bool true) := p1
              have hlat : F.later n m = true := later_true (j := j - m) (by omega) (by rw [show m + (j - m) = j by omega]; exact ho)
              have E7 := hid (show F.program n m s = (F, 7) by rw [E.out, if_pos hlat])
              clear ho hlat
              go_wp2
              go_ret
              unfold RProgPost
              rw [E7.out]
              exact ⟨rfl, H.out, Upd.refl _ _⟩
          · have hlat : F.later n m = false := later_false fun x hx => PRE.out _ (by omega) (by omega)
            have E1 := hid (show F.program n m s = if F.tick.down then (F.tick.setPage n m (cut F s), 8) else
              if 0 < F.lost then ({ F.tick with lost := F.lost - 1 }, 9) else (F.tick.setPage n m s, 0) by rw [E.out, hlat]; rfl)
            clear hlat
            go_wp2_with fail
            refine (rcomes_any p q g _ F H.out hd).mono ?_
            rintro e w2 ⟨rfl, f2, u2⟩
            obtain ⟨cap2, ⟨d0, d1, d2, d3, d4, d5⟩, hz2⟩ := f2.cells
            obtain ⟨p1, p2, pz⟩ := f2.page (i := n) (k := m) (by rw [F.tick_blk.2.1]; exact hn2) (by rw [F.tick_blk.2.2.1]; exact hm2)
            have ht3 := F.tick_blk.2.2.2.1
            have ht5 := F.tick_blk.2.2.2.2
            rw [ht3] at d3
            rw [ht5] at d5
            have hn3 : n < F.tick.nb := by rw [F.tick_blk.2.1]; exact hn2
            have hm3 : m < F.tick.np := by rw [F.tick_blk.2.2.1]; exact hm2
            have H2 := hid f2; have U2 := hid u2
            have hset : ∀ c, RefAt ((w2.setCell ⟨g n, m * 2, none⟩ (.bool true)).setCell ⟨g n, m * 2 + 1, none⟩ (.string c)) p q g (F.tick.setPage n m c) ∧ Upd (Foot p q g F.nb) w ((w2.setCell ⟨g n, m * 2, none⟩ (.bool true)).setCell ⟨g n, m * 2 + 1, none⟩ (.string c)) :=
              fun c => ⟨f2.setPage hn3 hm3, ((u2.mono fun x hx => .inl hx).setCell _ _ (.inl (.inr (.inr ⟨n, hn2, rfl⟩)))).setCell _ _ (.inl (.inr (.inr ⟨n, hn2, rfl⟩)))⟩
            have SET := hid hset
            clear f2 u2 hset ht3 ht5
            cases ht : F.tick.down
            · by_cases h0 : 0 < F.lost
              · have E9 := hid (show F.program n m s = ({ F.tick with lost := F.lost - 1 }, 9) by rw [E1.out, if_neg (by rw [ht]; decide), if_pos h0])
                go_wp2_with fail
                go_ret
                unfold RProgPost
                rw [E9.out]
                have u3 := (Upd.refl (· = p) w2).at_ 3 (.int .i64 (F.lost - 1))
                refine ⟨rfl, H2.out.newHead u3 rfl rfl rfl (Fl.lost_ok H.out.ok h0) ?_, (U2.out.trans u3).mono fun x hx => .inl hx⟩
                intro cap3 hcap
                simp [heap_setCell, Obj.setAt, hcap]
              · have E9 := hid (show F.program n m s = (F.tick.setPage n m s, 0) by rw [E1.out, if_neg (by rw [ht]; decide), if_neg h0])
                go_wp2_with fail
                go_ret
                unfold RProgPost
                rw [E9.out]
                exact ⟨rfl, SET.out s⟩
            · have E9 := hid (show F.program n m s = (F.tick.setPage n m (cut F s), 8) by rw [E1.out, if_pos ht])
              have hcut : ∀ x : Nat, (x : Int) = min (max F.keep 0) s.size → cut F s = s.extract 0 x := fun x hx => by
                unfold cut; rw [← hx]; rfl
              have HCUT := hid hcut; clear hcut
              by_cases hk0 : F.keep < 0
              · have C1 := hid (show cut F s = ByteArray.empty by rw [HCUT.out 0 (by omega)]; simp)
                go_wp2_with fail
                go_ret
                unfold RProgPost
                rw [E9.out, C1.out]
                exact ⟨rfl, SET.out _⟩
              · by_cases hk1 : F.keep ≤ s.size
                · obtain ⟨x, hx⟩ := Int.eq_ofNat_of_zero_le (by omega : 0 ≤ F.keep)
                  have C1 := hid (HCUT.out x (by omega))
                  rw [hx] at d5 hk0 hk1
                  clear hx
                  go_wp2_with fail
                  go_ret
                  unfold RProgPost
                  rw [E9.out, C1.out]
                  exact ⟨rfl, SET.out _⟩
                · have C1 := hid (show cut F s = s by rw [HCUT.out s.size (by omega)]; simp)
                  go_wp2_with fail
                  go_ret
                  unfold RProgPost
                  rw [E9.out, C1.out]
                  exact ⟨rfl, SET.out _⟩
end Go.Proofs.YtlefilfdomjkeaaGreatDoor
namespace Go.Proofs.YtlefilfdomjkeaaGreatDoor
open Go.RowKit

def Fl.dropPage (F : Fl) (n k : Nat) : Fl :=
  { F with blk := fun i => if i = n then { F.blk n with page := fun j => if j = k then none else (F.blk n).page j } else F.blk i }
theorem Fl.dropPage_wear (F : Fl) (n k i : Nat) : ((F.dropPage n k).blk i).wear = (F.blk i).wear := by
  unfold Fl.dropPage; dsimp only; split
  · rename_i e; subst e; rfl
  · rfl

theorem RefAt.dropPage {w : World} {p q n k : Nat} {g : Nat → Nat} {F : Fl} (h : RefAt w p q g F) (hn : n < F.nb) (hk : k < F.np) :
    RefAt ((w.setCell ⟨g n, k * 2, none⟩ (.bool false)).setCell ⟨g n, k * 2 + 1, none⟩ (.string ByteArray.empty)) p q g (F.dropPage n k) := by
  obtain ⟨cap, h1⟩ := h.head
  obtain ⟨cs, h2, h3⟩ := h.rows
  have hne := h.ne
  obtain ⟨ps, h4, h5⟩ := h.pages n hn
  have hps : ∀ j, j < F.np → j * 2 + 1 < ps.size := fun j hj => by
    rcases Nat.lt_or_ge (j * 2 + 1) ps.size with g1 | g1
    · exact g1
    · have := (h5 j hj).2; rw [Array.getElem?_eq_none g1] at this; cases this
  refine ⟨⟨cap, by simp only [heap_setCell, if_neg ((hne.2 n hn).1.symm)]; exact h1⟩, ⟨cs, by simp only [heap_setCell, if_neg ((hne.2 n hn).2.symm)]; exact h2, fun i hi => ?_⟩, fun i hi => ?_, h.inj,
    ⟨h.ok.nb, h.ok.np, h.ok.lost, h.ok.left, fun i hi => by rw [Fl.dropPage_wear]; exact h.ok.wear i hi⟩⟩
  · rw [Fl.dropPage_wear]; exact h3 i hi
  · by_cases e : i = n
    · subst e
      refine ⟨(ps.setIfInBounds (k * 2) (.bool false)).setIfInBounds (k * 2 + 1) (.string ByteArray.empty), ?_, fun j hj => ?_⟩
      · simp [heap_setCell, Obj.setAt, h4]
      · have hpg : ((F.dropPage i k).blk i).page j = if j = k then none else (F.blk i).page j := by
          unfold Fl.dropPage; dsimp only; rw [if_pos rfl]
        rw [hpg]
        by_cases ej : j = k
        · subst ej
          rw [if_pos rfl]
          have := hps j hj
          refine ⟨?_, ?_⟩
          · rw [Array.getElem?_setIfInBounds_ne (by omega), Array.getElem?_setIfInBounds_self_of_lt (by omega)]; rfl
          · rw [Array.getElem?_setIfInBounds_self_of_lt (by simp; omega)]; rfl
        · rw [if_neg ej]
          refine ⟨?_, ?_⟩
          · rw [Array.getElem?_setIfInBounds_ne (by omega), Array.getElem?_setIfInBounds_ne (by omega)]; exact (h5 j hj).1
          · rw [Array.getElem?_setIfInBounds_ne (by omega), Array.getElem?_setIfInBounds_ne (by omega)]; exact (h5 j hj).2
    · obtain ⟨ps', h6, h7⟩ := h.pages i hi
      have hgi : g n ≠ g i := fun e1 => e (h.inj i n hi hn e1.symm)
      refine ⟨ps', by simp only [heap_setCell, if_neg hgi]; exact h6, fun j hj => ?_⟩
      have hpg : ((F.dropPage n k).blk i).page j = (F.blk i).page j := by
        unfold Fl.dropPage; dsimp only; rw [if_neg e]
      rw [hpg]; exact h7 j hj

/-- Pages below j are cleared where C says so. -/
def Fl.clearTo (F : Fl) (n : Nat) (C : Nat → Bool) (j : Nat) : Fl :=
  { F with blk := fun i => if i = n then { F.blk n with page := fun k => if k < j ∧ C k = true then none else (F.blk n).page k } else F.blk i }

/-- Only what lies within the sizes matters. -/
theorem RefAt.congr {w : World} {p q : Nat} {g : Nat → Nat} {F G : Fl} (h : RefAt w p q g F) (h1 : G.nb = F.nb) (h2 : G.np = F.np) (h3 : G.down = F.down) (h4 : G.lost = F.lost) (h5 : G.left = F.left) (h6 : G.keep = F.keep)
    (hw : ∀ i, i < F.nb → (G.blk i).wear = (F.blk i).wear) (hp : ∀ i k, i < F.nb → k < F.np → (G.blk i).page k = (F.blk i).page k) : RefAt w p q g G := by
  obtain ⟨cap, a1⟩ := h.head
  obtain ⟨cs, a2, a3⟩ := h.rows
  refine ⟨⟨cap, by rw [h1, h2, h3, h4, h5, h6]; exact a1⟩, ⟨cs, a2, fun i hi => ?_⟩, fun i hi => ?_, by rw [h1]; exact h.inj, ⟨by rw [h1]; exact h.ok.nb, by rw [h2]; exact h.ok.np, by rw [h4]; exact h.ok.lost, by rw [h5]; exact h.ok.left, fun i hi => by rw [h1] at hi; rw [hw i hi]; exact h.ok.wear i hi⟩⟩
  · rw [h1] at hi
    rw [h2, hw i hi]; exact a3 i hi
  · rw [h1] at hi
    obtain ⟨ps, b1, b2⟩ := h.pages i hi
    exact ⟨ps, b1, fun k hk => by rw [h2] at hk; rw [hp i k hi hk]; exact b2 k hk⟩

theorem RefAt.worn {w : World} {p q n : Nat} {g : Nat → Nat} {F : Fl} (h : RefAt w p q g F) (hn : n < F.nb) (hw : (F.blk n).wear < 1000) :
    RefAt (w.setCell ⟨q, n * 2 + 1, none⟩ (.int .i64 ((F.blk n).wear + 1))) p q g (F.worn n) := by
  obtain ⟨cap, h1⟩ := h.head
  obtain ⟨cs, h2, h3⟩ := h.rows
  have hne := h.ne
  refine ⟨⟨cap, by rw [heap_setCell_other hne.1]; exact h1⟩, ⟨cs.setIfInBounds (n * 2 + 1) (.int .i64 ((F.blk n).wear + 1)), heap_setCell_same rfl h2, fun i hi => ?_⟩, fun i hi => ?_, h.inj, ⟨h.ok.nb, h.ok.np, h.ok.lost, h.ok.left, fun i hi => ?_⟩⟩
  · obtain ⟨a1, a2⟩ := h3 i hi
    have hlt : i * 2 + 1 < cs.size := by
      rcases Nat.lt_or_ge (i * 2 + 1) cs.size with g1 | g1
      · exact g1
      · rw [Array.getElem?_eq_none g1] at a2; cases a2
    rw [Fl.worn_wear]
    refine ⟨by rw [Array.getElem?_setIfInBounds_ne (by omega)]; exact a1, ?_⟩
    by_cases e : i = n
    · subst e
      rw [Array.getElem?_setIfInBounds_self_of_lt hlt, if_pos rfl]; rfl
    · rw [Array.getElem?_setIfInBounds_ne (by omega), if_neg e]; exact a2
  · obtain ⟨ps, b1, b2⟩ := h.pages i hi
    exact ⟨ps, by rw [heap_setCell_other (hne.2 i hi).2.symm]; exact b1, fun k hk => by rw [Fl.worn_page]; exact b2 k hk⟩
  · rw [Fl.worn_wear]
    split
    · rename_i e; subst e; omega
    · exact h.ok.wear i hi

def REraPost (p q : Nat) (g : Nat → Nat) (F : Fl) (b : Int) (w : World) (e : Ending) (w' : World) : Prop :=
  e = .returned (.int .i64 (F.erase b).2) ∧ RefAt w' p q g (F.erase b).1 ∧ Upd (Foot p q g F.nb) w w'

set_option maxRecDepth 100000 in
set_option maxHeartbeats 2000000 in
theorem rerase_any (p q : Nat) (g : Nat → Nat) (b : Int) (w : World) (F : Fl) (h : RefAt w p q g F) :
    Calls Tryz.prog 72 #[.pointer (some ⟨p, 0, none⟩), .int .i64 b] w (REraPost p q g F b w) := by
  obtain ⟨cap, ⟨c0, c1, c2, c3, c4, c5⟩, hz⟩ := h.cells
  have hnb := h.ok.nb.2
  have hnp := h.ok.np
  have ROW := hid fun i (hi : i < F.nb) => h.row hi
  have H := hid h; clear h
  cases hd : F.down
  case true =>
    have ha : F.atErr b 0 = 8 := by unfold Fl.atErr; rw [hd, if_pos rfl]
    have E := hid (show F.erase b = (F, 8) by rw [Fl.erase, if_pos (by rw [ha]; decide), ha])
    clear ROW ha
    go_enter Tryz.func72, Tryz.ntmps72
    go_wp2_with fail
    go_ret
    unfold REraPost
    rw [E.out]
    exact ⟨rfl, H.out, Upd.refl _ _⟩
  case false =>
    by_cases hb : 0 ≤ b ∧ b < F.nb
    case neg =>
      have HB := hid (show F.hasB b = false from decide_eq_false hb)
      have ha : F.atErr b 0 = 1 := by unfold Fl.atErr; rw [hd, if_neg (by decide), if_pos (by omega)]
      have E := hid (show F.erase b = (F, 1) by rw [Fl.erase, if_pos (by rw [ha]; decide), ha])
      clear ROW ha hb
      go_enter Tryz.func72, Tryz.ntmps72
      go_wp2_with fail
      refine (rhas_any p q g b w F H.out).mono ?_
      rintro e w' ⟨he, rfl⟩
      rw [HB.out] at he
      subst he
      go_wp2_with fail
      go_ret
      unfold REraPost
      rw [E.out]
      exact ⟨rfl, H.out, Upd.refl _ _⟩
    case pos =>
      have HB := hid (show F.hasB b = true from decide_eq_true hb)
      have ha : F.atErr b 0 = 0 := Fl.atErr_ok hd hb.1 hb.2 (by omega) (by omega)
      obtain ⟨n, rfl⟩ := Int.eq_ofNat_of_zero_le hb.1
      have hn2 : n < F.nb := by omega
      obtain ⟨⟨cp, hcp, r1⟩, r2, r3⟩ := ROW.out n hn2
      have hnp1 := hnp.1
      have hnp2 := hnp.2
      have E0 : F.erase n = if 1000 ≤ (F.blk n).wear then (F, 10) else
          if F.tick.down then ((F.tick.clear n (min (max F.keep 0) F.np).toNat).worn n, 8) else ((F.tick.clear n 0).worn n, 0) := by
        unfold Fl.erase
        rw [if_neg (by rw [ha]; exact fun h => h rfl)]
        rfl
      have E := hid E0
      clear ROW hb ha E0 hnp
      by_cases hw : 1000 ≤ (F.blk n).wear
      · have hwi : (1000 : Int) ≤ (F.blk n).wear := by omega
        have E1 := hid (show F.erase n = (F, 10) by rw [E.out, if_pos hw])
        clear hw
        go_enter Tryz.func72, Tryz.ntmps72
        go_wp2_with fail
        refine (rhas_any p q g n w F H.out).mono ?_
        rintro e w' ⟨he, rfl⟩
        rw [HB.out] at he
        subst he
        go_wp2_with fail
        go_ret
        unfold REraPost
        rw [E1.out]
        exact ⟨rfl, H.out, Upd.refl _ _⟩
      · have hwi : ((F.blk n).wear : Int) < 1000 := by omega
        have HW := hid hw; clear hw
        go_enter Tryz.func72, Tryz.ntmps72
        go_wp2_with fail
        refine (rhas_any p q g n w F H.out).mono ?_
        rintro e w' ⟨he, rfl⟩
        rw [HB.out] at he
        subst he
        go_wp2_with fail
        refine (rcomes_any p q g _ F H.out hd).mono ?_
        rintro e w2 ⟨rfl, f2, u2⟩
        obtain ⟨cap2, ⟨d0, d1, d2, d3, d4, d5⟩, hz2⟩ := f2.cells
        have tn : F.tick.nb = F.nb := F.tick_blk.2.1
        have tp : F.tick.np = F.np := F.tick_blk.2.2.1
        have tk : F.tick.keep = F.keep := F.tick_blk.2.2.2.2
        have hn3 : n < F.tick.nb := by rw [tn]; exact hn2
        obtain ⟨⟨cp2, hcp2, q1⟩, q2, q3⟩ := f2.row hn3
        rw [tp] at q1
        rw [F.tick_wear] at q2
        rw [tk] at d5
        have H2 := hid f2; have U2 := hid u2
        have hwt := F.tick_wear n
        have TB := hid F.tick_blk
        clear f2 u2 tn tp tk c0 c1 c2 c3 c4 c5 r1 r2 r3 hwt
        cases ht : F.tick.down
        · have E1 := hid (show F.erase n = ((F.tick.clear n 0).worn n, 0) by rw [E.out, if_neg HW.out, if_neg (by rw [ht]; decide)])
          obtain ⟨C, hC⟩ : ∃ C : Nat → Bool, C = fun (_ : Nat) => true := ⟨_, rfl⟩
          have HC := hid hC
          clear hC
          have i0 : RefAt w2 p q g (F.tick.clearTo n C 0) := H2.out.congr rfl rfl rfl rfl rfl rfl (fun i _ => by unfold Fl.clearTo; dsimp only; split; (rename_i e; subst e; rfl); rfl)
            (fun i k _ _ => by unfold Fl.clearTo; dsimp only; split; (rename_i e; subst e; simp); rfl)
          have I0 := hid i0
          clear i0
          go_wp2_with fail
          go_loopg [7] F.np (fun gn i wx => ∃ j : Nat, j ≤ F.np ∧ gn = F.np - j ∧ i = .int .i64 j ∧ RefAt wx p q g (F.tick.clearTo n C j) ∧ Upd (Foot p q g F.nb) w2 wx)
          case atStart => exact ⟨0, Nat.zero_le _, rfl, rfl, I0.out, Upd.refl _ _⟩
          case round =>
            clear I0
            obtain ⟨j, hj, hgn, rfl, rj, uj⟩ := hrel
            have RJ := hid rj; have UJ := hid uj; have HGN := hid hgn
            obtain ⟨capx, ⟨x0, x1, x2, x3, x4, x5⟩, xz⟩ := rj.cells
            have xk : (F.tick.clearTo n C j).keep = F.keep := TB.out.2.2.2.2
            rw [xk] at x5
            obtain ⟨⟨cpx, hcpx, y1⟩, y2, y3⟩ := rj.row (i := n) (by show n < F.tick.nb; exact hn3)
            have yw : ((F.tick.clearTo n C j).blk n).wear = (F.blk n).wear := by
              unfold Fl.clearTo; dsimp only; rw [if_pos rfl]; exact F.tick_wear n
            rw [yw] at y2
            clear rj uj hgn xk yw d0 d1 d2 d3 d4 d5 q1 q2 q3
            by_cases hlt : j < F.np
            · obtain ⟨p1, p2, pz⟩ := RJ.out.page (i := n) (k := j) (by show n < F.tick.nb; exact hn3) (by show j < F.tick.np; rw [TB.out.2.2.1]; exact hlt)
              have hstep : C j = true → RefAt ((wr.setCell ⟨g n, j * 2, none⟩ (.bool false)).setCell ⟨g n, j * 2 + 1, none⟩ (.string ByteArray.empty)) p q g (F.tick.clearTo n C (j + 1)) := fun hc => by
                refine (RJ.out.dropPage (n := n) (k := j) (by show n < F.tick.nb; exact hn3) (by show j < F.tick.np; rw [TB.out.2.2.1]; exact hlt)).congr rfl rfl rfl rfl rfl rfl (fun i _ => ?_) (fun i k _ _ => ?_)
                · rw [Fl.dropPage_wear]
                  unfold Fl.clearTo; dsimp only; split <;> rfl
                · unfold Fl.dropPage Fl.clearTo
                  dsimp only
                  by_cases e : i = n
                  · subst e
                    simp only [if_pos]
                    by_cases ek : k = j
                    · subst ek
                      rw [if_pos ⟨by omega, hc⟩, if_pos rfl]
                    · rw [if_neg ek]
                      by_cases e2 : k < j + 1 ∧ C k = true
                      · rw [if_pos e2, if_pos ⟨by omega, e2.2⟩]
                      · rw [if_neg e2, if_neg fun e3 => e2 ⟨by omega, e3.2⟩]
                  · simp only [if_neg e]
              have hskip : C j = false → RefAt wr p q g (F.tick.clearTo n C (j + 1)) := fun hc => by
                refine RJ.out.congr rfl rfl rfl rfl rfl rfl (fun i _ => ?_) (fun i k _ _ => ?_)
                · unfold Fl.clearTo; dsimp only; split <;> rfl
                · unfold Fl.clearTo
                  dsimp only
                  by_cases e : i = n
                  · subst e
                    simp only [if_pos]
                    by_cases e2 : k < j ∧ C k = true
                    · rw [if_pos e2, if_pos ⟨by omega, e2.2⟩]
                    · rw [if_neg e2, if_neg fun e3 => e2 ⟨by
                        rcases Nat.lt_or_ge k j with h1 | h1
                        · exact h1
                        · obtain rfl : k = j := by omega
                          rw [hc] at e3; exact absurd e3.2 (by decide), e3.2⟩]
                  · simp only [if_neg e]
              have HST := hid hstep; have HSK := hid hskip
              clear hstep hskip
              go_wp2_with fail
              go_roundg (F.np - (j + 1))
              case measure => have := HGN.out; omega
              case rel => exact ⟨j + 1, by omega, rfl, by go_num, HST.out (by rw [HC.out]), (UJ.out.setCell _ _ (.inl (.inr (.inr ⟨n, hn2, rfl⟩)))).setCell _ _ (.inl (.inr (.inr ⟨n, hn2, rfl⟩)))⟩
            · have hje : j = F.np := by omega
              have RK := hid (hje ▸ RJ.out)
              have hwk : ((F.tick.clearTo n C F.np).blk n).wear = (F.blk n).wear := by
                unfold Fl.clearTo; dsimp only; rw [if_pos rfl]; exact F.tick_wear n
              have hfin := RK.out.worn (n := n) (by show n < F.tick.nb; exact hn3) (by rw [hwk]; have := HW.out; omega)
              rw [hwk] at hfin
              have HFIN := hid hfin
              clear hje RJ hwk hfin
              go_wp2_with fail
              go_ret
              unfold REraPost
              rw [E1.out]
              refine ⟨rfl, HFIN.out.congr rfl rfl rfl rfl rfl rfl (fun i _ => ?_) (fun i k _ hk => ?_), ((U2.out.mono fun x hx => .inl hx).trans UJ.out).setCell _ _ (.inl (.inr (.inl rfl)))⟩
              · rw [Fl.worn_wear, Fl.worn_wear, Fl.clear_wear]
                congr 1
                unfold Fl.clearTo; dsimp only; split
                · rename_i e; subst e; rfl
                · rfl
              · rw [Fl.worn_page, Fl.worn_page]
                unfold Fl.clear Fl.clearTo
                dsimp only
                have hk : k < F.np := by have : k < F.tick.np := hk; rwa [TB.out.2.2.1] at this
                by_cases e : i = n
                · simp only [if_pos e]
                  rw [HC.out]
                  by_cases e2 : 0 ≤ k
                  · rw [if_pos e2, if_pos ⟨hk, by rfl⟩]
                  · rw [if_neg e2, if_neg fun e3 => e2 (by have := e3.2; exact Nat.zero_le _)]
                · simp only [if_neg e]
        · have E1 := hid (show F.erase n = ((F.tick.clear n (min (max F.keep 0) F.np).toNat).worn n, 8) by rw [E.out, if_neg HW.out, if_pos ht])
          obtain ⟨C, hC⟩ : ∃ C : Nat → Bool, C = fun (k : Nat) => decide (F.keep ≤ (k : Int)) := ⟨_, rfl⟩
          have HC := hid hC
          clear hC
          have i0 : RefAt w2 p q g (F.tick.clearTo n C 0) := H2.out.congr rfl rfl rfl rfl rfl rfl (fun i _ => by unfold Fl.clearTo; dsimp only; split; (rename_i e; subst e; rfl); rfl)
            (fun i k _ _ => by unfold Fl.clearTo; dsimp only; split; (rename_i e; subst e; simp); rfl)
          have I0 := hid i0
          clear i0
          go_wp2_with fail
          go_loopg [7] F.np (fun gn i wx => ∃ j : Nat, j ≤ F.np ∧ gn = F.np - j ∧ i = .int .i64 j ∧ RefAt wx p q g (F.tick.clearTo n C j) ∧ Upd (Foot p q g F.nb) w2 wx)
          case atStart => exact ⟨0, Nat.zero_le _, rfl, rfl, I0.out, Upd.refl _ _⟩
          case round =>
            clear I0
            obtain ⟨j, hj, hgn, rfl, rj, uj⟩ := hrel
            have RJ := hid rj; have UJ := hid uj; have HGN := hid hgn
            obtain ⟨capx, ⟨x0, x1, x2, x3, x4, x5⟩, xz⟩ := rj.cells
            have xk : (F.tick.clearTo n C j).keep = F.keep := TB.out.2.2.2.2
            rw [xk] at x5
            obtain ⟨⟨cpx, hcpx, y1⟩, y2, y3⟩ := rj.row (i := n) (by show n < F.tick.nb; exact hn3)
            have yw : ((F.tick.clearTo n C j).blk n).wear = (F.blk n).wear := by
              unfold Fl.clearTo; dsimp only; rw [if_pos rfl]; exact F.tick_wear n
            rw [yw] at y2
            clear rj uj hgn xk yw d0 d1 d2 d3 d4 d5 q1 q2 q3
            by_cases hlt : j < F.np
            · obtain ⟨p1, p2, pz⟩ := RJ.out.page (i := n) (k := j) (by show n < F.tick.nb; exact hn3) (by show j < F.tick.np; rw [TB.out.2.2.1]; exact hlt)
              have hstep : C j = true → RefAt ((wr.setCell ⟨g n, j * 2, none⟩ (.bool false)).setCell ⟨g n, j * 2 + 1, none⟩ (.string ByteArray.empty)) p q g (F.tick.clearTo n C (j + 1)) := fun hc => by
                refine (RJ.out.dropPage (n := n) (k := j) (by show n < F.tick.nb; exact hn3) (by show j < F.tick.np; rw [TB.out.2.2.1]; exact hlt)).congr rfl rfl rfl rfl rfl rfl (fun i _ => ?_) (fun i k _ _ => ?_)
                · rw [Fl.dropPage_wear]
                  unfold Fl.clearTo; dsimp only; split <;> rfl
                · unfold Fl.dropPage Fl.clearTo
                  dsimp only
                  by_cases e : i = n
                  · subst e
                    simp only [if_pos]
                    by_cases ek : k = j
                    · subst ek
                      rw [if_pos ⟨by omega, hc⟩, if_pos rfl]
                    · rw [if_neg ek]
                      by_cases e2 : k < j + 1 ∧ C k = true
                      · rw [if_pos e2, if_pos ⟨by omega, e2.2⟩]
                      · rw [if_neg e2, if_neg fun e3 => e2 ⟨by omega, e3.2⟩]
                  · simp only [if_neg e]
              have hskip : C j = false → RefAt wr p q g (F.tick.clearTo n C (j + 1)) := fun hc => by
                refine RJ.out.congr rfl rfl rfl rfl rfl rfl (fun i _ => ?_) (fun i k _ _ => ?_)
                · unfold Fl.clearTo; dsimp only; split <;> rfl
                · unfold Fl.clearTo
                  dsimp only
                  by_cases e : i = n
                  · subst e
                    simp only [if_pos]
                    by_cases e2 : k < j ∧ C k = true
                    · rw [if_pos e2, if_pos ⟨by omega, e2.2⟩]
                    · rw [if_neg e2, if_neg fun e3 => e2 ⟨by
                        rcases Nat.lt_or_ge k j with h1 | h1
                        · exact h1
                        · obtain rfl : k = j := by omega
                          rw [hc] at e3; exact absurd e3.2 (by decide), e3.2⟩]
                  · simp only [if_neg e]
              have HST := hid hstep; have HSK := hid hskip
              clear hstep hskip
              by_cases hkp : F.keep ≤ j
              · have hcj := HST.out (by rw [HC.out]; exact decide_eq_true hkp)
                have HCJ := hid hcj; clear hcj
                go_wp2_with fail
                go_roundg (F.np - (j + 1))
                case measure => have := HGN.out; omega
                case rel => exact ⟨j + 1, by omega, rfl, by go_num, HCJ.out, (UJ.out.setCell _ _ (.inl (.inr (.inr ⟨n, hn2, rfl⟩)))).setCell _ _ (.inl (.inr (.inr ⟨n, hn2, rfl⟩)))⟩
              · have hcj := HSK.out (by rw [HC.out]; exact decide_eq_false hkp)
                have HCJ := hid hcj; clear hcj
                go_wp2_with fail
                go_roundg (F.np - (j + 1))
                case measure => have := HGN.out; omega
                case rel => exact ⟨j + 1, by omega, rfl, by go_num, HCJ.out, UJ.out⟩
            · have hje : j = F.np := by omega
              have RK := hid (hje ▸ RJ.out)
              have hwk : ((F.tick.clearTo n C F.np).blk n).wear = (F.blk n).wear := by
                unfold Fl.clearTo; dsimp only; rw [if_pos rfl]; exact F.tick_wear n
              have hfin := RK.out.worn (n := n) (by show n < F.tick.nb; exact hn3) (by rw [hwk]; have := HW.out; omega)
              rw [hwk] at hfin
              have HFIN := hid hfin
              clear hje RJ hwk hfin
              go_wp2_with fail
              go_ret
              unfold REraPost
              rw [E1.out]
              refine ⟨rfl, HFIN.out.congr rfl rfl rfl rfl rfl rfl (fun i _ => ?_) (fun i k _ hk => ?_), ((U2.out.mono fun x hx => .inl hx).trans UJ.out).setCell _ _ (.inl (.inr (.inl rfl)))⟩
              · rw [Fl.worn_wear, Fl.worn_wear, Fl.clear_wear]
                congr 1
                unfold Fl.clearTo; dsimp only; split
                · rename_i e; subst e; rfl
                · rfl
              · rw [Fl.worn_page, Fl.worn_page]
                unfold Fl.clear Fl.clearTo
                dsimp only
                have hk : k < F.np := by have : k < F.tick.np := hk; rwa [TB.out.2.2.1] at this
                by_cases e : i = n
                · simp only [if_pos e]
                  rw [HC.out]
                  by_cases e2 : (min (max F.keep 0) (F.np : Int)).toNat ≤ k
                  · rw [if_pos e2, if_pos ⟨hk, by rw [decide_eq_true_eq]; omega⟩]
                  · rw [if_neg e2, if_neg fun e3 => e2 (by have := e3.2; rw [decide_eq_true_eq] at this; omega)]
                · simp only [if_neg e]

def RActPost (p q : Nat) (g : Nat → Nat) (F : Fl) (o : OpM) (w : World) (e : Ending) (w' : World) : Prop :=
  e = .returned (.int .i64 (F.act o).2) ∧ RefAt w' p q g (F.act o).1 ∧ Upd (Foot p q g F.nb) w w'

end Go.Proofs.YtlefilfdomjkeaaGreatDoor
namespace Go.Proofs.YtlefilfdomjkeaaGreatDoor
open Go.RowKit

/-- An append of which the run is known, as one step of a region that draws its order. -/
theorem elemBlock : ElemTy Tryz.prog 44 68 2 32 := .mk' Tryz.underlying44 (z := .agg #[.slice none 0 0, .int .i64 0]) (by kernel_rfl) (by rfl) (by decide)
theorem infoPage : (Tryz.prog.info? 104).map (fun i => (i.zero, i.size, i.bytes)) = some (some (.agg #[.bool false, .string ByteArray.empty]), 2, 24) := by kernel_rfl

theorem make_pages (w : World) (n : Nat) (hn : n ≤ 100000) : ∃ w', (Instr.makeSlice 66 (.int .i64 (n : Int)) (.int .i64 (n : Int))).run Tryz.prog w = .ok (.slice (some ⟨w.heap.size, 0, none⟩) n n) w' ∧
    (∃ ps, w'.heap[w.heap.size]? = some (.cells ps 104 (0, 0)) ∧ PagesRep ps n fun _ => none) ∧ Upd (fun _ => False) w w' := by
  obtain ⟨i0, hi, hz0, hz1, hz2⟩ := info_parts infoPage
  obtain ⟨w1, hrun, hown, hgr⟩ := run_make_full (P := Tryz.prog) w w.heap.size 66 104 i0 _ 2 Tryz.underlying66 hi hz0 hz1 .i64 .i64 n (by rw [hz2]; omega) (by unfold maxLen; omega) (Nat.le_refl _)
  refine ⟨w1, hrun, ?_, ⟨hgr.os, hgr.tape, hgr.output, hgr.size, fun k hk _ => hgr.block k hk (by simp)⟩⟩
  obtain ⟨hlen, ⟨he, _⟩ | ⟨g, cap, cur, hv, hg, hcur, hc1, hc2, hc3, hc4⟩⟩ := hown
  · cases he
  injection hv with e1 e2 e3
  injection e1 with e1
  injection e1 with e1 _ _
  subst e1 e3
  refine ⟨cur, hcur, fun k hk => ?_⟩
  have hz : Value.cells (.agg #[.bool false, .string ByteArray.empty]) = #[.bool false, .string ByteArray.empty] := rfl
  have e : ∀ j, j < n * 2 → cur[j]? = some ((#[.bool false, .string ByteArray.empty] : Array Value)[j % 2]!) := fun j hj => by
    have := congrArg (·[j]?) hc4
    rw [hz] at this
    simp only [List.getElem?_take, if_pos hj, Array.getElem?_toList] at this
    rw [this]
    unfold madeCells
    rw [Array.getElem?_map, Array.getElem?_range, if_pos hj]
    rfl
  rw [e _ (by omega), e _ (by omega)]
  refine ⟨?_, ?_⟩
  · rw [show k * 2 % 2 = 0 by omega]; rfl
  · rw [show (k * 2 + 1) % 2 = 1 by omega]; rfl

def blockCells (g : Nat → Nat) (np k : Nat) : List Value := (List.range k).flatMap fun i => [.slice (some ⟨g i, 0, none⟩) np np, .int .i64 0]
theorem blockCells_succ (g : Nat → Nat) (np k : Nat) : blockCells g np (k + 1) = blockCells g np k ++ [.slice (some ⟨g k, 0, none⟩) np np, .int .i64 0] := by
  unfold blockCells; rw [List.range_succ, List.flatMap_append]; simp
theorem blockCells_len (g : Nat → Nat) (np k : Nat) : (blockCells g np k).length = k * 2 := by
  induction k with
  | zero => rfl
  | succ k ih => rw [blockCells_succ, List.length_append, ih]; simp; omega
theorem blockCells_get (g : Nat → Nat) (np k i : Nat) (hi : i < k) : (blockCells g np k)[i * 2]? = some (.slice (some ⟨g i, 0, none⟩) np np) ∧ (blockCells g np k)[i * 2 + 1]? = some (.int .i64 0) := by
  induction k with
  | zero => omega
  | succ k ih =>
    rw [blockCells_succ]
    by_cases e : i = k
    · subst e
      rw [List.getElem?_append_right (by rw [blockCells_len]; omega), List.getElem?_append_right (by rw [blockCells_len]; omega), blockCells_len]
      rw [show i * 2 - i * 2 = 0 by omega, show i * 2 + 1 - i * 2 = 1 by omega]
      exact ⟨rfl, rfl⟩
    · rw [List.getElem?_append_left (by rw [blockCells_len]; omega), List.getElem?_append_left (by rw [blockCells_len]; omega)]
      exact ih (by omega)
theorem blockCells_congr (g g' : Nat → Nat) (np k : Nat) (h : ∀ i, i < k → g i = g' i) : blockCells g np k = blockCells g' np k := by
  induction k with
  | zero => rfl
  | succ k ih => rw [blockCells_succ, blockCells_succ, ih fun i hi => h i (by omega), h k (by omega)]

/-- While New runs: k blocks are made. -/
structure NewInv (w0 w : World) (p : Nat) (g : Nat → Nat) (np k : Nat) (vb : Value) : Prop where
  head : w.heap[p]? = some (.cells #[vb, .int .i64 np, .bool false, .int .i64 0, .int .i64 0, .int .i64 0] 46 (0, 0))
  own : w.ownsRow w0.heap.size 68 2 vb k (blockCells g np k)
  pages : ∀ i, i < k → ∃ ps, w.heap[g i]? = some (.cells ps 104 (0, 0)) ∧ PagesRep ps np fun _ => none
  inj : ∀ i j, i < k → j < k → g i = g j → i = j
  upd : Upd (fun _ => False) w0 w
  ge : w0.heap.size ≤ p ∧ ∀ i, i < k → w0.heap.size ≤ g i

set_option maxRecDepth 100000 in
theorem NewInv.step {w0 w : World} {p : Nat} {g : Nat → Nat} {np k : Nat} {vb : Value} (h : NewInv w0 w p g np k vb) (hk : k < 100) (hnp : np ≤ 16) :
    ∃ w1, (Instr.makeSlice 66 (.int .i64 (np : Int)) (.int .i64 (np : Int))).run Tryz.prog w.drew = .ok (.slice (some ⟨w.heap.size, 0, none⟩) np np) w1 ∧
    ∃ gb cap w2, (Builtin.append_ #[44, 44] 44 #[vb, .slice (some ⟨w1.heap.size, 0, none⟩) 1 1]).run Tryz.prog (w1.alloc (.cells #[.slice (some ⟨w.heap.size, 0, none⟩) np np, .int .i64 0] 68 (0, 0))) = .ok (.slice (some ⟨gb, 0, none⟩) (k + 1) cap) w2 ∧
      w1.cell? ⟨p, 0, none⟩ = some vb ∧ w2.cell? ⟨p, 0, none⟩ = some vb ∧ w2.frozen? ⟨p, 0, none⟩ = false ∧
      NewInv w0 (w2.setCell ⟨p, 0, none⟩ (.slice (some ⟨gb, 0, none⟩) (k + 1) cap)) p (fun i => if i = k then w.heap.size else g i) np (k + 1) (.slice (some ⟨gb, 0, none⟩) (k + 1) cap) := by
  obtain ⟨w1, r1, ⟨ps, hps, hpr⟩, u1⟩ := make_pages w.drew np (by omega)
  have u1 : Upd (fun _ => False) w w1 := ((Upd.refl _ w).drew).trans u1
  have hps : w1.heap[w.heap.size]? = some (.cells ps 104 (0, 0)) := hps
  have hs := h.upd.size
  have hs1 := u1.size
  have o1 := ownsRow_upd h.own u1 (fun _ _ h => h)
  obtain ⟨v', w2, r2, o2, u2, n2⟩ := append_one elemBlock o1 #[.slice (some ⟨w.heap.size, 0, none⟩) np np, .int .i64 0] rfl (by simp [Value.oneCell']) (by unfold maxLen; omega) (by omega) (by omega) 44 (0, 0)
  rcases ownsRow_fits o2 with ⟨_, h0⟩ | ⟨gb, cap, rfl, hgb, hgs, hgc, hgm⟩
  · omega
  have hb2 : ∀ j, vb.ownBlock = some j → ∀ s t fr, w.heap[j]? = some (.cells s t fr) → t = 68 := by
    intro j hj s t fr hh
    obtain ⟨_, ⟨rfl, _⟩ | ⟨g', cap', cur, rfl, _, hg', _⟩⟩ := h.own
    · cases hj
    · injection hj with hj; subst hj
      rw [hg'] at hh; injection hh with hh; injection hh with _ e _; exact e.symm
  have hpb : vb.ownBlock ≠ some p := fun e => absurd (hb2 p e _ _ _ h.head) (by decide)
  have hgbk : ∀ i, i < k → vb.ownBlock ≠ some (g i) := fun i hi e => by
    obtain ⟨ps', hh, _⟩ := h.pages i hi
    exact absurd (hb2 _ e _ _ _ hh) (by decide)
  have hp1 : w1.heap[p]? = _ := (u1.block p (heap_lt h.head) id).trans h.head
  have hp2 : w2.heap[p]? = _ := (u2.block p (heap_lt hp1) hpb).trans hp1
  have hnew : w2.heap[w.heap.size]? = some (.cells ps 104 (0, 0)) := by
    rw [u2.block _ (heap_lt hps) (fun e => by have := (h.own.lt _ e).2; omega)]; exact hps
  have hpn : p < w.heap.size := heap_lt h.head
  have ugb : gb ≠ p := by
    intro e
    obtain ⟨_, ⟨he, _⟩ | ⟨g', cap', cur, hv, _, hg', _⟩⟩ := o2
    · cases he
    · injection hv with e1 _ _; injection e1 with e1; injection e1 with e1 _ _
      subst e1 e
      rw [hp2] at hg'; injection hg' with hh; injection hh with _ e _; exact absurd e (by decide)
  refine ⟨w1, r1, gb, cap, w2, r2, by rw [cell_of_block hp1]; rfl, by rw [cell_of_block hp2]; rfl, frozen_of_block hp2, ?_, ?_, ?_, ?_, ?_, ?_⟩
  · have := heap_setCell_same (p := ⟨p, 0, none⟩) (u := .slice (some ⟨gb, 0, none⟩) (k + 1) cap) rfl hp2
    rw [this]; rfl
  · have o3 := ownsRow_upd o2 ((Upd.refl (· = p) w2).at_ 0 (.slice (some ⟨gb, 0, none⟩) (k + 1) cap)) (fun g' hg' e => by injection hg' with hg'; exact ugb (hg'.trans e))
    rw [blockCells_succ, if_pos rfl, blockCells_congr _ g np k fun i hi => if_neg (by omega)]
    exact o3
  · intro i hi
    by_cases e : i = k
    · rw [if_pos e]
      exact ⟨ps, by rw [heap_setCell_other (by show w.heap.size ≠ p; omega)]; exact hnew, hpr⟩
    · rw [if_neg e]
      obtain ⟨ps', hh, hr⟩ := h.pages i (by omega)
      have hgp : g i ≠ p := fun e1 => by
        rw [e1, h.head] at hh; injection hh with hh; injection hh with _ e2 _; exact absurd e2 (by decide)
      refine ⟨ps', ?_, hr⟩
      have hh1 := (u1.block _ (heap_lt hh) id).trans hh
      rw [heap_setCell_other hgp, u2.block _ (heap_lt hh1) (hgbk i (by omega))]
      exact hh1
  · intro i j hi hj hij
    by_cases e1 : i = k
    · by_cases e2 : j = k
      · omega
      · rw [if_pos e1, if_neg e2] at hij
        obtain ⟨ps', hh, _⟩ := h.pages j (by omega)
        have := heap_lt hh; omega
    · by_cases e2 : j = k
      · rw [if_neg e1, if_pos e2] at hij
        obtain ⟨ps', hh, _⟩ := h.pages i (by omega)
        have := heap_lt hh; omega
      · rw [if_neg e1, if_neg e2] at hij
        exact h.inj i j (by omega) (by omega) hij
  · have hbig : ∀ j, vb.ownBlock = some j → w0.heap.size ≤ j := fun j hj => (h.own.lt j hj).1
    have ua : Upd (fun _ => False) w0 w2 := by
      refine ⟨u2.os.trans (u1.os.trans h.upd.os), u2.tape.trans (u1.tape.trans h.upd.tape), u2.output.trans (u1.output.trans h.upd.output), by have := u2.size; omega, fun j hj _ => ?_⟩
      rw [u2.block j (by omega) (fun e => by have := hbig j e; omega), u1.block j (by omega) id]
      exact h.upd.block j hj id
    exact ua.setCell _ _ (.inr h.ge.1)
  · refine ⟨h.ge.1, fun i hi => ?_⟩
    by_cases e : i = k
    · rw [if_pos e]; omega
    · rw [if_neg e]; exact h.ge.2 i (by omega)

def RNewPost (nb np : Nat) (w : World) (e : Ending) (w' : World) : Prop :=
  ∃ p q g, (∀ k, Foot p q g nb k → w.heap.size ≤ k) ∧ e = .returned (.tuple #[.pointer (some ⟨p, 0, none⟩), .int .i64 0]) ∧ RefAt w' p q g (Fl.new nb np) ∧ Upd (fun _ => False) w w'

set_option maxRecDepth 100000 in
set_option maxHeartbeats 1000000 in
theorem rnew_ok (nb np : Nat) (w : World) (h1 : 1 ≤ nb ∧ nb ≤ 32) (h2 : 1 ≤ np ∧ np ≤ 16) :
    Calls Tryz.prog 8 #[.int .i64 nb, .int .i64 np] w (RNewPost nb np w) := by
  have a1 : (1 : Int) ≤ nb := by omega
  have a2 : (nb : Int) ≤ 32 := by omega
  have a3 : (1 : Int) ≤ np := by omega
  have a4 : (np : Int) ≤ 16 := by omega
  have i0 : NewInv w (w.alloc (.cells #[.slice none 0 0, .int .i64 np, .bool false, .int .i64 0, .int .i64 0, .int .i64 0] 46 (0, 0))) w.heap.size (fun _ => 0) np 0 (.slice none 0 0) :=
    ⟨heap_alloc_new, World.ownsRow_nil _ _ _ _, fun i hi => by omega, fun i j hi => by omega, (Upd.refl _ _).alloc _, ⟨Nat.le_refl _, fun i hi => by omega⟩⟩
  have I0 := hid i0; clear i0
  go_enter Tryz.func8, Tryz.ntmps8
  go_wp2_with fail
  go_loopg [7] nb (fun n i wx => ∃ (k : Nat) (g : Nat → Nat) (vb : Value), k ≤ nb ∧ n = nb - k ∧ i = .int .i64 k ∧ NewInv w wx w.heap.size g np k vb)
  case atStart => exact ⟨0, _, _, Nat.zero_le _, rfl, rfl, I0.out⟩
  case round =>
    clear I0
    obtain ⟨k, g, vb, hk, hn, rfl, inv⟩ := hrel
    have INV := hid inv; have HN := hid hn
    clear inv hn
    by_cases hlt : k < nb
    · obtain ⟨w1, r1, gb, cap, w2, r2, q1, q2, q3, inv2⟩ := INV.out.step (by omega) (by omega)
      have q0 : wr.cell? ⟨w.heap.size, 0, none⟩ = some vb := by rw [cell_of_block INV.out.head]; rfl
      have q4 : w.heap.size < w1.heap.size := World.block_lt_of_cell? _ _ q1
      have I2 := hid inv2
      clear inv2
      go_wp2_with fail
      go_region_law (refine step_append_run rfl _ _ _ _ rfl rfl rfl r2 ?_)
      all_goals
        go_wp2_with fail
        go_roundg (nb - (k + 1))
        case measure => have := HN.out; omega
        case rel => exact ⟨k + 1, _, _, by omega, rfl, by go_num, I2.out⟩
    · have hke : k = nb := by omega
      have I2 := hid (hke ▸ INV.out)
      clear hke INV HN
      go_wp2_with fail
      go_ret2
      have inv := I2.out
      obtain ⟨_, ⟨rfl, h0⟩ | ⟨gb, cap, cur, rfl, hgb, hcur, hc1, hc2, hc3, hc4⟩⟩ := inv.own
      · omega
      refine ⟨w.heap.size, gb, g, ?_, rfl, ⟨⟨cap, inv.head⟩, ⟨cur, hcur, fun i hi => ?_⟩, fun i hi => inv.pages i hi, fun i j hi hj => inv.inj i j hi hj, Fl.new_ok h1 h2⟩, inv.upd⟩
      · rintro x (rfl | rfl | ⟨i, hi, rfl⟩)
        · exact Nat.le_refl _
        · exact hgb
        · exact inv.ge.2 i hi
      · have hi : i < nb := hi
        have e : ∀ j, j < nb * 2 → cur[j]? = (blockCells g np nb)[j]? := fun j hj => by
          rw [← hc4, List.getElem?_take, if_pos hj, Array.getElem?_toList]
        obtain ⟨b1, b2⟩ := blockCells_get g np nb i hi
        exact ⟨⟨np, Nat.le_refl _, by rw [e _ (by omega)]; exact b1⟩, by rw [e _ (by omega)]; exact b2⟩

theorem rnew_bad (b g : Int) (w : World) (h : NewBad b g) :
    Calls Tryz.prog 8 #[.int .i64 b, .int .i64 g] w fun e w' => e = .returned (.tuple #[.pointer none, .int .i64 1]) ∧ w = w' := by
  have h' : b < 1 ∨ (1 ≤ b ∧ 32 < b) ∨ (1 ≤ b ∧ b ≤ 32 ∧ g < 1) ∨ (1 ≤ b ∧ b ≤ 32 ∧ 1 ≤ g ∧ 16 < g) := by unfold NewBad at h; omega
  clear h
  rcases h' with h | ⟨h1, h2⟩ | ⟨h1, h2, h3⟩ | ⟨h1, h2, h3, h4⟩
  all_goals
    go_enter Tryz.func8, Tryz.ntmps8
    go_wp2_with fail
    go_ret2
    exact ⟨rfl, rfl⟩
end Go.Proofs.YtlefilfdomjkeaaGreatDoor
