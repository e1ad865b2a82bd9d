/- The memory of the flash as the proofs see it: a model of a flash, and what it means that a world holds one. -/
import Derived.Test.YtlefilfdomjkeaaGreatDoorFz
import Derived.Test.YtlefilfdomjkeaaGreatDoorFlModel
namespace Go.Proofs.YtlefilfdomjkeaaGreatDoor
open Go.RowKit

def PageRep (w : World) (v : Value) : Option ByteArray → Prop
  | none => v = .pointer none
  | some s => ∃ r, v = .pointer (some ⟨r, 0, none⟩) ∧ w.heap[r]? = some (.cells #[.string s] 9 (0, 0))

/-- The cells of the blocks. -/
def CellsRep (w : World) (cs : Array Value) (nb : Nat) (blk : Nat → Blk) : Prop :=
  ∀ i, i < nb → cs[i * 17 + 16]? = some (.int .i64 (blk i).wear) ∧ ∀ k, k < 16 → ∃ v, cs[i * 17 + k]? = some v ∧ PageRep w v ((blk i).page k)

/-- The world w holds the flash F: its struct is block p, its blocks lie in block q. -/
structure FlashAt (w : World) (p q : Nat) (F : Fl) : Prop where
  head : ∃ cap, w.heap[p]? = some (.cells #[.slice (some ⟨q, 0, none⟩) F.nb cap, .int .i64 F.np, .bool F.down, .int .i64 F.lost, .int .i64 F.left, .int .i64 F.keep] 65 (0, 0))
  rows : ∃ cs, w.heap[q]? = some (.cells cs 102 (0, 0)) ∧ CellsRep w cs F.nb F.blk
  ok : F.Ok

theorem FlashAt.ne {w : World} {p q : Nat} {F : Fl} (h : FlashAt w p q F) : p ≠ q := by
  obtain ⟨cap, h1⟩ := h.head
  obtain ⟨cs, h2, _⟩ := h.rows
  intro e; subst e; rw [h1] at h2; simp at h2

/-- Block k holds no string of a page. -/
def NoStr (w : World) (k : Nat) : Prop := ∀ s, w.heap[k]? ≠ some (.cells #[.string s] 9 (0, 0))

theorem PageRep.upd {S : Nat → Prop} {w w' : World} {v : Value} {o : Option ByteArray} (h : PageRep w v o) (u : Upd S w w') (hS : ∀ k, S k → NoStr w k) : PageRep w' v o := by
  cases o with
  | none => exact h
  | some s =>
    obtain ⟨r, hv, hr⟩ := h
    exact ⟨r, hv, by rw [u.block r (heap_lt hr) fun hk => hS r hk s hr]; exact hr⟩

theorem CellsRep.upd {S : Nat → Prop} {w w' : World} {cs : Array Value} {nb : Nat} {blk : Nat → Blk} (h : CellsRep w cs nb blk) (u : Upd S w w') (hS : ∀ k, S k → NoStr w k) : CellsRep w' cs nb blk := by
  intro i hi
  refine ⟨(h i hi).1, fun k hk => ?_⟩
  obtain ⟨v, hv, hr⟩ := (h i hi).2 k hk
  exact ⟨v, hv, hr.upd u hS⟩

theorem FlashAt.noStr_p {w : World} {p q : Nat} {F : Fl} (h : FlashAt w p q F) : NoStr w p := by
  obtain ⟨cap, h1⟩ := h.head
  intro s e; rw [h1] at e; simp at e
theorem FlashAt.noStr_q {w : World} {p q : Nat} {F : Fl} (h : FlashAt w p q F) : NoStr w q := by
  obtain ⟨cs, h1, _⟩ := h.rows
  intro s e; rw [h1] at e; simp at e

/-- The struct was written, the blocks were not. -/
theorem FlashAt.newHead {w w' : World} {p q : Nat} {F G : Fl} (h : FlashAt w p q F) (u : Upd (· = p) w w') (hb : G.blk = F.blk) (hn : G.nb = F.nb) (ok : G.Ok)
    (hh : ∀ cap, w.heap[p]? = some (.cells #[.slice (some ⟨q, 0, none⟩) F.nb cap, .int .i64 F.np, .bool F.down, .int .i64 F.lost, .int .i64 F.left, .int .i64 F.keep] 65 (0, 0)) →
      w'.heap[p]? = some (.cells #[.slice (some ⟨q, 0, none⟩) G.nb cap, .int .i64 G.np, .bool G.down, .int .i64 G.lost, .int .i64 G.left, .int .i64 G.keep] 65 (0, 0))) : FlashAt w' p q G := by
  obtain ⟨cap, h1⟩ := h.head
  obtain ⟨cs, h2, h3⟩ := h.rows
  refine ⟨⟨cap, hh cap h1⟩, ⟨cs, ?_, ?_⟩, ok⟩
  · rw [u.block q (heap_lt h2) fun e => h.ne e.symm]; exact h2
  · rw [hb, hn]; exact h3.upd u fun k hk => hk ▸ h.noStr_p

/-- Other memory was written. -/
theorem FlashAt.upd {S : Nat → Prop} {w w' : World} {p q : Nat} {F : Fl} (h : FlashAt w p q F) (u : Upd S w w') (hp : ¬ S p) (hq : ¬ S q) (hS : ∀ k, S k → NoStr w k) : FlashAt w' p q F := by
  obtain ⟨cap, h1⟩ := h.head
  obtain ⟨cs, h2, h3⟩ := h.rows
  exact ⟨⟨cap, by rw [u.block p (heap_lt h1) hp]; exact h1⟩, ⟨cs, by rw [u.block q (heap_lt h2) hq]; exact h2, h3.upd u hS⟩, h.ok⟩

/-- The struct may have been written, the blocks were not. -/
theorem FlashAt.remake {w w' : World} {p q : Nat} {F G : Fl} (h : FlashAt w p q F) (u : Upd (· = p) w w') (hb : G.blk = F.blk) (hn : G.nb = F.nb) (ok : G.Ok)
    (hh : ∃ cap, w'.heap[p]? = some (.cells #[.slice (some ⟨q, 0, none⟩) G.nb cap, .int .i64 G.np, .bool G.down, .int .i64 G.lost, .int .i64 G.left, .int .i64 G.keep] 65 (0, 0))) : FlashAt w' p q G := by
  obtain ⟨cs, h2, h3⟩ := h.rows
  refine ⟨hh, ⟨cs, ?_, ?_⟩, ok⟩
  · rw [u.block q (heap_lt h2) fun e => h.ne e.symm]; exact h2
  · rw [hb, hn]; exact h3.upd u fun k hk => hk ▸ h.noStr_p

theorem FlashAt.setPage {w : World} {p q n g r : Nat} {F : Fl} {s : ByteArray} (h : FlashAt w p q F) (hr : w.heap[r]? = some (.cells #[.string s] 9 (0, 0))) (hn : n < F.nb) (hg : g < 16) :
    FlashAt (w.setCell ⟨q, n * 17 + g, none⟩ (.pointer (some ⟨r, 0, none⟩))) p q (F.setPage n g s) := by
  obtain ⟨cap, h1⟩ := h.head
  obtain ⟨cs, h2, h3⟩ := h.rows
  have hne := h.ne
  have u := (Upd.refl (· = q) w).at_ (n * 17 + g) (.pointer (some ⟨r, 0, none⟩))
  have hrq : r ≠ q := fun e => h.noStr_q s (e ▸ hr)
  refine ⟨⟨cap, by rw [heap_setCell_other hne]; exact h1⟩, ⟨cs.setIfInBounds (n * 17 + g) (.pointer (some ⟨r, 0, none⟩)), ?_, ?_⟩, Fl.setPage_ok h.ok n g s⟩
  · exact heap_setCell_same rfl h2
  · intro i hi
    obtain ⟨a1, a2⟩ := h3 i hi
    refine ⟨?_, fun k hk => ?_⟩
    · rw [Array.getElem?_setIfInBounds_ne (by omega), a1]
      show some (Value.int .i64 (F.blk i).wear) = some (Value.int .i64 (if i = n then { F.blk n with page := _ } else F.blk i : Blk).wear)
      split
      · rename_i e; subst e; rfl
      · rfl
    · obtain ⟨v, hv, hp⟩ := a2 k hk
      have hlt : i * 17 + k < cs.size := by
        rcases Nat.lt_or_ge (i * 17 + k) cs.size with g1 | g1
        · exact g1
        · rw [Array.getElem?_eq_none g1] at hv; cases hv
      by_cases e : i = n ∧ k = g
      · obtain ⟨rfl, rfl⟩ := e
        refine ⟨_, Array.getElem?_setIfInBounds_self_of_lt hlt, ?_⟩
        simp only [Fl.setPage, if_true]
        exact ⟨r, rfl, by rw [heap_setCell_other hrq]; exact hr⟩
      · refine ⟨v, by rw [Array.getElem?_setIfInBounds_ne (by omega)]; exact hv, ?_⟩
        have : ((F.setPage n g s).blk i).page k = (F.blk i).page k := by
          simp only [Fl.setPage]
          split
          · rename_i e1; subst e1
            exact if_neg fun e2 => e ⟨rfl, e2⟩
          · rfl
        rw [this]
        exact hp.upd u fun k hk => hk ▸ h.noStr_q

theorem FlashAt.cells {w : World} {p q : Nat} {F : Fl} (h : FlashAt w p q F) : ∃ cap, (w.cell? ⟨p, 0, none⟩ = some (.slice (some ⟨q, 0, none⟩) F.nb cap) ∧ w.cell? ⟨p, 1, none⟩ = some (.int .i64 F.np) ∧
    w.cell? ⟨p, 2, none⟩ = some (.bool F.down) ∧ w.cell? ⟨p, 3, none⟩ = some (.int .i64 F.lost) ∧ w.cell? ⟨p, 4, none⟩ = some (.int .i64 F.left) ∧ w.cell? ⟨p, 5, none⟩ = some (.int .i64 F.keep)) ∧ (∀ o, w.frozen? ⟨p, o, none⟩ = false) := by
  obtain ⟨cap, h1⟩ := h.head
  refine ⟨cap, ⟨?_, ?_, ?_, ?_, ?_, ?_⟩, fun o => frozen_of_block h1⟩ <;> rw [cell_of_block h1] <;> rfl

theorem FlashAt.frozen_q {w : World} {p q : Nat} {F : Fl} (h : FlashAt w p q F) : ∀ o, w.frozen? ⟨q, o, none⟩ = false := by
  obtain ⟨cs, h1, _⟩ := h.rows
  exact fun o => frozen_of_block h1
theorem FlashAt.page_cell {w : World} {p q n g : Nat} {F : Fl} (h : FlashAt w p q F) (hn : n < F.nb) (hg : g < 16) : ∃ v, w.cell? ⟨q, n * 17 + g, none⟩ = some v ∧ PageRep w v ((F.blk n).page g) := by
  obtain ⟨cs, h1, h2⟩ := h.rows
  obtain ⟨v, hv, hr⟩ := (h2 n hn).2 g hg
  exact ⟨v, by rw [cell_of_block h1]; exact hv, hr⟩
theorem FlashAt.wear_cell {w : World} {p q n : Nat} {F : Fl} (h : FlashAt w p q F) (hn : n < F.nb) : w.cell? ⟨q, n * 17 + 16, none⟩ = some (.int .i64 (F.blk n).wear) := by
  obtain ⟨cs, h1, h2⟩ := h.rows
  rw [cell_of_block h1]; exact (h2 n hn).1
end Go.Proofs.YtlefilfdomjkeaaGreatDoor
