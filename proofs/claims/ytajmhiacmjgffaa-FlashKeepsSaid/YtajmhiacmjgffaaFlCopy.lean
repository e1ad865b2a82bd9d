/- The walk of Copy of flash. -/
import Derived.Test.YtajmhiacmjgffaaFlSmall
namespace Go.Proofs.Ytajmhiacmjgffaa
open Go.RowKit

theorem CellsRep.size {w : World} {cs : Array Value} {nb : Nat} {blk : Nat → Blk} (h : CellsRep w cs nb blk) : nb * 17 ≤ cs.size := by
  rcases Nat.eq_zero_or_pos nb with h0 | h0
  · omega
  · have h1 := (h (nb - 1) (by omega)).1
    rcases Nat.lt_or_ge ((nb - 1) * 17 + 16) cs.size with g | g
    · omega
    · rw [Array.getElem?_eq_none g] at h1; cases h1

theorem CellsRep.one {w : World} {cs : Array Value} {nb : Nat} {blk : Nat → Blk} (h : CellsRep w cs nb blk) : ∀ u ∈ cs.toList.take (nb * 17), u.oneCell' = true := by
  intro u hu
  obtain ⟨j, hj, rfl⟩ := List.getElem_of_mem hu
  rw [List.getElem_take]
  have hj' : j < nb * 17 := by have := List.length_take_le (nb * 17) cs.toList; omega
  have hsz := h.size
  by_cases hk : j % 17 = 16
  · have := (h (j / 17) (by omega)).1
    rw [show j / 17 * 17 + 16 = j by omega] at this
    have e : cs.toList[j]'(by simp; omega) = .int .i64 (blk (j / 17)).wear := by
      have h2 : cs[j]? = some (cs[j]'(by omega)) := Array.getElem?_eq_getElem (by omega)
      rw [h2] at this; injection this
    rw [e]; rfl
  · obtain ⟨v, hv, hr⟩ := (h (j / 17) (by omega)).2 (j % 17) (by omega)
    rw [show j / 17 * 17 + j % 17 = j by omega] at hv
    have e : cs.toList[j]'(by simp; omega) = v := by
      have h2 : cs[j]? = some (cs[j]'(by omega)) := Array.getElem?_eq_getElem (by omega)
      rw [h2] at hv; injection hv
    rw [e]
    cases ho : (blk (j / 17)).page (j % 17) with
    | none => rw [ho] at hr; have hr : v = .pointer none := hr; rw [hr]; rfl
    | some s => rw [ho] at hr; obtain ⟨r, rfl, _⟩ := hr; rfl

/-- A copy: two new blocks. -/
def CopyPost (F : Fl) (w : World) (e : Ending) (w' : World) : Prop :=
  ∃ p q, w.heap.size ≤ p ∧ w.heap.size ≤ q ∧ e = .returned (.pointer (some ⟨p, 0, none⟩)) ∧ FlashAt w' p q F ∧ Upd (fun _ => False) w w'

set_option maxHeartbeats 1000000 in
theorem copy_any (p q : Nat) (w : World) (F : Fl) (h : FlashAt w p q F) :
    Calls Try.prog 22 #[.pointer (some ⟨p, 0, none⟩)] w (CopyPost F w) := by
  obtain ⟨cap, ⟨c0, c1, c2, c3, c4, c5⟩, hz⟩ := h.cells
  obtain ⟨cs, h2, h3⟩ := h.rows
  have hnb := h.ok.nb
  obtain ⟨i0, hi, hz0, hz1, hz2⟩ := info_parts info61
  have hsz := h3.size
  have hp := World.block_lt_of_cell? _ _ c0
  have hq := heap_lt h2
  have hnews : ∀ j u, (cs.toList.take (F.nb * 17))[j]? = some u →
      (w.alloc (.cells #[.slice (some ⟨q, 0, none⟩) F.nb cap, .int .i64 F.np, .bool F.down, .int .i64 F.lost, .int .i64 F.left, .int .i64 F.keep] 57 (0, 0))).cell? (Addr.add ⟨q, 0, none⟩ j) = some u := by
    intro j u hu
    have e : Addr.add ⟨q, 0, none⟩ j = ⟨q, j, none⟩ := by unfold Addr.add; split <;> simp_all
    rw [e, World.cell?_of_block (w := w) (heap_alloc_old hq), cell_of_block h2]
    rw [List.getElem?_take] at hu
    split at hu
    · simpa using hu
    · cases hu
  obtain ⟨v', w2, hrun, hown, hgr, _⟩ := run_append_own (P := Try.prog) (w.alloc (.cells #[.slice (some ⟨q, 0, none⟩) F.nb cap, .int .i64 F.np, .bool F.down, .int .i64 F.lost, .int .i64 F.left, .int .i64 F.keep] 57 (0, 0)))
    (w.heap.size + 1) 55 55 61 i0 _ 17 136 Try.underlying55 hi hz0 hz1 hz2 (by rfl) (by decide) (.slice none 0 0) 0 [] ⟨rfl, .inl ⟨rfl, rfl⟩⟩
    ⟨q, 0, none⟩ F.nb cap (cs.toList.take (F.nb * 17)) (by simp; omega) hnews h3.one (by unfold maxLen; omega) (by omega) (by simp)
  rw [Nat.zero_add, List.nil_append] at hown
  obtain ⟨_, ⟨_, h0⟩ | ⟨g, cap', cur, rfl, hg, hcur, hc1, hc2, hc3, hc4⟩⟩ := hown
  · omega
  have hgz : g < w2.heap.size := heap_lt hcur
  have u1 : Upd (fun _ => False) w w2 := ((Upd.refl (fun _ => False) w).alloc _).grown hgr (by intro k hk; cases hk)
  have hh : w2.heap[w.heap.size]? = some (.cells #[.slice (some ⟨q, 0, none⟩) F.nb cap, .int .i64 F.np, .bool F.down, .int .i64 F.lost, .int .i64 F.left, .int .i64 F.keep] 57 (0, 0)) := by
    rw [hgr.block _ (by simp) (by intro e; cases e)]; exact heap_alloc_new
  have hrep : CellsRep w2 cur F.nb F.blk := by
    have h4 := h3.upd u1 (fun _ h => h.elim)
    have e : ∀ j, j < F.nb * 17 → cur[j]? = cs[j]? := fun j hj => by
      have := congrArg (·[j]?) hc4
      simpa [List.getElem?_take, hj] using this
    intro i hi'
    refine ⟨by rw [e _ (by omega)]; exact (h4 i hi').1, fun k hk => ?_⟩
    rw [e _ (by omega)]
    exact (h4 i hi').2 k hk
  have H1 := hid hcur; have H2 := hid hh; have H3 := hid hrep; have U1 := hid u1; have OK := hid h.ok
  have d0 : w2.cell? ⟨w.heap.size, 0, none⟩ = some (.slice (some ⟨q, 0, none⟩) F.nb cap) := by rw [cell_of_block hh]; rfl
  have dz : w2.frozen? ⟨w.heap.size, 0, none⟩ = false := frozen_of_block hh
  have HG := hid hg
  clear h h2 h3 hz0 hz1 hz2 hi hsz hnews hgr hcur hh hrep u1 hc4 hc3 hc2 hc1 hg
  go_enter Try.func22, Try.ntmps22
  go_wp2_with (at_builtin; refine wpList_append_run rfl _ _ _ _ rfl rfl rfl hrun ?_)
  go_ret
  have hne : g ≠ w.heap.size := by have := HG.out; omega
  refine ⟨w.heap.size, g, Nat.le_refl _, by have := HG.out; omega, rfl, ⟨⟨cap', ?_⟩, ⟨cur, ?_, ?_⟩, OK.out⟩, U1.out.setCell _ _ (.inr (Nat.le_refl _))⟩
  · simp [heap_setCell, Obj.setAt, H2.out]
  · rw [heap_setCell_other hne]; exact H1.out
  · refine H3.out.upd (S := (· = w.heap.size)) ((Upd.refl _ _).at_ _ _) ?_
    intro k hk s e; subst hk; rw [H2.out] at e; simp at e
end Go.Proofs.Ytajmhiacmjgffaa
