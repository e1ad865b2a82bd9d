/- The walk of New of the reference. -/
import Derived.Test.YtajmhiacmjgffaaRfA2
import Derived.Deep.RegionLaw
namespace Go.Proofs.Ytajmhiacmjgffaa
open Go.RowKit

/-- An append of which the run is known, as one step of a region that draws its order. -/
theorem step_append_run {P : Program} {ops : Array Oper} {o : Oper} {a : Act} {w w' : World} {K : Act → World → Prop} {Q : Exit → Act → World → Prop} {E : Prop}
    (hg : o.guard = none) (s x : Operand) (t t' : TypeId) (hop : o.op = Op.call { callee := Callee.builtin Builtin.append, args := #[s, x], argTypes := #[t, t'] })
    {v0 v1 v' : Value} (hs : a.eval s = v0) (hx : a.eval x = v1) (hrun : (Builtin.append_ #[t, t'] o.type #[v0, v1]).run P w = .ok v' w') (hK : K (a.put o.dst v') w') :
    if Region.wanted o (yielded ops a.tmps) = true then Oper.wp P o a w K Q else E := by
  have hw : Region.wanted o (yielded ops a.tmps) = true := by simp [Region.wanted, hg]
  rw [if_pos hw]
  unfold Oper.wp execOp
  simp only [hop, resolve, invoke, builtin, Sem.run_bind, Sem.run_pure, Result.andThen_ok, List.map_toArray, List.map_cons, List.map_nil, hs, hx, hrun]
  exact hK

theorem elemBlock : ElemTy Try.prog 68 73 2 32 := .mk' Try.underlying68 (z := .agg #[.slice none 0 0, .int .i64 0]) (by kernel_rfl) (by rfl) (by decide)
theorem infoPage : (Try.prog.info? 78).map (fun i => (i.zero, i.size, i.bytes)) = some (some (.agg #[.bool false, .string ByteArray.empty]), 2, 24) := by kernel_rfl

theorem make_pages (w : World) (n : Nat) (hn : n ≤ 100000) : ∃ w', (Instr.makeSlice 71 (.int .i64 (n : Int)) (.int .i64 (n : Int))).run Try.prog w = .ok (.slice (some ⟨w.heap.size, 0, none⟩) n n) w' ∧
    (∃ ps, w'.heap[w.heap.size]? = some (.cells ps 78 (0, 0)) ∧ PagesRep ps n fun _ => none) ∧ Upd (fun _ => False) w w' := by
  obtain ⟨i0, hi, hz0, hz1, hz2⟩ := info_parts infoPage
  obtain ⟨w1, hrun, hown, hgr⟩ := run_make_full (P := Try.prog) w w.heap.size 71 78 i0 _ 2 Try.underlying71 hi hz0 hz1 .i64 .i64 n (by rw [hz2]; omega) (by unfold maxLen; omega) (Nat.le_refl _)
  refine ⟨w1, hrun, ?_, ⟨hgr.os, hgr.tape, hgr.output, hgr.size, fun k hk _ => hgr.block k hk (by simp)⟩⟩
  obtain ⟨hlen, ⟨he, _⟩ | ⟨g, cap, cur, hv, hg, hcur, hc1, hc2, hc3, hc4⟩⟩ := hown
  · cases he
  injection hv with e1 e2 e3
  injection e1 with e1
  injection e1 with e1 _ _
  subst e1 e3
  refine ⟨cur, hcur, fun k hk => ?_⟩
  have hz : Value.cells (.agg #[.bool false, .string ByteArray.empty]) = #[.bool false, .string ByteArray.empty] := rfl
  have e : ∀ j, j < n * 2 → cur[j]? = some ((#[.bool false, .string ByteArray.empty] : Array Value)[j % 2]!) := fun j hj => by
    have := congrArg (·[j]?) hc4
    rw [hz] at this
    simp only [List.getElem?_take, if_pos hj, Array.getElem?_toList] at this
    rw [this]
    unfold madeCells
    rw [Array.getElem?_map, Array.getElem?_range, if_pos hj]
    rfl
  rw [e _ (by omega), e _ (by omega)]
  refine ⟨?_, ?_⟩
  · rw [show k * 2 % 2 = 0 by omega]; rfl
  · rw [show (k * 2 + 1) % 2 = 1 by omega]; rfl

def blockCells (g : Nat → Nat) (np k : Nat) : List Value := (List.range k).flatMap fun i => [.slice (some ⟨g i, 0, none⟩) np np, .int .i64 0]
theorem blockCells_succ (g : Nat → Nat) (np k : Nat) : blockCells g np (k + 1) = blockCells g np k ++ [.slice (some ⟨g k, 0, none⟩) np np, .int .i64 0] := by
  unfold blockCells; rw [List.range_succ, List.flatMap_append]; simp
theorem blockCells_len (g : Nat → Nat) (np k : Nat) : (blockCells g np k).length = k * 2 := by
  induction k with
  | zero => rfl
  | succ k ih => rw [blockCells_succ, List.length_append, ih]; simp; omega
theorem blockCells_get (g : Nat → Nat) (np k i : Nat) (hi : i < k) : (blockCells g np k)[i * 2]? = some (.slice (some ⟨g i, 0, none⟩) np np) ∧ (blockCells g np k)[i * 2 + 1]? = some (.int .i64 0) := by
  induction k with
  | zero => omega
  | succ k ih =>
    rw [blockCells_succ]
    by_cases e : i = k
    · subst e
      rw [List.getElem?_append_right (by rw [blockCells_len]; omega), List.getElem?_append_right (by rw [blockCells_len]; omega), blockCells_len]
      rw [show i * 2 - i * 2 = 0 by omega, show i * 2 + 1 - i * 2 = 1 by omega]
      exact ⟨rfl, rfl⟩
    · rw [List.getElem?_append_left (by rw [blockCells_len]; omega), List.getElem?_append_left (by rw [blockCells_len]; omega)]
      exact ih (by omega)
theorem blockCells_congr (g g' : Nat → Nat) (np k : Nat) (h : ∀ i, i < k → g i = g' i) : blockCells g np k = blockCells g' np k := by
  induction k with
  | zero => rfl
  | succ k ih => rw [blockCells_succ, blockCells_succ, ih fun i hi => h i (by omega), h k (by omega)]

/-- While New runs: k blocks are made. -/
structure NewInv (w0 w : World) (p : Nat) (g : Nat → Nat) (np k : Nat) (vb : Value) : Prop where
  head : w.heap[p]? = some (.cells #[vb, .int .i64 np, .bool false, .int .i64 0, .int .i64 0, .int .i64 0] 70 (0, 0))
  own : w.ownsRow w0.heap.size 73 2 vb k (blockCells g np k)
  pages : ∀ i, i < k → ∃ ps, w.heap[g i]? = some (.cells ps 78 (0, 0)) ∧ PagesRep ps np fun _ => none
  inj : ∀ i j, i < k → j < k → g i = g j → i = j
  upd : Upd (fun _ => False) w0 w
  ge : w0.heap.size ≤ p ∧ ∀ i, i < k → w0.heap.size ≤ g i

theorem NewInv.step {w0 w : World} {p : Nat} {g : Nat → Nat} {np k : Nat} {vb : Value} (h : NewInv w0 w p g np k vb) (hk : k < 100) (hnp : np ≤ 16) :
    ∃ w1, (Instr.makeSlice 71 (.int .i64 (np : Int)) (.int .i64 (np : Int))).run Try.prog w.drew = .ok (.slice (some ⟨w.heap.size, 0, none⟩) np np) w1 ∧
    ∃ gb cap w2, (Builtin.append_ #[68, 68] 68 #[vb, .slice (some ⟨w1.heap.size, 0, none⟩) 1 1]).run Try.prog (w1.alloc (.cells #[.slice (some ⟨w.heap.size, 0, none⟩) np np, .int .i64 0] 73 (0, 0))) = .ok (.slice (some ⟨gb, 0, none⟩) (k + 1) cap) w2 ∧
      w1.cell? ⟨p, 0, none⟩ = some vb ∧ w2.cell? ⟨p, 0, none⟩ = some vb ∧ w2.frozen? ⟨p, 0, none⟩ = false ∧
      NewInv w0 (w2.setCell ⟨p, 0, none⟩ (.slice (some ⟨gb, 0, none⟩) (k + 1) cap)) p (fun i => if i = k then w.heap.size else g i) np (k + 1) (.slice (some ⟨gb, 0, none⟩) (k + 1) cap) := by
  obtain ⟨w1, r1, ⟨ps, hps, hpr⟩, u1⟩ := make_pages w.drew np (by omega)
  have u1 : Upd (fun _ => False) w w1 := ((Upd.refl _ w).drew).trans u1
  have hps : w1.heap[w.heap.size]? = some (.cells ps 78 (0, 0)) := hps
  have hs := h.upd.size
  have hs1 := u1.size
  have o1 := ownsRow_upd h.own u1 (fun _ _ h => h)
  obtain ⟨v', w2, r2, o2, u2, n2⟩ := append_one elemBlock o1 #[.slice (some ⟨w.heap.size, 0, none⟩) np np, .int .i64 0] rfl (by simp [Value.oneCell']) (by unfold maxLen; omega) (by omega) (by omega) 68 (0, 0)
  rcases ownsRow_fits o2 with ⟨_, h0⟩ | ⟨gb, cap, rfl, hgb, hgs, hgc, hgm⟩
  · omega
  have hb2 : ∀ j, vb.ownBlock = some j → ∀ s t fr, w.heap[j]? = some (.cells s t fr) → t = 73 := by
    intro j hj s t fr hh
    obtain ⟨_, ⟨rfl, _⟩ | ⟨g', cap', cur, rfl, _, hg', _⟩⟩ := h.own
    · cases hj
    · injection hj with hj; subst hj
      rw [hg'] at hh; injection hh with hh; injection hh with _ e _; exact e.symm
  have hpb : vb.ownBlock ≠ some p := fun e => absurd (hb2 p e _ _ _ h.head) (by decide)
  have hgbk : ∀ i, i < k → vb.ownBlock ≠ some (g i) := fun i hi e => by
    obtain ⟨ps', hh, _⟩ := h.pages i hi
    exact absurd (hb2 _ e _ _ _ hh) (by decide)
  have hp1 : w1.heap[p]? = _ := (u1.block p (heap_lt h.head) id).trans h.head
  have hp2 : w2.heap[p]? = _ := (u2.block p (heap_lt hp1) hpb).trans hp1
  have hnew : w2.heap[w.heap.size]? = some (.cells ps 78 (0, 0)) := by
    rw [u2.block _ (heap_lt hps) (fun e => by have := (h.own.lt _ e).2; omega)]; exact hps
  have hpn : p < w.heap.size := heap_lt h.head
  have ugb : gb ≠ p := by
    intro e
    obtain ⟨_, ⟨he, _⟩ | ⟨g', cap', cur, hv, _, hg', _⟩⟩ := o2
    · cases he
    · injection hv with e1 _ _; injection e1 with e1; injection e1 with e1 _ _
      subst e1 e
      rw [hp2] at hg'; injection hg' with hh; injection hh with _ e _; exact absurd e (by decide)
  refine ⟨w1, r1, gb, cap, w2, r2, by rw [cell_of_block hp1]; rfl, by rw [cell_of_block hp2]; rfl, frozen_of_block hp2, ?_, ?_, ?_, ?_, ?_, ?_⟩
  · have := heap_setCell_same (p := ⟨p, 0, none⟩) (u := .slice (some ⟨gb, 0, none⟩) (k + 1) cap) rfl hp2
    rw [this]; rfl
  · have o3 := ownsRow_upd o2 ((Upd.refl (· = p) w2).at_ 0 (.slice (some ⟨gb, 0, none⟩) (k + 1) cap)) (fun g' hg' e => by injection hg' with hg'; exact ugb (hg'.trans e))
    rw [blockCells_succ, if_pos rfl, blockCells_congr _ g np k fun i hi => if_neg (by omega)]
    exact o3
  · intro i hi
    by_cases e : i = k
    · rw [if_pos e]
      exact ⟨ps, by rw [heap_setCell_other (by show w.heap.size ≠ p; omega)]; exact hnew, hpr⟩
    · rw [if_neg e]
      obtain ⟨ps', hh, hr⟩ := h.pages i (by omega)
      have hgp : g i ≠ p := fun e1 => by
        rw [e1, h.head] at hh; injection hh with hh; injection hh with _ e2 _; exact absurd e2 (by decide)
      refine ⟨ps', ?_, hr⟩
      have hh1 := (u1.block _ (heap_lt hh) id).trans hh
      rw [heap_setCell_other hgp, u2.block _ (heap_lt hh1) (hgbk i (by omega))]
      exact hh1
  · intro i j hi hj hij
    by_cases e1 : i = k
    · by_cases e2 : j = k
      · omega
      · rw [if_pos e1, if_neg e2] at hij
        obtain ⟨ps', hh, _⟩ := h.pages j (by omega)
        have := heap_lt hh; omega
    · by_cases e2 : j = k
      · rw [if_neg e1, if_pos e2] at hij
        obtain ⟨ps', hh, _⟩ := h.pages i (by omega)
        have := heap_lt hh; omega
      · rw [if_neg e1, if_neg e2] at hij
        exact h.inj i j (by omega) (by omega) hij
  · have hbig : ∀ j, vb.ownBlock = some j → w0.heap.size ≤ j := fun j hj => (h.own.lt j hj).1
    have ua : Upd (fun _ => False) w0 w2 := by
      refine ⟨u2.os.trans (u1.os.trans h.upd.os), u2.tape.trans (u1.tape.trans h.upd.tape), u2.output.trans (u1.output.trans h.upd.output), by have := u2.size; omega, fun j hj _ => ?_⟩
      rw [u2.block j (by omega) (fun e => by have := hbig j e; omega), u1.block j (by omega) id]
      exact h.upd.block j hj id
    exact ua.setCell _ _ (.inr h.ge.1)
  · refine ⟨h.ge.1, fun i hi => ?_⟩
    by_cases e : i = k
    · rw [if_pos e]; omega
    · rw [if_neg e]; exact h.ge.2 i (by omega)

def RNewPost (nb np : Nat) (w : World) (e : Ending) (w' : World) : Prop :=
  ∃ p q g, (∀ k, Foot p q g nb k → w.heap.size ≤ k) ∧ e = .returned (.tuple #[.pointer (some ⟨p, 0, none⟩), .int .i64 0]) ∧ RefAt w' p q g (Fl.new nb np) ∧ Upd (fun _ => False) w w'

set_option maxHeartbeats 1000000 in
theorem rnew_ok (nb np : Nat) (w : World) (h1 : 1 ≤ nb ∧ nb ≤ 32) (h2 : 1 ≤ np ∧ np ≤ 16) :
    Calls Try.prog 19 #[.int .i64 nb, .int .i64 np] w (RNewPost nb np w) := by
  have a1 : (1 : Int) ≤ nb := by omega
  have a2 : (nb : Int) ≤ 32 := by omega
  have a3 : (1 : Int) ≤ np := by omega
  have a4 : (np : Int) ≤ 16 := by omega
  have i0 : NewInv w (w.alloc (.cells #[.slice none 0 0, .int .i64 np, .bool false, .int .i64 0, .int .i64 0, .int .i64 0] 70 (0, 0))) w.heap.size (fun _ => 0) np 0 (.slice none 0 0) :=
    ⟨heap_alloc_new, World.ownsRow_nil _ _ _ _, fun i hi => by omega, fun i j hi => by omega, (Upd.refl _ _).alloc _, ⟨Nat.le_refl _, fun i hi => by omega⟩⟩
  have I0 := hid i0; clear i0
  go_enter Try.func19, Try.ntmps19
  go_wp2_with fail
  go_loopg [7] nb (fun n i wx => ∃ (k : Nat) (g : Nat → Nat) (vb : Value), k ≤ nb ∧ n = nb - k ∧ i = .int .i64 k ∧ NewInv w wx w.heap.size g np k vb)
  case atStart => exact ⟨0, _, _, Nat.zero_le _, rfl, rfl, I0.out⟩
  case round =>
    clear I0
    obtain ⟨k, g, vb, hk, hn, rfl, inv⟩ := hrel
    have INV := hid inv; have HN := hid hn
    clear inv hn
    by_cases hlt : k < nb
    · obtain ⟨w1, r1, gb, cap, w2, r2, q1, q2, q3, inv2⟩ := INV.out.step (by omega) (by omega)
      have q0 : wr.cell? ⟨w.heap.size, 0, none⟩ = some vb := by rw [cell_of_block INV.out.head]; rfl
      have q4 : w.heap.size < w1.heap.size := World.block_lt_of_cell? _ _ q1
      have I2 := hid inv2
      clear inv2
      go_wp2_with fail
      go_region_law (refine step_append_run rfl _ _ _ _ rfl rfl rfl r2 ?_)
      all_goals
        go_wp2_with fail
        go_roundg (nb - (k + 1))
        case measure => have := HN.out; omega
        case rel => exact ⟨k + 1, _, _, by omega, rfl, by go_num, I2.out⟩
    · have hke : k = nb := by omega
      have I2 := hid (hke ▸ INV.out)
      clear hke INV HN
      go_wp2_with fail
      go_ret2
      have inv := I2.out
      obtain ⟨_, ⟨rfl, h0⟩ | ⟨gb, cap, cur, rfl, hgb, hcur, hc1, hc2, hc3, hc4⟩⟩ := inv.own
      · omega
      refine ⟨w.heap.size, gb, g, ?_, rfl, ⟨⟨cap, inv.head⟩, ⟨cur, hcur, fun i hi => ?_⟩, fun i hi => inv.pages i hi, fun i j hi hj => inv.inj i j hi hj, Fl.new_ok h1 h2⟩, inv.upd⟩
      · rintro x (rfl | rfl | ⟨i, hi, rfl⟩)
        · exact Nat.le_refl _
        · exact hgb
        · exact inv.ge.2 i hi
      · have hi : i < nb := hi
        have e : ∀ j, j < nb * 2 → cur[j]? = (blockCells g np nb)[j]? := fun j hj => by
          rw [← hc4, List.getElem?_take, if_pos hj, Array.getElem?_toList]
        obtain ⟨b1, b2⟩ := blockCells_get g np nb i hi
        exact ⟨⟨np, Nat.le_refl _, by rw [e _ (by omega)]; exact b1⟩, by rw [e _ (by omega)]; exact b2⟩

theorem rnew_bad (b g : Int) (w : World) (h : NewBad b g) :
    Calls Try.prog 19 #[.int .i64 b, .int .i64 g] w fun e w' => e = .returned (.tuple #[.pointer none, .int .i64 1]) ∧ w = w' := by
  have h' : b < 1 ∨ (1 ≤ b ∧ 32 < b) ∨ (1 ≤ b ∧ b ≤ 32 ∧ g < 1) ∨ (1 ≤ b ∧ b ≤ 32 ∧ 1 ≤ g ∧ 16 < g) := by unfold NewBad at h; omega
  clear h
  rcases h' with h | ⟨h1, h2⟩ | ⟨h1, h2, h3⟩ | ⟨h1, h2, h3, h4⟩
  all_goals
    go_enter Try.func19, Try.ntmps19
    go_wp2_with fail
    go_ret2
    exact ⟨rfl, rfl⟩
end Go.Proofs.Ytajmhiacmjgffaa
