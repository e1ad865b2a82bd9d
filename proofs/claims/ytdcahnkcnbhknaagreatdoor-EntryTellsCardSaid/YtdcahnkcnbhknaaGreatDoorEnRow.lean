/- Walks: ascending, keys, Normal. -/
/- Rows of spans in a block. -/
/- Slices of spans that a call owns. -/
import Derived.Test.YtdcahnkcnbhknaaGreatDoorEnEq
import Derived.Test.YtdcahnkcnbhknaaGreatDoorFz
import Derived.Test.YtdcahnkcnbhknaaGreatDoorEnTake
namespace Go.Proofs.YtdcahnkcnbhknaaGreatDoor
open Go.RowKit Go.Deep

theorem ucell {W w1 : World} (u : Upd (fun _ => False) W w1) : (∀ b o, b < W.heap.size → w1.cell? ⟨b, o, none⟩ = W.cell? ⟨b, o, none⟩) ∧ (∀ b o, b < W.heap.size → w1.frozen? ⟨b, o, none⟩ = W.frozen? ⟨b, o, none⟩) :=
  ⟨fun b o h => World.cell?_of_block (w := W) (u.block b h id), fun b o h => by unfold World.frozen?; rw [show w1.heap[(⟨b, o, none⟩ : Addr).block]? = W.heap[b]? from u.block b h id]⟩
theorem asc_idx : ∀ (l : List Int), ascP l ↔ ∀ i (h : i + 1 < l.length), l[i] < l[i + 1]
  | [] => ⟨fun _ i h => absurd h (Nat.not_lt_zero _), fun _ => trivial⟩
  | [a] => ⟨fun _ i h => by simp at h, fun _ => trivial⟩
  | a :: b :: r => by
    have ih := asc_idx (b :: r)
    unfold ascP
    rw [ih]
    constructor
    · rintro ⟨h1, h2⟩ i h
      cases i with
      | zero => exact h1
      | succ i => exact h2 i (by simpa using h)
    · intro h
      exact ⟨h 0 (by simp), fun i hi => h (i + 1) (by simpa using hi)⟩
def gapP (a b : Sp) : Prop := a.mark < b.mark ∨ (a.mark = b.mark ∧ a.to < b.fr)
theorem nrm_idx : ∀ (l : List Sp), nrmP l ↔ (∀ i (h : i < l.length), l[i].Ok) ∧ ∀ i (h : i + 1 < l.length), gapP l[i] l[i + 1]
  | [] => ⟨fun _ => ⟨fun i h => absurd h (Nat.not_lt_zero _), fun i h => absurd h (Nat.not_lt_zero _)⟩, fun _ => trivial⟩
  | [a] => ⟨fun h => ⟨fun i hi => by obtain rfl : i = 0 := by simpa using hi
                                     exact h, fun i h => by simp at h⟩, fun h => h.1 0 (by simp)⟩
  | a :: b :: r => by
    have ih := nrm_idx (b :: r)
    unfold nrmP
    rw [ih]
    constructor
    · rintro ⟨h1, h2, h3, h4⟩
      refine ⟨fun i h => ?_, fun i h => ?_⟩
      · cases i with
        | zero => exact h1
        | succ i => exact h3 i (by simpa using h)
      · cases i with
        | zero => exact h2
        | succ i => exact h4 i (by simpa using h)
    · rintro ⟨h1, h2⟩
      exact ⟨h1 0 (by simp), h2 0 (by simp), fun i hi => h1 (i + 1) (by simpa using hi), fun i hi => h2 (i + 1) (by simpa using hi)⟩
set_option maxHeartbeats 1000000 in
theorem asc_any (A : Nat → Prop) (v : Value) (l : List Int) (w : World) (hl : kInts.rep A w [v] l) :
    Calls Tryz.prog 61 #[v] w fun e w' => e = .returned (.bool (decide (ascP l))) ∧ Upd (fun _ => False) w w' := by
  obtain ⟨a, cap, rfl, p1, p2, p3⟩ := slice_open hl
  have p2 : cap ≤ 9223372036854775807 := p2
  have H := hid p3
  clear hl p3
  go_enter Tryz.func61, Tryz.ntmps61
  go_wp2_with fail
  go_loopg [3] l.length (fun gg s3 wr => ∃ j : Nat, j ≤ l.length ∧ gg = l.length - j ∧ s3 = .int .i64 ((j + 1 : Nat) : Int) ∧ (∀ i (h : i + 1 < l.length), i < j → l[i] < l[i + 1]) ∧ Upd (fun _ => False) w wr)
  case atStart => exact ⟨0, Nat.zero_le _, rfl, rfl, fun i _ h => absurd h (Nat.not_lt_zero _), Upd.refl _ _⟩
  case round =>
    obtain ⟨j, hj, hg, rfl, he, u⟩ := hrel
    have UU := hid u; have HG := hid hg; have EQ := hid he
    clear u hg he
    obtain ⟨j1, hj1⟩ : ∃ j1, j1 = j + 1 := ⟨_, rfl⟩
    rw [← hj1]
    by_cases hlt : j1 < l.length
    · obtain ⟨b, o, rfl, hb, hel⟩ := H.out (by omega)
      have hj0 : j < l.length := by omega
      have m1 := int_cells hel hj0
      have m2 := int_cells hel hlt
      have m1 := cell_kept m1 (UU.out.block b (World.block_lt_of_cell? _ _ m1) id)
      have m2 := cell_kept m2 (UU.out.block b (World.block_lt_of_cell? _ _ m2) id)
      have hlti : (j1 : Int) < l.length := by omega
      have hlti0 : (j : Int) < l.length := by omega
      have gs : IntKind.i64.wrap ((j1 : Int) - 1) = (j : Int) := by rw [IntWalk.i64_in _ (by omega)]; omega
      have gs2 : (j1 : Int) - 1 = (j : Int) := by omega
      have HE : Hid (∀ h h', l[j1]'h = l[j + 1]'h') := hid (fun h h' => by subst hj1; rfl)
      have HJ := hid hj1
      clear hel hj1
      by_cases hx : l[j] < l[j1]
      · have hxb : decide (l[j1] ≤ l[j]) = false := decide_eq_false (by omega)
        have HX := hid hx
        clear hx
        go_wp2_with fail
        go_quiet (fail)
        go_wp2_with fail
        go_roundg (l.length - (j + 1))
        case measure => have := HG.out; omega
        case rel =>
          have hj1 := HJ.out
          refine ⟨j + 1, by omega, rfl, by subst hj1; go_num, fun i h hi => ?_, UU.out.drewN _⟩
          by_cases e : i = j
          · subst e; rw [← HE.out hlt]; exact HX.out
          · exact EQ.out i h (by omega)
      · have hxb : decide (l[j1] ≤ l[j]) = true := decide_eq_true (by omega)
        have HN := hid (show ¬ ascP l from fun h => by
          have := (asc_idx l).1 h j (by have := HJ.out; omega)
          rw [← HE.out hlt] at this
          exact hx this)
        clear hx
        go_wp2_with fail
        go_quiet (fail)
        go_wp2_with fail
        go_ret
        exact ⟨ret_f HN.out, UU.out.drewN _⟩
    · have HY := hid (show ascP l from (asc_idx l).2 fun i h => EQ.out i h (by omega))
      have hlti : ¬ (j1 : Int) < l.length := by omega
      clear hj1
      go_wp2_with fail
      go_ret
      exact ⟨ret_t HY.out, UU.out⟩

set_option maxHeartbeats 1000000 in
theorem keys_any (A : Nat → Prop) (v : Value) (l : List Int) (w : World) (hl : kInts.rep A w [v] l) :
    Calls Tryz.prog 64 #[v] w fun e w' => e = .returned (.bool (decide (keysP l))) ∧ Upd (fun _ => False) w w' := by
  have HL := hid hl
  obtain ⟨a, cap, rfl, p1, p2, p3⟩ := slice_open hl
  have p2 : cap ≤ 9223372036854775807 := p2
  have H := hid p3
  clear hl p3
  by_cases h0 : 0 < l.length
  case neg =>
    have hn : l = [] := List.length_eq_zero_iff.1 (by omega)
    subst hn
    clear h0
    go_enter Tryz.func64, Tryz.ntmps64
    go_wp2_with fail
    go_ret
    exact ⟨ret_f fun h => h.1 rfl, Upd.refl _ _⟩
  have hn := hid (show l ≠ [] from fun e => by rw [e] at h0; exact absurd h0 (Nat.lt_irrefl 0))
  have h0i : (0 : Int) < l.length := by omega
  obtain ⟨b, o, rfl, hb, hel⟩ := H.out h0
  obtain ⟨j, hj⟩ : ∃ j, l.length = j + 1 := ⟨l.length - 1, by omega⟩
  have hjl : j < l.length := by omega
  have m1 := int_cells hel h0
  have m2 := int_cells hel hjl
  rw [Nat.add_zero] at m1
  have gs2 : (l.length : Int) - 1 = (j : Int) := by omega
  have gs : IntKind.i64.wrap ((l.length : Int) - 1) = (j : Int) := by rw [gs2]; exact IntWalk.i64_in _ (by omega)
  have e1 := hid (show l.headD 0 = l[0] by cases l with | nil => exact absurd rfl hn.out | cons a r => rfl)
  have e2 := hid (show l.getLastD 0 = l[j] by
    rw [List.getLastD_eq_getLast?, List.getLast?_eq_getElem?]
    rw [show l.length - 1 = j by omega, List.getElem?_eq_getElem hjl]; rfl)
  generalize l[0] = x0 at *
  generalize l[j] = xj at *
  have HJ := hid hj
  have hB := World.block_lt_of_cell? _ _ m1
  dsimp only at hB
  clear hel hj
  go_enter Tryz.func64, Tryz.ntmps64
  go_wp2_with (first
    | (go_at_call 58; refine (key_any _ _).mono ?_; rintro e w' ⟨rfl, rfl⟩)
    | (go_at_call 61; refine (asc_any A _ l _ HL.out).mono ?_; rintro e w1 ⟨rfl, u⟩; have U := hid u; obtain ⟨hc, hf⟩ := ucell u; clear u))
  all_goals
    go_ret
    have f1 := hn.out; have f2 := e1.out; have f3 := e2.out
    refine ⟨?_, by first | exact U.out | exact Upd.refl _ _⟩
    first
      | exact ret_dec (by unfold keysP; rw [f2, f3]; constructor <;> intro h <;> simp_all <;> omega)
      | exact ret_f (by unfold keysP; rw [f2, f3]; rintro ⟨g1, g2, g3, g4, g5⟩; first | omega | exact absurd g3 ‹_› | exact absurd g4 ‹_› | exact absurd g5 ‹_›)
      | exact ret_b (by unfold keysP; rw [f2, f3]; simp_all)
end Go.Proofs.YtdcahnkcnbhknaaGreatDoor
namespace Go.Proofs.YtdcahnkcnbhknaaGreatDoor
open Go.RowKit Go.Deep

def flatS (l : List Sp) : List Value := (l.map spCells).flatten
theorem flatS_cons (s : Sp) (l : List Sp) : flatS (s :: l) = .int .i64 s.mark :: .int .i64 s.fr :: .int .i64 s.to :: flatS l := rfl
theorem flatS_append (a b : List Sp) : flatS (a ++ b) = flatS a ++ flatS b := by unfold flatS; rw [List.map_append, List.flatten_append]
theorem flatS_len : ∀ l : List Sp, (flatS l).length = l.length * 3
  | [] => rfl
  | s :: l => by rw [flatS_cons]; simp only [List.length_cons]; rw [flatS_len l]; omega
theorem flatS_get : ∀ (l : List Sp) (i : Nat) (h : i < l.length), (flatS l)[i * 3]? = some (.int .i64 l[i].mark) ∧ (flatS l)[i * 3 + 1]? = some (.int .i64 l[i].fr) ∧ (flatS l)[i * 3 + 2]? = some (.int .i64 l[i].to)
  | [], i, h => absurd h (Nat.not_lt_zero _)
  | s :: l, 0, _ => ⟨rfl, rfl, rfl⟩
  | s :: l, i + 1, h => by
    have := flatS_get l i (by simpa using h)
    rw [flatS_cons, show (i + 1) * 3 = i * 3 + 1 + 1 + 1 by omega]
    simpa using this
theorem flatS_set : ∀ (l : List Sp) (i : Nat) (s : Sp), i < l.length → flatS (l.set i s) = (((flatS l).set (i * 3) (.int .i64 s.mark)).set (i * 3 + 1) (.int .i64 s.fr)).set (i * 3 + 2) (.int .i64 s.to)
  | [], i, _, h => absurd h (Nat.not_lt_zero _)
  | t :: l, 0, s, _ => rfl
  | t :: l, i + 1, s, h => by
    have := flatS_set l i s (by simpa using h)
    rw [List.set_cons_succ, flatS_cons, flatS_cons, this, show (i + 1) * 3 = i * 3 + 1 + 1 + 1 by omega]
    rfl
/-- Block g holds these spans, and behind them other cells. -/
def SpBlk (w : World) (g : Nat) (l : List Sp) (rest : List Value) : Prop := w.heap[g]? = some (.cells (flatS l ++ rest).toArray 39 (0, 0))
theorem SpBlk.lt {w : World} {g : Nat} {l : List Sp} {rest : List Value} (h : SpBlk w g l rest) : g < w.heap.size := heap_lt h
theorem SpBlk.cell {w : World} {g : Nat} {l : List Sp} {rest : List Value} (h : SpBlk w g l rest) {i : Nat} (hi : i < l.length) :
    w.cell? ⟨g, i * 3, none⟩ = some (.int .i64 l[i].mark) ∧ w.cell? ⟨g, i * 3 + 1, none⟩ = some (.int .i64 l[i].fr) ∧ w.cell? ⟨g, i * 3 + 2, none⟩ = some (.int .i64 l[i].to) := by
  obtain ⟨h1, h2, h3⟩ := flatS_get l i hi
  have hl := flatS_len l
  refine ⟨?_, ?_, ?_⟩
  · rw [cell_of_block h, List.getElem?_toArray, List.getElem?_append_left (by omega)]; exact h1
  · rw [cell_of_block h, List.getElem?_toArray, List.getElem?_append_left (by omega)]; exact h2
  · rw [cell_of_block h, List.getElem?_toArray, List.getElem?_append_left (by omega)]; exact h3
theorem SpBlk.frozen {w : World} {g : Nat} {l : List Sp} {rest : List Value} (h : SpBlk w g l rest) (k : Nat) : w.frozen? ⟨g, k, none⟩ = false := frozen_of_block h
theorem SpBlk.upd {S : Nat → Prop} {w w' : World} {g : Nat} {l : List Sp} {rest : List Value} (h : SpBlk w g l rest) (u : Upd S w w') (hg : ¬ S g) : SpBlk w' g l rest := (u.block g h.lt hg).trans h
theorem SpBlk.set {w : World} {g : Nat} {l : List Sp} {rest : List Value} (h : SpBlk w g l rest) {i : Nat} (hi : i < l.length) (s : Sp) :
    SpBlk (((w.setCell ⟨g, i * 3, none⟩ (.int .i64 s.mark)).setCell ⟨g, i * 3 + 1, none⟩ (.int .i64 s.fr)).setCell ⟨g, i * 3 + 2, none⟩ (.int .i64 s.to)) g (l.set i s) rest := by
  have hl := flatS_len l
  have h1 := heap_setCell_same (p := ⟨g, i * 3, none⟩) (u := .int .i64 s.mark) rfl h
  have h2 := heap_setCell_same (p := ⟨g, i * 3 + 1, none⟩) (u := .int .i64 s.fr) rfl h1
  have h3 := heap_setCell_same (p := ⟨g, i * 3 + 2, none⟩) (u := .int .i64 s.to) rfl h2
  unfold SpBlk
  rw [h3, flatS_set l i s hi]
  congr 2
  simp only [List.setIfInBounds_toArray]
  rw [List.set_append_left _ _ (by omega), List.set_append_left _ _ (by rw [List.length_set]; omega), List.set_append_left _ _ (by rw [List.length_set, List.length_set]; omega)]
/-- One field of a span. -/
theorem SpBlk.setTo {w : World} {g : Nat} {l : List Sp} {rest : List Value} (h : SpBlk w g l rest) {i : Nat} (hi : i < l.length) (x : Int) :
    SpBlk (w.setCell ⟨g, i * 3 + 2, none⟩ (.int .i64 x)) g (l.set i ⟨l[i].mark, l[i].fr, x⟩) rest := by
  have hl := flatS_len l
  have h1 := heap_setCell_same (p := ⟨g, i * 3 + 2, none⟩) (u := .int .i64 x) rfl h
  obtain ⟨g1, g2, g3⟩ := flatS_get l i hi
  unfold SpBlk
  rw [h1, flatS_set l i _ hi]
  congr 2
  simp only [List.setIfInBounds_toArray]
  rw [List.set_append_left _ _ (by omega)]
  obtain ⟨k1, e1⟩ := List.getElem?_eq_some_iff.1 g1
  obtain ⟨k2, e2⟩ := List.getElem?_eq_some_iff.1 g2
  have s1 : (flatS l).set (i * 3) (.int .i64 l[i].mark) = flatS l := by rw [← e1]; exact List.set_getElem_self k1
  have s2 : (flatS l).set (i * 3 + 1) (.int .i64 l[i].fr) = flatS l := by rw [← e2]; exact List.set_getElem_self k2
  rw [s1, s2]
theorem SpBlk.elems {A : Nat → Prop} {w : World} {g : Nat} {l : List Sp} {rest : List Value} (h : SpBlk w g l rest) (hw : ∀ s ∈ l, SpWf s) : Elems kSp A w g 0 l := fun i hi =>
  ⟨_, sp_rep (hw _ (List.getElem_mem hi)), fun j hj => by
    obtain ⟨h1, h2, h3⟩ := h.cell hi
    have hj : j < 3 := hj
    have : j = 0 ∨ j = 1 ∨ j = 2 := by omega
    rw [show kSp.size = 3 from rfl, Nat.zero_add]
    rcases this with rfl | rfl | rfl
    · exact h1
    · exact h2
    · exact h3⟩
theorem SpBlk.rep {A : Nat → Prop} {w : World} {g cap : Nat} {l : List Sp} {rest : List Value} (h : SpBlk w g l rest) (hw : ∀ s ∈ l, SpWf s) (hc : l.length ≤ cap) (hm : cap ≤ maxLen) (hA : A g) : kSps.rep A w [.slice (some ⟨g, 0, none⟩) l.length cap] l :=
  .inr ⟨g, 0, cap, rfl, hc, hm, hA, h.elems hw⟩
/-- An owned row is such a block. -/
theorem own_blk {w : World} {base : Nat} {v : Value} {l : List Sp} (h : w.ownsRow base 39 3 v l.length (flatS l)) : (v = .slice none 0 0 ∧ l = []) ∨ ∃ g cap rest, v = .slice (some ⟨g, 0, none⟩) l.length cap ∧ base ≤ g ∧ l.length ≤ cap ∧ cap ≤ maxLen ∧ rest.length + l.length * 3 = cap * 3 ∧ SpBlk w g l rest := by
  obtain ⟨h1, ⟨h2, h3⟩ | ⟨g, cap, cur, hv, hb, hg, hn, hc, hs, ht⟩⟩ := h
  · exact .inl ⟨h2, List.length_eq_zero_iff.1 h3⟩
  · have hlen : cur.toList.length = cap * 3 := by simpa using hs
    refine .inr ⟨g, cap, cur.toList.drop (l.length * 3), hv, hb, hn, hc, ?_, ?_⟩
    · rw [List.length_drop, hlen]
      have := Nat.mul_le_mul_right 3 hn
      omega
    · unfold SpBlk
      rw [hg]
      congr 2
      rw [← ht, List.take_append_drop]
theorem blk_own {w : World} {base g cap : Nat} {l : List Sp} {rest : List Value} (h : SpBlk w g l rest) (hb : base ≤ g) (hn : l.length ≤ cap) (hc : cap ≤ maxLen) (hr : rest.length + l.length * 3 = cap * 3) : w.ownsRow base 39 3 (.slice (some ⟨g, 0, none⟩) l.length cap) l.length (flatS l) := by
  have hl := flatS_len l
  refine ⟨hl, .inr ⟨g, cap, (flatS l ++ rest).toArray, rfl, hb, h, hn, hc, ?_, ?_⟩⟩
  · simp; omega
  · rw [List.toList_toArray, ← hl, List.take_left']
    rfl
end Go.Proofs.YtdcahnkcnbhknaaGreatDoor
namespace Go.Proofs.YtdcahnkcnbhknaaGreatDoor
open Go.RowKit Go.Deep

theorem elemSp : ElemTy Tryz.prog 23 39 3 24 := .mk' Tryz.underlying23 (z := .agg #[.int .i64 0, .int .i64 0, .int .i64 0]) (by kernel_rfl) (by rfl) (by decide)
theorem flatS_one (l : List Sp) : ∀ u ∈ flatS l, u.oneCell' = true := by
  intro u hu
  unfold flatS at hu
  obtain ⟨cs, hcs, hu⟩ := List.mem_flatten.1 hu
  obtain ⟨s, _, rfl⟩ := List.mem_map.1 hcs
  simp [spCells] at hu
  rcases hu with rfl | rfl | rfl <;> rfl
/-- The cells of a slice of spans. -/
theorem sps_cells {A : Nat → Prop} {w : World} {ad : Addr} {c : Nat} {l : List Sp} (h : kSps.rep A w [.slice (some ad) l.length c] l) : ∀ j u, (flatS l)[j]? = some u → w.cell? (ad.add j) = some u := by
  intro j u hj
  have hjl := (List.getElem?_eq_some_iff.1 hj).1
  rw [flatS_len] at hjl
  obtain ⟨b, o, e, _, hel⟩ := slice_at h (by omega)
  injection e with e
  subst e
  obtain ⟨i, r, hr, rfl⟩ : ∃ i r, r < 3 ∧ j = i * 3 + r := ⟨j / 3, j % 3, by omega, by omega⟩
  obtain ⟨_, h0, h1, h2⟩ := sp_cells hel (i := i) (by omega)
  obtain ⟨g0, g1, g2⟩ := flatS_get l i (by omega)
  rw [Addr.add_lit]
  have hm : r = 0 ∨ r = 1 ∨ r = 2 := by omega
  rcases hm with rfl | rfl | rfl
  · rw [Nat.add_zero] at hj ⊢; rw [← hj, g0]; exact h0
  · rw [← hj, g1, ← Nat.add_assoc]; exact h1
  · rw [← hj, g2, ← Nat.add_assoc]; exact h2
/-- A new slice of these spans. -/
def SpsPost (r : List Sp) (w : World) (e : Ending) (w' : World) : Prop := ∃ v, e = .returned v ∧ w'.ownsRow w.heap.size 39 3 v r.length (flatS r) ∧ Upd (fun _ => False) w w'
theorem sps_own_rep {A : Nat → Prop} {w : World} {base : Nat} {v : Value} {l : List Sp} (h : w.ownsRow base 39 3 v l.length (flatS l)) (hw : ∀ s ∈ l, SpWf s) (hA : ∀ g, v.ownBlock = some g → A g) : kSps.rep A w [v] l := by
  rcases own_blk h with ⟨rfl, rfl⟩ | ⟨g, cap, rest, rfl, _, hc, hm, _, hb⟩
  · exact .inl ⟨none, 0, rfl, Nat.zero_le _, rfl⟩
  · exact hb.rep hw hc hm (hA g rfl)
theorem own_new {w : World} {base : Nat} {v : Value} {n : Nat} {xs : List Value} {e : TypeId} {size : Nat} (h : w.ownsRow base e size v n xs) : ∀ g, v.ownBlock = some g → g < w.heap.size := by
  intro g hg
  rcases ownsRow_fits h with ⟨rfl, _⟩ | ⟨g', cap, rfl, _, hl, _⟩
  · cases hg
  · injection hg with hg; subst hg; exact hl
theorem ok_wf {s : Sp} (h : s.Ok) : SpWf s := by
  unfold Sp.Ok at h
  exact ⟨iwf (by omega), iwf (by omega), iwf (by omega)⟩
theorem norm_ok (l : List Sp) : ∀ s ∈ normF l, s.Ok := (norm_spec l).1.ok
theorem merge_hit {O : List Sp} {t x : Sp} {r : List Sp} {m : Nat} (hm : O.length = m + 1) (ht : O[m]'(by omega) = t) (h : t.mark = x.mark ∧ x.fr ≤ t.to) : mergeTo O (x :: r) = mergeTo (O.set m ⟨t.mark, t.fr, max t.to x.to⟩) r := by
  have hg : O.getLast? = some t := by rw [List.getLast?_eq_getElem?, hm, Nat.add_sub_cancel, List.getElem?_eq_getElem (by omega), ht]
  conv => lhs; unfold mergeTo
  simp only [hg]
  rw [if_pos h]
  congr 1
  rw [List.set_eq_take_append_cons_drop, if_pos (by omega), List.drop_eq_nil_of_le (by omega), List.dropLast_eq_take, hm, Nat.add_sub_cancel]
theorem merge_miss {O : List Sp} {t x : Sp} {r : List Sp} {m : Nat} (hm : O.length = m + 1) (ht : O[m]'(by omega) = t) (h : ¬ (t.mark = x.mark ∧ x.fr ≤ t.to)) : mergeTo O (x :: r) = mergeTo (O ++ [x]) r := by
  have hg : O.getLast? = some t := by rw [List.getLast?_eq_getElem?, hm, Nat.add_sub_cancel, List.getElem?_eq_getElem (by omega), ht]
  conv => lhs; unfold mergeTo
  simp only [hg]
  rw [if_neg h]
theorem merge_first (x : Sp) (r : List Sp) : mergeTo [] (x :: r) = mergeTo [x] r := rfl
/-- The cells of spans that the call owns, whatever their number. -/
theorem own_cells {w : World} {base : Nat} {v : Value} {l : List Sp} (h : w.ownsRow base 39 3 v l.length (flatS l)) : ∃ a c, v = .slice a l.length c ∧ l.length ≤ c ∧ c ≤ maxLen ∧ ∀ i (hi : i < l.length), ∃ g, a = some ⟨g, 0, none⟩ ∧ base ≤ g ∧ g < w.heap.size ∧
    w.cell? ⟨g, i * 3, none⟩ = some (.int .i64 l[i].mark) ∧ w.cell? ⟨g, i * 3 + 1, none⟩ = some (.int .i64 l[i].fr) ∧ w.cell? ⟨g, i * 3 + 2, none⟩ = some (.int .i64 l[i].to) := by
  rcases own_blk h with ⟨rfl, rfl⟩ | ⟨g, cap, rest, rfl, hb, hc, hm, _, hbl⟩
  · exact ⟨none, 0, rfl, Nat.le_refl _, Nat.zero_le _, fun i hi => absurd hi (Nat.not_lt_zero _)⟩
  · exact ⟨_, cap, rfl, hc, hm, fun i hi => ⟨g, rfl, hb, hbl.lt, hbl.cell hi⟩⟩
theorem own_base {w : World} {b b' : Nat} {e : TypeId} {size : Nat} {v : Value} {n : Nat} {xs : List Value} (h : w.ownsRow b e size v n xs) (hb : b' ≤ b) : w.ownsRow b' e size v n xs := by
  obtain ⟨h1, h2 | ⟨g, cap, cur, h3, h4, h5⟩⟩ := h
  · exact ⟨h1, .inl h2⟩
  · exact ⟨h1, .inr ⟨g, cap, cur, h3, Nat.le_trans hb h4, h5⟩⟩
theorem append_none {P : Program} {w : World} {base n c : Nat} {t ty e : TypeId} {size bytes : Nat} (T : ElemTy P t e size bytes) {v : Value} {xs : List Value} (hown : w.ownsRow base e size v n xs) :
    (Builtin.append_ #[t, t] ty #[v, .slice none 0 c]).run P w = .ok v w := by
  obtain ⟨ht, ⟨i, z, hi, _⟩, _⟩ := T
  rcases hown.2 with ⟨rfl, rfl⟩ | ⟨g, cap, cur, rfl, _, _, hnc, _⟩
  · simp [Builtin.append_, run_underlying ht, sizeOf, typeInfo, hi, Builtin.lenOf, Builtin.firstCells]
  · simp [Builtin.append_, run_underlying ht, sizeOf, typeInfo, hi, Builtin.lenOf, Builtin.firstCells, hnc, storeCells]
theorem sps_none {A : Nat → Prop} {w : World} {c : Nat} {l : List Sp} (h : kSps.rep A w [.slice none l.length c] l) : l = [] := by
  rcases Nat.eq_zero_or_pos l.length with h0 | h0
  · exact List.length_eq_zero_iff.1 h0
  · obtain ⟨_, _, e, _⟩ := slice_at h h0; cases e
theorem sps_wf {A : Nat → Prop} {w : World} {v : Value} {l : List Sp} (h : kSps.rep A w [v] l) : ∀ s ∈ l, SpWf s := by
  intro s hs
  obtain ⟨i, hi, rfl⟩ := List.mem_iff_getElem.1 hs
  obtain ⟨a, c, _, _, _, h3⟩ := slice_open h
  obtain ⟨b, o, _, _, hel⟩ := h3 (by omega)
  exact (sp_cells hel hi).1
/-- An append of all spans of a slice. -/
theorem append_src {A : Nat → Prop} {w : World} {base n : Nat} {v : Value} {xs : List Value} (hown : w.ownsRow base 39 3 v n xs) (a : Option Addr) (c : Nat) (l : List Sp) (h : kSps.rep A w [.slice a l.length c] l) (hn : n + l.length ≤ 1000000) (hb : base ≤ w.heap.size) :
    ∃ v' w', (Builtin.append_ #[23, 23] 23 #[v, .slice a l.length c]).run Tryz.prog w = .ok v' w' ∧ w'.ownsRow base 39 3 v' (n + l.length) (xs ++ flatS l) ∧ w.grownBy w' v.ownBlock := by
  cases a with
  | none =>
    obtain rfl := sps_none h
    exact ⟨v, w, append_none elemSp hown, by simpa [flatS] using hown, ⟨rfl, rfl, rfl, Nat.le_refl _, fun _ _ _ => rfl⟩⟩
  | some ad =>
    obtain ⟨v', w', hr, ho, hg, _⟩ := append_own2 elemSp hown ad l.length c (flatS l) (by rw [flatS_len]) (sps_cells h) (flatS_one l) (by unfold maxLen; omega) (by omega) hb 23
    exact ⟨v', w', hr, ho, hg⟩
end Go.Proofs.YtdcahnkcnbhknaaGreatDoor
