/- A new slice of numbers takes two lists, one after the other: append(append([]int{}, a...), b...). -/
import Derived.Test.YtalhmpggpjbeaaaGreatDoorCDgEntry
namespace Go.Proofs.YtalhmpggpjbeaaaGreatDoor
open Go.RowKit Go.Deep

theorem own_emptyI (w : World) : (w.alloc (.cells #[] 3 (0, 0))).ownsRow w.heap.size 3 1 (.slice (some ⟨w.heap.size, 0, none⟩) 0 0) 0 [] :=
  ⟨rfl, .inr ⟨_, 0, #[], rfl, Nat.le_refl _, heap_alloc_new, Nat.le_refl _, Nat.zero_le _, rfl, rfl⟩⟩
theorem ints_none {A : Nat → Prop} {w : World} {c : Nat} {l : List Int} (h : kInts.rep A w [.slice none l.length c] l) : l = [] := by
  rcases Nat.eq_zero_or_pos l.length with h0 | h0
  · exact List.length_eq_zero_iff.1 h0
  · obtain ⟨_, _, e, _⟩ := slice_at h h0; cases e
/-- An append of all numbers of a slice. -/
theorem append_srcI {A : Nat → Prop} {w : World} {base n : Nat} {v : Value} {xs : List Value} (hown : w.ownsRow base 3 1 v n xs) (a : Option Addr) (c : Nat) (l : List Int) (h : kInts.rep A w [.slice a l.length c] l) (hn : n + l.length ≤ 1000000) (hb : base ≤ w.heap.size) :
    ∃ v' w', (Builtin.append_ #[31, 31] 31 #[v, .slice a l.length c]).run Tryz.prog w = .ok v' w' ∧ w'.ownsRow base 3 1 v' (n + l.length) (xs ++ l.map fun x => Value.int .i64 x) ∧ w.grownBy w' v.ownBlock := by
  cases a with
  | none =>
    obtain rfl := ints_none h
    exact ⟨v, w, append_none elemI hown, by simpa using hown, ⟨rfl, rfl, rfl, Nat.le_refl _, fun _ _ _ => rfl⟩⟩
  | some ad =>
    obtain ⟨v', w', hr, ho, hg, _⟩ := append_own2 elemI hown ad l.length c (l.map fun x => Value.int .i64 x) (by simp) (ints_cells h) (by simp [Value.oneCell']) (by unfold maxLen; omega) (by omega) hb 31
    exact ⟨v', w', hr, ho, hg⟩
/-- Two lists in a new slice. -/
theorem both_ints {A : Nat → Prop} (a1 a2 : Option Addr) (c1 c2 : Nat) (l1 l2 : List Int) (w : World) (hA : ∀ g, A g → g < w.heap.size) (h1 : kInts.rep A w [.slice a1 l1.length c1] l1) (h2 : kInts.rep A w [.slice a2 l2.length c2] l2) (hl : l1.length + l2.length ≤ 1000000) :
    ∃ v1 w1 v2 w2, (Builtin.append_ #[31, 31] 31 #[.slice (some ⟨w.heap.size, 0, none⟩) 0 0, .slice a1 l1.length c1]).run Tryz.prog (w.alloc (.cells #[] 3 (0, 0))) = .ok v1 w1 ∧
      (Builtin.append_ #[31, 31] 31 #[v1, .slice a2 l2.length c2]).run Tryz.prog w1 = .ok v2 w2 ∧
      w2.ownsRow w.heap.size 3 1 v2 (l1 ++ l2).length ((l1 ++ l2).map fun x => Value.int .i64 x) ∧ Upd (fun _ => False) w w2 := by
  have u0 : Upd (w.heap.size ≤ ·) w (w.alloc (.cells #[] 3 (0, 0))) := (Upd.refl _ _).alloc _
  have off : ∀ {w' : World}, Upd (w.heap.size ≤ ·) w w' → Same A w w' := fun u => Same.of_upd u fun g hg hh => absurd (hA g hg) (Nat.not_lt_of_le hh)
  obtain ⟨v1, w1, r1, o1, g1⟩ := append_srcI (own_emptyI w) a1 c1 l1 (kInts.keep h1 (off u0)) (by omega) u0.size
  have u1 := u0.grown g1 fun k hk => .inl ((own_emptyI w).lt k hk).1
  obtain ⟨v2, w2, r2, o2, g2⟩ := append_srcI o1 a2 c2 l2 (kInts.keep h2 (off u1)) (by omega) u1.size
  have hlt := o1.lt
  have u2 := u1.grown g2 fun k hk => .inl (hlt k hk).1
  have o2 : w2.ownsRow w.heap.size 3 1 v2 (l1 ++ l2).length ((l1 ++ l2).map fun x => Value.int .i64 x) := by
    have := o2
    rw [List.nil_append, ← List.map_append, Nat.zero_add, ← List.length_append] at this
    exact this
  exact ⟨v1, w1, v2, w2, r1, r2, o2, (Upd.refl (fun _ => False) w).comp u2 fun i hi e => by omega⟩
end Go.Proofs.YtalhmpggpjbeaaaGreatDoor
