/- Rows of strings and of numbers that a store owns. -/
import Derived.Test.YtlefilfdomjkeaaGreatDoorWrC3
import Derived.Test.YtlefilfdomjkeaaGreatDoorFlA4
import Derived.Deep.Onto
import Derived.ArgAppend
namespace Go.Proofs.YtlefilfdomjkeaaGreatDoor
open Go.RowKit Go.Deep Go.ChangeShapes Go.WideShapes

/-- Block k has two cells or more. -/
def Big (w : World) (k : Nat) : Prop := ∃ cur t fr, w.heap[k]? = some (.cells cur t fr) ∧ 2 ≤ cur.size
theorem Big.noStr {w : World} {k : Nat} (h : Big w k) : NoStr w k := by
  obtain ⟨cur, t, fr, h1, h2⟩ := h
  intro s e
  rw [h1] at e
  injection e with e
  injection e with e _ _
  subst e
  simp at h2
/-- A row of one-cell elements that is the owner's: an empty one has no room. -/
structure Own1 (e : TypeId) (w : World) (v : Value) (n : Nat) (xs : List Value) : Prop where
  own : w.ownsRow 0 e 1 v n xs
  zero : n = 0 → ∃ a, v = .slice a 0 0
theorem Own1.nil (e : TypeId) (w : World) : Own1 e w (.slice none 0 0) 0 [] := ⟨World.ownsRow_nil _ _ _ _, fun _ => ⟨none, rfl⟩⟩
theorem Own1.upd {S : Nat → Prop} {w w' : World} {e : TypeId} {v : Value} {n : Nat} {xs : List Value} (h : Own1 e w v n xs) (u : Upd S w w') (hS : ∀ g, v.ownBlock = some g → ¬ S g) : Own1 e w' v n xs :=
  ⟨ownsRow_upd h.own u hS, h.zero⟩
theorem Own1.fits {e : TypeId} {w : World} {v : Value} {n : Nat} {xs : List Value} (h : Own1 e w v n xs) : ∃ a cap, v = .slice a n cap ∧ n ≤ cap ∧ cap ≤ maxLen := by
  rcases ownsRow_fits h.own with ⟨rfl, rfl⟩ | ⟨g, cap, rfl, _, _, h1, h2⟩
  · exact ⟨none, 0, rfl, Nat.le_refl _, by unfold maxLen; omega⟩
  · exact ⟨_, cap, rfl, h1, h2⟩
theorem Own1.lt {e : TypeId} {w : World} {v : Value} {n : Nat} {xs : List Value} (h : Own1 e w v n xs) : ∀ g, v.ownBlock = some g → g < w.heap.size := by
  intro g hg
  rcases ownsRow_fits h.own with ⟨rfl, _⟩ | ⟨g', cap, rfl, _, h1, _⟩
  · cases hg
  · injection hg with hg; rw [← hg]; exact h1
/-- What an owned row holds, cell by cell. -/
theorem Own1.cell {e : TypeId} {w : World} {v : Value} {n : Nat} {xs : List Value} (h : Own1 e w v n xs) (hn : 0 < n) : ∃ g cap, v = .slice (some ⟨g, 0, none⟩) n cap ∧ v.ownBlock = some g ∧ g < w.heap.size ∧ xs.length = n ∧ (∃ cur, w.heap[g]? = some (.cells cur e (0, 0))) ∧ ∀ (j : Nat) u, xs[j]? = some u → w.cell? ⟨g, j, none⟩ = some u := by
  obtain ⟨h1, ⟨rfl, h0⟩ | ⟨g, cap, cur, rfl, _, hg, h3, h4, h5, h6⟩⟩ := h.own
  · omega
  · refine ⟨g, cap, rfl, rfl, heap_lt hg, by simpa using h1, ⟨cur, hg⟩, fun j u hj => ?_⟩
    rw [cell_of_block hg]
    rw [← h6, List.getElem?_take] at hj
    split at hj
    · simpa using hj
    · cases hj
section
variable {P : Program}
/-- One element is appended. -/
theorem Own1.app {t e : TypeId} {bytes : Nat} (T : ElemTy P t e 1 bytes) {w : World} {v : Value} {n : Nat} {xs : List Value} (h : Own1 e w v n xs) (c : Value) (h1 : c.oneCell' = true) {fr : Nat × Nat}
    (h63 : n + 1 ≤ 1000000) (hb : bytes ≤ 100) (ty : TypeId) {b : Nat} (hc : w.heap[b]? = some (.cells #[c] e fr)) :
    ∃ v' w', (Builtin.append_ #[t, t] ty #[v, .slice (some ⟨b, 0, none⟩) 1 1]).run P w = .ok v' w' ∧ Own1 e w' v' (n + 1) (xs ++ [c]) ∧ Upd (fun k => v.ownBlock = some k ∧ Big w k) w w' ∧
      (v'.ownBlock = v.ownBlock ∨ ∃ g, v'.ownBlock = some g ∧ w.heap.size ≤ g) := by
  have hbytes : (n + 1) * bytes ≤ 140737488355328 := Nat.le_trans (Nat.mul_le_mul h63 hb) (by decide)
  have hmax : n + 1 ≤ maxLen := by unfold maxLen; omega
  have hcell : ∀ j u, [c][j]? = some u → w.cell? (Addr.add ⟨b, 0, none⟩ j) = some u := fun j u hu => by
    have e1 : Addr.add ⟨b, 0, none⟩ j = ⟨b, j, none⟩ := by unfold Addr.add; split <;> simp_all
    rw [e1, cell_of_block hc]
    simpa using hu
  have hone : ∀ u ∈ [c], u.oneCell' = true := fun u hu => by rw [List.mem_singleton.1 hu]; exact h1
  have full : ∀ (ha : ∃ a cap, v = .slice a n cap ∧ cap < n + 1), ∃ v' w', (Builtin.append_ #[t, t] ty #[v, .slice (some ⟨b, 0, none⟩) 1 1]).run P w = .ok v' w' ∧ w'.ownsRow w.heap.size e 1 v' (n + 1) (xs ++ [c]) ∧ w.grownBy w' none := by
    rintro ⟨a, cap, rfl, hlt⟩
    obtain ⟨ht, ⟨i, z, hi, hz, hsz, hby, hzs⟩, hpos⟩ := T
    obtain ⟨hx, hr⟩ := h.own
    cases a with
    | none =>
      rcases hr with ⟨e0, rfl⟩ | ⟨g, cap', cur, e0, _⟩
      · injection e0 with _ _ e2
        subst e2
        obtain rfl : xs = [] := List.eq_nil_of_length_eq_zero (by simpa using hx)
        obtain ⟨v', w', hrun, r1, r2, _⟩ := run_append_own (P := P) w w.heap.size t ty e i z 1 bytes ht hi hz hsz hby hzs hpos (.slice none 0 0) 0 [] (World.ownsRow_nil w _ e 1) ⟨b, 0, none⟩ 1 1 [c] rfl hcell hone hmax hbytes (Nat.le_refl _)
        exact ⟨v', w', hrun, r1, r2⟩
      · injection e0 with e0 _ _; cases e0
    | some ad =>
      refine run_append_arg_grows (P := P) w t ty e i z 1 bytes ht hi hz hsz hby hzs hpos ad n cap xs (by simpa using hx) (fun j u hj => ?_) ⟨b, 0, none⟩ 1 1 [c] rfl hcell hlt hmax hbytes
      rcases hr with ⟨e0, _⟩ | ⟨g, cap', cur, e0, _, hg, _, _, _, h6⟩
      · injection e0 with e0 _ _; cases e0
      · injection e0 with e0 _ _
        injection e0 with e0
        subst e0
        have e1 : Addr.add ⟨g, 0, none⟩ j = ⟨g, j, none⟩ := by unfold Addr.add; split <;> simp_all
        rw [e1, cell_of_block hg]
        rw [← h6, List.getElem?_take] at hj
        split at hj
        · simpa using hj
        · cases hj
  have fin : (∃ v' w', (Builtin.append_ #[t, t] ty #[v, .slice (some ⟨b, 0, none⟩) 1 1]).run P w = .ok v' w' ∧ w'.ownsRow w.heap.size e 1 v' (n + 1) (xs ++ [c]) ∧ w.grownBy w' none) →
      ∃ v' w', (Builtin.append_ #[t, t] ty #[v, .slice (some ⟨b, 0, none⟩) 1 1]).run P w = .ok v' w' ∧ Own1 e w' v' (n + 1) (xs ++ [c]) ∧ Upd (fun k => v.ownBlock = some k ∧ Big w k) w w' ∧
      (v'.ownBlock = v.ownBlock ∨ ∃ g, v'.ownBlock = some g ∧ w.heap.size ≤ g) := by
    rintro ⟨v', w', r1, r2, r3⟩
    refine ⟨v', w', r1, ⟨r2.mono (Nat.zero_le _), fun e => (by omega)⟩, (Upd.refl _ w).grown r3 (fun k hk => by cases hk), ?_⟩
    rcases ownsRow_fits r2 with ⟨_, e⟩ | ⟨g, cap, rfl, hg, _⟩
    · omega
    · exact .inr ⟨g, rfl, hg⟩
  rcases ownsRow_fits h.own with ⟨rfl, rfl⟩ | ⟨g, cap, rfl, _, hg, hc1, hc2⟩
  · exact fin (full ⟨none, 0, rfl, by omega⟩)
  · by_cases hroom : n + 1 ≤ cap
    · obtain ⟨v', w', r1, r2, r3, r4⟩ := append_own2 T h.own ⟨b, 0, none⟩ 1 1 [c] rfl hcell hone hmax hbytes (Nat.zero_le _) ty
      have hbig : Big w g := by
        have hn : n ≠ 0 := fun e => by
          obtain ⟨a, e2⟩ := h.zero e
          injection e2 with _ _ e2
          omega
        obtain ⟨_, ⟨e0, _⟩ | ⟨g', cap', cur, e0, _, hg', h3, h4, h5, _⟩⟩ := h.own
        · injection e0 with e0 _ _; cases e0
        · injection e0 with e0 _ e2
          injection e0 with e0
          injection e0 with e0 _ _
          subst e0 e2
          exact ⟨cur, e, (0, 0), hg', by omega⟩
      refine ⟨v', w', r1, ⟨r2, fun e => (by omega)⟩, (Upd.refl _ w).grown r3 (fun k hk => .inl ⟨hk, by injection hk with hk; rw [← hk]; exact hbig⟩), ?_⟩
      rcases r4 with r4 | r4
      · exact .inl r4
      · exact .inr r4
    · exact fin (full ⟨_, cap, rfl, by omega⟩)
end
/-- The value of a string. -/
abbrev strV (s : List UInt8) : Value := .string ⟨s.toArray⟩
abbrev natV (n : Nat) : Value := .int .i64 n
/-- Rows of strings, of positions. -/
def OwnS (w : World) (v : Value) (l : List (List UInt8)) : Prop := Own1 9 w v l.length (l.map strV)
def OwnN (w : World) (v : Value) (l : List Nat) : Prop := Own1 3 w v l.length (l.map natV)
theorem OwnN.noStr {w : World} {v : Value} {l : List Nat} (h : OwnN w v l) : ∀ g, v.ownBlock = some g → NoStr w g := by
  intro g hg
  rcases Nat.eq_zero_or_pos l.length with h0 | h0
  · obtain ⟨_, ⟨rfl, _⟩ | ⟨g', cap, cur, rfl, _, hb, _⟩⟩ := h.own
    · cases hg
    · injection hg with hg
      subst hg
      intro s e
      rw [hb] at e
      injection e with e
      injection e with _ e _
      exact absurd e (by decide)
  · obtain ⟨g', cap, rfl, e1, _, _, ⟨cur, hb⟩, _⟩ := h.cell h0
    rw [e1] at hg
    injection hg with hg
    subst hg
    intro s e
    rw [hb] at e
    injection e with e
    injection e with _ e _
    exact absurd e (by decide)
theorem OwnS.rep {w : World} {v : Value} {l : List (List UInt8)} {A : Nat → Prop} (h : OwnS w v l) (hl : ∀ x ∈ l, x.length ≤ 10000000) (hA : ∀ g, v.ownBlock = some g → A g) : kStrs.rep A w [v] l :=
  ownsRow_rep1 (K := kMap kStr fun l : List UInt8 => (⟨l.toArray⟩ : ByteArray)) rfl strV h.own (fun x hx => strRep x (hl x hx)) hA
end Go.Proofs.YtlefilfdomjkeaaGreatDoor
