/- GameMoves: a copy of a row of nodes. -/
import Derived.Test.YtmjjfafkmfcpnaaGmM0
namespace Go.Proofs.Ytmjjfafkmfcpnaa
open Go.RowKit Go.Deep

/-- The slices of the moves, node for node. -/
theorem nds_list {A : Nat → Prop} {w : World} {b o : Nat} : ∀ (n : Nat) {l : List Nd}, n ≤ l.length → Elems kNd A w b o l → ∃ vs : List Value, vs.length = n ∧ ∀ i (h : i < vs.length) (h' : i < l.length),
    w.cell? ⟨b, o + i * 2, none⟩ = some (.bool l[i].mine) ∧ w.cell? ⟨b, o + i * 2 + 1, none⟩ = some vs[i] ∧ (kSlice kMv).rep A w [vs[i]] l[i].moves
  | 0, _, _, _ => ⟨[], rfl, fun i h => absurd h (Nat.not_lt_zero _)⟩
  | n + 1, l, hn, hel => by
    obtain ⟨vs, h1, h2⟩ := nds_list n (by omega) hel
    obtain ⟨v, c0, c1, hr⟩ := nd_cells hel (i := n) (by omega)
    refine ⟨vs ++ [v], by simp [h1], fun i h h' => ?_⟩
    by_cases hi : i < vs.length
    · rw [List.getElem_append_left hi]; exact h2 i hi h'
    · obtain rfl : i = vs.length := by simp at h; omega
      subst h1
      rw [List.getElem_append_right (Nat.le_refl _)]
      simp only [Nat.sub_self, List.getElem_cons_zero]
      exact ⟨c0, c1, hr⟩
theorem slice_one {α : Type} {K : Knd α} {A : Nat → Prop} {w : World} {v : Value} {l : List α} (h : (kSlice K).rep A w [v] l) : v.oneCell' = true := by
  obtain ⟨a, cap, rfl, _⟩ := slice_open h
  rfl
/-- The copy of a row of nodes, appended to an empty row: a new row with the same cells. -/
theorem clone_nds {w : World} {b o : Nat} {l : List Nd} {vs : List Value} {c : Nat} (hlen : vs.length = l.length) (hl : l.length ≤ 3000)
    (hc : ∀ i (h : i < vs.length) (h' : i < l.length), w.cell? ⟨b, o + i * 2, none⟩ = some (.bool l[i].mine) ∧ w.cell? ⟨b, o + i * 2 + 1, none⟩ = some vs[i] ∧ vs[i].oneCell' = true) (hb : b < w.heap.size) :
    ∃ v' w', (Builtin.append_ #[22, 22] 22 #[.slice (some ⟨w.heap.size, 0, none⟩) 0 0, .slice (some ⟨b, o, none⟩) l.length c]).run Try.prog (w.alloc (.cells #[] 41 (0, 0))) = .ok v' w' ∧
      w'.ownsRow w.heap.size 41 2 v' l.length (pairs ((l.map fun n => Value.bool n.mine).zip vs)) ∧ Upd (fun _ => False) w w' := by
  have hown : (w.alloc (.cells #[] 41 (0, 0))).ownsRow w.heap.size 41 2 (.slice (some ⟨w.heap.size, 0, none⟩) 0 0) 0 [] :=
    ⟨rfl, .inr ⟨w.heap.size, 0, #[], rfl, Nat.le_refl _, heap_alloc_new, Nat.le_refl _, Nat.zero_le _, rfl, rfl⟩⟩
  have hzl : ((l.map fun n => Value.bool n.mine).zip vs).length = l.length := by simp [hlen]
  obtain ⟨v', w', r, h2, h3, h4⟩ := append_own2 elemNd hown ⟨b, o, none⟩ l.length c (pairs ((l.map fun n => Value.bool n.mine).zip vs)) (by rw [pairs_len, hzl]) (fun j u hj => by
    have hjl : j < l.length * 2 := by
      have := (List.getElem?_eq_some_iff.1 hj).1
      rw [pairs_len, hzl] at this; exact this
    have hi : j / 2 < l.length := by omega
    obtain ⟨c0, c1, _⟩ := hc (j / 2) (by omega) hi
    obtain ⟨q0, q1⟩ := pairs_at ((l.map fun n => Value.bool n.mine).zip vs) (j / 2) (by omega)
    rw [List.getElem_zip, List.getElem_map] at q0 q1
    have e1 : Addr.add ⟨b, o, none⟩ j = ⟨b, o + j, none⟩ := by unfold Addr.add; split <;> simp_all
    rw [e1]
    have k : ∀ x, (w.alloc (.cells #[] 41 (0, 0))).cell? ⟨b, x, none⟩ = w.cell? ⟨b, x, none⟩ := fun x => by
      have hh : (w.alloc (.cells #[] 41 (0, 0))).heap[b]? = w.heap[b]? := ((Upd.refl (fun _ => False) w).alloc (.cells #[] 41 (0, 0))).block b hb id
      cases hx : w.cell? ⟨b, x, none⟩ with
      | some y => exact cell_kept hx hh
      | none =>
        cases hy : (w.alloc (.cells #[] 41 (0, 0))).cell? ⟨b, x, none⟩ with
        | none => rfl
        | some y => rw [cell_kept hy hh.symm] at hx; cases hx
    rw [k]
    rcases Nat.mod_two_eq_zero_or_one j with h | h
    · have e : j = j / 2 * 2 := by omega
      rw [show o + j = o + j / 2 * 2 by omega, c0]
      rw [e, q0] at hj; exact hj
    · have e : j = j / 2 * 2 + 1 := by omega
      rw [show o + j = o + j / 2 * 2 + 1 by omega, c1]
      rw [e, q1] at hj; exact hj) (fun u hu => by
    obtain ⟨p, hp, hup⟩ := List.mem_flatMap.1 hu
    obtain ⟨i, hi, rfl⟩ := List.mem_iff_getElem.1 hp
    rw [hzl] at hi
    rw [List.getElem_zip, List.getElem_map] at hup
    simp only [List.mem_cons, List.not_mem_nil, or_false] at hup
    rcases hup with rfl | rfl
    · rfl
    · exact (hc i (by omega) hi).2.2) (by unfold maxLen; omega) (by omega) (by simp) 22
  rw [Nat.zero_add] at h2
  refine ⟨v', w', r, h2, ?_⟩
  exact ((Upd.refl (fun _ => False) w).alloc _).grown h3 fun k hk => .inr (by have hk' : some w.heap.size = some k := hk; injection hk' with hk'; omega)
end Go.Proofs.Ytmjjfafkmfcpnaa
