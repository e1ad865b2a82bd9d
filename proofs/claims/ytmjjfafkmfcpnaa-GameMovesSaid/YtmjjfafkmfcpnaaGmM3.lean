/- GameMoves: appends to rows of moves, in whatever world. -/
import Derived.Test.YtmjjfafkmfcpnaaGmM2
namespace Go.Proofs.Ytmjjfafkmfcpnaa
open Go.RowKit Go.Deep

/-- A row of moves, appended to an empty row. -/
theorem clone_mvs {w : World} {base gA b o c : Nat} {l : List Mv} (hA : w.heap[gA]? = some (.cells #[] 43 (0, 0))) (hbA : base ≤ gA) (hl : l.length ≤ 3000) (hpos : 0 < l.length) (hbase : base ≤ w.heap.size)
    (hc : ∀ i (h : i < l.length), w.cell? ⟨b, o + i * 2, none⟩ = some (.int .i64 l[i].to) ∧ w.cell? ⟨b, o + i * 2 + 1, none⟩ = some (.int .i64 l[i].gain)) :
    ∃ g cap w', (Builtin.append_ #[39, 39] 39 #[.slice (some ⟨gA, 0, none⟩) 0 0, .slice (some ⟨b, o, none⟩) l.length c]).run Try.prog w = .ok (.slice (some ⟨g, 0, none⟩) l.length cap) w' ∧
      w'.ownsRow base 43 2 (.slice (some ⟨g, 0, none⟩) l.length cap) l.length (pairs (l.map mvCells)) ∧ Upd (· = gA) w w' ∧ (g = gA ∨ w.heap.size ≤ g) := by
  have hown : w.ownsRow base 43 2 (.slice (some ⟨gA, 0, none⟩) 0 0) 0 [] :=
    ⟨rfl, .inr ⟨gA, 0, #[], rfl, hbA, hA, Nat.le_refl _, Nat.zero_le _, rfl, rfl⟩⟩
  obtain ⟨v', w', r, h2, h3, h4⟩ := append_own2 elemMv hown ⟨b, o, none⟩ l.length c (pairs (l.map mvCells)) (by rw [pairs_len, List.length_map]) (fun j u hj => by
    have hjl : j < l.length * 2 := by
      have := (List.getElem?_eq_some_iff.1 hj).1
      rw [pairs_len, List.length_map] at this; exact this
    have hi : j / 2 < l.length := by omega
    obtain ⟨c0, c1⟩ := hc (j / 2) hi
    obtain ⟨q0, q1⟩ := pairs_at (l.map mvCells) (j / 2) (by simpa using hi)
    rw [List.getElem_map] at q0 q1
    have e1 : Addr.add ⟨b, o, none⟩ j = ⟨b, o + j, none⟩ := by unfold Addr.add; split <;> simp_all
    rw [e1]
    rcases Nat.mod_two_eq_zero_or_one j with h | h
    · have e : j = j / 2 * 2 := by omega
      rw [show o + j = o + j / 2 * 2 by omega, c0]
      rw [e, q0] at hj; exact hj
    · have e : j = j / 2 * 2 + 1 := by omega
      rw [show o + j = o + j / 2 * 2 + 1 by omega, c1]
      rw [e, q1] at hj; exact hj) (fun u hu => by
    obtain ⟨p, hp, hup⟩ := List.mem_flatMap.1 hu
    obtain ⟨m, hm, rfl⟩ := List.mem_map.1 hp
    simp only [List.mem_cons, List.not_mem_nil, or_false] at hup
    rcases hup with rfl | rfl <;> rfl) (by unfold maxLen; omega) (by omega) hbase 39
  rw [Nat.zero_add, List.nil_append] at h2
  rcases ownsRow_fits h2 with ⟨_, hz⟩ | ⟨g, cap, rfl, _⟩
  · omega
  · refine ⟨g, cap, w', r, h2, (Upd.refl (· = gA) w).grown h3 (fun k hk => .inl (by have hk' : some gA = some k := hk; injection hk' with hk'; omega)), ?_⟩
    rcases h4 with h4 | ⟨g', h4, h5⟩
    · have h4' : some g = some gA := h4
      injection h4' with h4'; exact .inl h4'
    · have h4' : some g = some g' := h4
      injection h4' with h4'; exact .inr (by omega)
/-- One move, which lies in a block of its own, appended to an owned row. -/
theorem push_mv {w : World} {base gB g cap : Nat} {l : List Mv} {m : Mv} (ho : w.ownsRow base 43 2 (.slice (some ⟨g, 0, none⟩) l.length cap) l.length (pairs (l.map mvCells)))
    (hB : w.heap[gB]? = some (.cells #[.int .i64 m.to, .int .i64 m.gain] 43 (0, 0))) (hl : l.length ≤ 3000) (hbase : base ≤ w.heap.size) :
    ∃ g' cap' w', (Builtin.append_ #[39, 39] 39 #[.slice (some ⟨g, 0, none⟩) l.length cap, .slice (some ⟨gB, 0, none⟩) 1 1]).run Try.prog w = .ok (.slice (some ⟨g', 0, none⟩) (l.length + 1) cap') w' ∧
      w'.ownsRow base 43 2 (.slice (some ⟨g', 0, none⟩) (l.length + 1) cap') (l.length + 1) (pairs ((l ++ [m]).map mvCells)) ∧ Upd (· = g) w w' := by
  obtain ⟨v', w', r, h2, h3, h4⟩ := append_own2 elemMv ho ⟨gB, 0, none⟩ 1 1 [.int .i64 m.to, .int .i64 m.gain] rfl (fun j u hu => by
    have e1 : Addr.add ⟨gB, 0, none⟩ j = ⟨gB, j, none⟩ := by unfold Addr.add; split <;> simp_all
    rw [e1, cell_of_block hB]
    simpa using hu) (by simp [Value.oneCell']) (by unfold maxLen; omega) (by omega) hbase 39
  have e : pairs ((l ++ [m]).map mvCells) = pairs (l.map mvCells) ++ [.int .i64 m.to, .int .i64 m.gain] := by rw [List.map_append, List.map_cons, List.map_nil, pairs_snoc]; rfl
  rcases ownsRow_fits h2 with ⟨_, hz⟩ | ⟨g', cap', rfl, _⟩
  · omega
  · exact ⟨g', cap', w', r, by rw [e]; exact h2, (Upd.refl (· = g) w).grown h3 (fun k hk => .inl (by have hk' : some g = some k := hk; injection hk' with hk'; omega))⟩
end Go.Proofs.Ytmjjfafkmfcpnaa
