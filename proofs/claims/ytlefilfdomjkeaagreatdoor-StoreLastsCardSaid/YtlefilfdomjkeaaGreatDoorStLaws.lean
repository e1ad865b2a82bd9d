/- Plain laws of a store: records are appended and dropped, the store is opened. -/
import Derived.Test.YtlefilfdomjkeaaGreatDoorStWrite
namespace Go.Proofs.YtlefilfdomjkeaaGreatDoor
open Go

/-! ## The pieces of a record -/
theorem numE_small {n : Nat} (h : n ≤ 1000000) : (numE n).length ≤ 8 := by
  unfold numE; rw [if_neg (by omega)]; unfold intE
  rw [List.length_append]
  have := itoa_len_small n (by omega)
  simp only [List.length_singleton]
  omega
theorem hdr_len {p : Pg} (h1 : p.kind ≤ 1000000) (h2 : p.pos ≤ 1000000) (h3 : p.number ≤ 1000000) (h4 : p.diff ≤ 1000000) (h5 : p.offset ≤ 1000000) (h6 : p.rest ≤ 1000000) : (hdrP p).length ≤ 48 := by
  unfold hdrP
  simp only [List.length_append]
  have := numE_small h1; have := numE_small h2; have := numE_small h3; have := numE_small h4; have := numE_small h5; have := numE_small h6
  omega
/-- The bounds under which a store works. -/
structure St.Small (S : St) (r : List UInt8) : Prop where
  next : S.next + r.length + 1 ≤ 1000000
  len : S.len ≤ 1000000
theorem head_room {S : St} {r : List UInt8} (h : S.Small r) {i f : Nat} (hf : f ≤ r.length) (hi : i ≤ f) : 16 ≤ 64 - ((hdrP (headP S r i f)).length : Int) := by
  have h1 := h.next; have h2 := h.len
  have : (hdrP (headP S r i f)).length ≤ 48 := hdr_len (show (0 : Nat) ≤ _ by omega) (show S.next + i ≤ _ by omega) h2 (show S.recs.length ≤ _ by unfold St.len at h2; omega) (show f ≤ _ by omega) (show r.length - f ≤ _ by omega)
  omega
theorem piece_len {S : St} {r : List UInt8} (h : S.Small r) {i f : Nat} (hf : f ≤ r.length) (hi : i ≤ f) : ((pieceP S r i f).bytes.length : Int) = roomP (headP S r i f) ∧ (pieceP S r i f).bytes.length = min (r.length - f) (64 - (hdrP (headP S r i f)).length) := by
  have hr := head_room h hf hi
  have e : roomP (headP S r i f) = min ((r.length - f : Nat) : Int) (64 - ((hdrP (headP S r i f)).length : Int)) := by
    unfold roomP; rw [if_neg (by show ¬ (0 : Nat) = 1; decide)]; rfl
  have e2 : (roomP (headP S r i f)).toNat = min (r.length - f) (64 - (hdrP (headP S r i f)).length) := by rw [e]; omega
  have e3 : (pieceP S r i f).bytes.length = min (r.length - f) (64 - (hdrP (headP S r i f)).length) := by
    show ((r.drop f).take (roomP (headP S r i f)).toNat).length = _
    rw [List.length_take, List.length_drop, e2]
    omega
  exact ⟨by rw [e3, e]; omega, e3⟩
theorem piece_good {S : St} {r : List UInt8} (h : S.Small r) {i f : Nat} (hf : f ≤ r.length) (hi : i ≤ f) : (pieceP S r i f).Good := by
  have h1 := h.next; have h2 := h.len
  have e : hdrP (pieceP S r i f) = hdrP (headP S r i f) := rfl
  refine ⟨⟨.inl rfl, show S.recs.length ≤ S.len by unfold St.len; omega, ?_⟩, show S.next + i ≤ _ by omega, h2, show f ≤ _ by omega, show r.length - f ≤ _ by omega⟩
  rw [(piece_len h hf hi).1]
  rfl
theorem piece_piece {S : St} {r : List UInt8} {i f : Nat} (hf : f ≤ r.length) : Piece S.len r f (pieceP S r i f) := by
  refine ⟨rfl, rfl, rfl, rfl, hf, ?_⟩
  show (r.drop f).take _ = (r.drop f).take ((r.drop f).take _).length
  rw [List.length_take]
  by_cases hx : (roomP (headP S r i f)).toNat ≤ (r.drop f).length
  · rw [Nat.min_eq_left hx]
  · rw [Nat.min_eq_right (by omega), List.take_of_length_le (by omega), List.take_length]
/-- Positions one after the other. -/
def RunP : Nat → List Pg → Prop
  | _, [] => True
  | n, p :: l => p.pos = n ∧ RunP (n + 1) l
theorem pieces_run (S : St) (r : List UInt8) : ∀ (n i f : Nat), RunP (S.next + i) (piecesP S r n i f)
  | 0, _, _ => trivial
  | n + 1, i, f => by
    rw [piecesP]
    split
    · exact ⟨rfl, pieces_run S r n (i + 1) _⟩
    · trivial
theorem pieces_all {S : St} {r : List UInt8} (h : S.Small r) : ∀ (n i f : Nat), f ≤ r.length → i ≤ f → ∀ p ∈ piecesP S r n i f, p.Good ∧ p.number - p.diff = S.first
  | 0, _, _, _, _, p, hp => nomatch hp
  | n + 1, i, f, hf, hi, p, hp => by
    rw [piecesP] at hp
    split at hp
    · rename_i hc
      have hl := (piece_len h hf hi).2
      have hr := head_room h hf hi
      rcases List.mem_cons.1 hp with rfl | hp
      · exact ⟨piece_good h hf hi, show S.len - S.recs.length = S.first by unfold St.len; omega⟩
      · by_cases hx : f + (pieceP S r i f).bytes.length < r.length ∨ i + 1 = 0
        · exact pieces_all h n (i + 1) _ (by omega) (by omega) p hp
        · cases n with
          | zero => exact nomatch hp
          | succ n => rw [piecesP, if_neg hx] at hp; exact nomatch hp
    · exact nomatch hp
theorem pieces_att {S : St} {r : List UInt8} (h : S.Small r) : ∀ (n i f : Nat), f ≤ r.length → i ≤ f → r.length - f < n → (f < r.length ∨ i = 0) → AttP S.len r f (piecesP S r n i f)
  | 0, _, _, _, _, hn, _ => by omega
  | n + 1, i, f, hf, hi, hn, hc => by
    have hl := (piece_len h hf hi).2
    have hr := head_room h hf hi
    have hrest : (pieceP S r i f).rest = r.length - f := rfl
    rw [piecesP, if_pos hc]
    by_cases hx : f + (pieceP S r i f).bytes.length < r.length
    · have ih := pieces_att h n (i + 1) (f + (pieceP S r i f).bytes.length) (by omega) (by omega) (by omega) (.inl hx)
      cases hp : piecesP S r n (i + 1) (f + (pieceP S r i f).bytes.length) with
      | nil => rw [hp] at ih; exact ih.elim
      | cons q l => rw [hp] at ih; exact ⟨piece_piece hf, by omega, by omega, ih⟩
    · have : piecesP S r n (i + 1) (f + (pieceP S r i f).bytes.length) = [] := by
        cases n with
        | zero => rfl
        | succ n => rw [piecesP, if_neg (by omega)]
      rw [this]
      exact ⟨piece_piece hf, by omega⟩
theorem pieces_count {S : St} {r : List UInt8} (h : S.Small r) : ∀ (n i f : Nat), f ≤ r.length → i ≤ f → (piecesP S r n i f).length * 16 ≤ r.length - f + 16
  | 0, _, _, _, _ => by rw [piecesP]; simp
  | n + 1, i, f, hf, hi => by
    have hl := (piece_len h hf hi).2
    have hr := head_room h hf hi
    rw [piecesP]
    split
    · rename_i hc
      rw [List.length_cons]
      by_cases hx : f + (pieceP S r i f).bytes.length < r.length
      · have := pieces_count h n (i + 1) (f + (pieceP S r i f).bytes.length) (by omega) (by omega)
        omega
      · have : piecesP S r n (i + 1) (f + (pieceP S r i f).bytes.length) = [] := by
          cases n with
          | zero => rfl
          | succ n => rw [piecesP, if_neg (by omega)]
        rw [this]
        simp
    · simp
theorem rec_att {S : St} {r : List UInt8} (h : S.Small r) : AttP S.len r 0 (recP S r) := pieces_att h _ 0 0 (Nat.zero_le _) (Nat.le_refl _) (by omega) (.inr rfl)
theorem rec_all {S : St} {r : List UInt8} (h : S.Small r) : ∀ p ∈ recP S r, p.Good ∧ p.number - p.diff = S.first := pieces_all h _ 0 0 (Nat.zero_le _) (Nat.le_refl _)
theorem rec_run (S : St) (r : List UInt8) : RunP S.next (recP S r) := pieces_run S r _ 0 0
theorem rec_count {S : St} {r : List UInt8} (h : S.Small r) : (recP S r).length * 16 ≤ r.length + 16 := pieces_count h _ 0 0 (Nat.zero_le _) (Nat.le_refl _)
theorem att_ne {n f : Nat} {r : List UInt8} {l : List Pg} (h : AttP n r f l) : l ≠ [] := fun e => by rw [e] at h; exact h
theorem att_part {n : Nat} {r : List UInt8} : ∀ {l1 l2 : List Pg} {f : Nat}, AttP n r f (l1 ++ l2) → l2 ≠ [] → ∀ p ∈ l1, HA p
  | [], _, _, _, _, p, hp => nomatch hp
  | [x], y :: l2, f, h, _, p, hp => by
    rw [List.mem_singleton.1 hp]
    exact .inr h.2.1
  | x :: y :: l1, l2, f, h, hn, p, hp => by
    rcases List.mem_cons.1 hp with rfl | hp
    · exact .inr h.2.1
    · exact att_part (l1 := y :: l1) h.2.2.2 hn p hp
theorem run_sorted : ∀ {l : List Pg} {n : Nat}, RunP n l → SortedP l ∧ ∀ p ∈ l, n ≤ p.pos ∧ p.pos < n + l.length
  | [], _, _ => ⟨List.Pairwise.nil, fun _ h => nomatch h⟩
  | p :: l, n, h => by
    obtain ⟨h1, h2⟩ := h
    obtain ⟨g1, g2⟩ := run_sorted h2
    refine ⟨List.pairwise_cons.2 ⟨fun q hq => by have := g2 q hq; omega, g1⟩, fun q hq => ?_⟩
    rw [List.length_cons]
    rcases List.mem_cons.1 hq with rfl | hq
    · omega
    · have := g2 q hq; omega

/-! ## Pages are written one after the other -/
structure Steps (L0 : List Pg) (lim nb np : Nat) (S : St) (att l : List Pg) (G : Fl) (T : St) (e : Int) : Prop where
  good : e = 0 → Wr L0 lim nb np G (S.next + l.length) (att ++ l) ∧ G.down = false ∧ T = { S with next := S.next + l.length }
  bad : e ≠ 0 → ∃ l1 p l2, l = l1 ++ p :: l2 ∧ T = { S with next := S.next + l1.length } ∧ (e = 8 ↔ G.down = true) ∧ (Wr L0 lim nb np G T.next (att ++ l1) ∨ (e = 8 ∧ Wr L0 lim nb np G (T.next + 1) (att ++ l1 ++ [p])))
theorem writes_step {L0 : List Pg} {lim nb np n0 : Nat} (hnp : 0 < np) (h0 : ∀ q, L0.getLast? = some q → n0 / np * np ≤ q.pos + np) (hlim : lim ≤ n0) : ∀ (l : List Pg) {F : Fl} {S : St} {att : List Pg}, Wr L0 lim nb np F S.next att → F.down = false → n0 ≤ S.next →
    (∀ p ∈ l, p.Good) → RunP S.next l → (l ≠ [] → ((S.next + l.length - 1) / np + 2) * np ≤ lim + nb * np) →
    Steps L0 lim nb np S att l (writesP F S (l.map txtP)).1 (writesP F S (l.map txtP)).2.1 (writesP F S (l.map txtP)).2.2
  | [], F, S, att, h, hd, _, _, _, _ => ⟨fun _ => ⟨by rw [List.append_nil]; exact h, hd, rfl⟩, fun h => absurd rfl h⟩
  | p :: l, F, S, att, h, hd, hn0, hg, hr, hfit => by
    have hfit := hfit (by simp)
    rw [List.length_cons] at hfit
    have hdiv : S.next / np ≤ (S.next + (l.length + 1) - 1) / np := Nat.div_le_div_right (by omega)
    have hmul : (S.next / np + 2) * np ≤ ((S.next + (l.length + 1) - 1) / np + 2) * np := Nat.mul_le_mul_right _ (by omega)
    have hkeep : ∀ q, L0.getLast? = some q → (S.next / np + 1) * np ≤ q.pos + nb * np := by
      intro q hq
      have a := h0 q hq
      have e1 : (S.next / np + 2) * np = (S.next / np + 1) * np + np := by rw [Nat.add_mul, Nat.add_mul]; omega
      have hle : (S.next / np + 2) * np ≤ n0 + nb * np := by omega
      by_cases hb : S.next / np + 1 ≤ nb
      · have := Nat.mul_le_mul_right np hb; omega
      · have hx : (S.next / np + 2 - nb) * np ≤ n0 := by
          rw [Nat.sub_mul]; omega
        have hy : S.next / np + 2 - nb ≤ n0 / np := (Nat.le_div_iff_mul_le hnp).2 hx
        have hz := Nat.mul_le_mul_right np hy
        have e2 : (S.next / np + 2 - nb) * np + nb * np = (S.next / np + 2) * np := by rw [← Nat.add_mul]; congr 1; omega
        omega
    have hs := write_step h hd (hg p List.mem_cons_self) hr.1 (by omega) (by rw [show (S.next / np + 2) * np = (S.next / np + 1) * np + np by rw [Nat.add_mul, Nat.add_mul]; omega] at hmul; omega) hkeep
    rw [List.map_cons, writesP]
    split
    · rename_i hz
      obtain ⟨g1, g2, g3⟩ := hs.good hz
      obtain ⟨G, hG⟩ : ∃ G, (writeP F S (txtP p)).1 = G := ⟨_, rfl⟩
      obtain ⟨T, hT⟩ : ∃ T, (writeP F S (txtP p)).2.1 = T := ⟨_, rfl⟩
      rw [hG] at g1 g2
      rw [hT] at g3
      rw [hG, hT]
      have hTn : T.next = S.next + 1 := by rw [g3]
      have ih := writes_step hnp h0 hlim l (F := G) (S := T) (att := att ++ [p]) (by rw [hTn]; exact g1) g2 (by omega) (fun q hq => hg q (List.mem_cons_of_mem _ hq)) (by rw [hTn]; exact hr.2) (fun hne => by
        rw [hTn, show S.next + 1 + l.length - 1 = S.next + (l.length + 1) - 1 by omega]; exact hfit)
      refine ⟨fun he => ?_, fun he => ?_⟩
      · obtain ⟨k1, k2, k3⟩ := ih.good he
        rw [hTn] at k1
        refine ⟨?_, k2, ?_⟩
        · rw [List.length_cons, show S.next + (l.length + 1) = S.next + 1 + l.length by omega]
          simpa using k1
        · rw [k3, hTn, g3, List.length_cons]
          simp only [St.mk.injEq, true_and, and_true]
          omega
      · obtain ⟨l1, x, l2, rfl, k2, k3, k4⟩ := ih.bad he
        refine ⟨p :: l1, x, l2, rfl, ?_, k3, ?_⟩
        · rw [k2, hTn, g3, List.length_cons]
          simp only [St.mk.injEq, true_and, and_true]
          omega
        · simpa using k4
    · rename_i hz
      obtain ⟨k1, k2, k3⟩ := hs.bad hz
      refine ⟨fun he => absurd he hz, fun _ => ⟨[], p, l, rfl, by rw [k1]; simp, k2, ?_⟩⟩
      rw [k1]
      simpa using k3
end Go.Proofs.YtlefilfdomjkeaaGreatDoor
