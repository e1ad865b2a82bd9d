/- Plain laws of the two loops that append a record: its pages' texts one after the other; their writing. -/
import Derived.Test.YtlefilfdomjkeaaGreatDoorStLive
namespace Go.Proofs.YtlefilfdomjkeaaGreatDoor
open Go

/-- Texts l are made; the next piece begins at byte f; n more may come. -/
structure PieceAt (S : St) (r : List UInt8) (l : List (List UInt8)) (n f : Nat) : Prop where
  all : (recP S r).map txtP = l ++ (piecesP S r n l.length f).map txtP
  le : f ≤ r.length
  near : l.length ≤ f ∨ r.length ≤ f
  fuel : f < r.length → r.length - f < n
  first : l.length = 0 → 0 < n
theorem pieceAt_zero (S : St) (r : List UInt8) : PieceAt S r [] (r.length + 1) 0 := ⟨rfl, Nat.zero_le _, .inl (Nat.zero_le _), fun _ => by omega, fun _ => by omega⟩
theorem PieceAt.done {S : St} {r : List UInt8} {l : List (List UInt8)} {n f : Nat} (h : PieceAt S r l n f) (h1 : ¬ f < r.length) (h2 : l.length ≠ 0) : (recP S r).map txtP = l := by
  have e : piecesP S r n l.length f = [] := by
    cases n with
    | zero => rfl
    | succ n => rw [piecesP, if_neg (by rintro (h | h); exact h1 h; exact h2 h)]
  rw [h.all, e]
  simp
theorem PieceAt.next {S : St} {r : List UInt8} {l : List (List UInt8)} {n f : Nat} (h : PieceAt S r l n f) (hs : S.Small r) (hc : f < r.length ∨ l.length = 0) :
    l.length ≤ f ∧ ∃ n', n = n' + 1 ∧ PieceAt S r (l ++ [txtP (pieceP S r l.length f)]) n' (f + (pieceP S r l.length f).bytes.length) ∧ f + (pieceP S r l.length f).bytes.length ≤ r.length := by
  have hlf : l.length ≤ f := by rcases hc with hc | hc <;> rcases h.near with h | h <;> omega
  obtain ⟨_, e2⟩ := piece_len hs h.le hlf
  have hr := head_room hs h.le hlf
  have hn : 0 < n := by
    rcases hc with hc | hc
    · have := h.fuel hc; omega
    · exact h.first hc
  obtain ⟨n', rfl⟩ : ∃ n', n = n' + 1 := ⟨n - 1, by omega⟩
  have hle := h.le
  refine ⟨hlf, n', rfl, ⟨?_, by omega, ?_, ?_, ?_⟩, by omega⟩
  · rw [h.all, piecesP, if_pos hc, List.length_append]
    simp
  · rw [List.length_append]
    simp only [List.length_singleton]
    rcases hc with hc | hc <;> omega
  · intro h1
    rcases hc with hc | hc
    · have := h.fuel hc; omega
    · have := h.fuel (by omega); omega
  · intro h0
    simp at h0
theorem pieceAt_len {S : St} {r : List UInt8} {l : List (List UInt8)} {n f : Nat} (h : PieceAt S r l n f) (hs : S.Small r) : l.length * 16 ≤ r.length + 16 := by
  have h1 := congrArg List.length h.all
  have h2 := rec_count hs
  rw [List.length_map, List.length_append] at h1
  omega
theorem rec_texts {S : St} {r : List UInt8} (hs : S.Small r) : ∀ t ∈ (recP S r).map txtP, t.length ≤ 1000000 := by
  intro t ht
  obtain ⟨p, hp, rfl⟩ := List.mem_map.1 ht
  obtain ⟨g, _⟩ := rec_all hs p hp
  have h1 := hdr_len (p := p) (Nat.le_trans g.kind (by decide)) g.pos g.number g.diff g.offset g.rest
  have h2 := g.form.2.2
  unfold txtP
  rw [List.length_append]
  unfold roomP at h2
  split at h2 <;> omega
theorem rec_pos {S : St} {r : List UInt8} (hs : S.Small r) : 0 < ((recP S r).map txtP).length := by
  rw [List.length_map]
  exact List.length_pos_iff.2 (att_ne (rec_att hs))

theorem piece_take (S : St) (r : List UInt8) (i f : Nat) : (r.drop f).take (pieceP S r i f).bytes.length = (pieceP S r i f).bytes := by
  show (r.drop f).take ((r.drop f).take _).length = (r.drop f).take _
  rw [List.length_take]
  by_cases hx : (roomP (headP S r i f)).toNat ≤ (r.drop f).length
  · rw [Nat.min_eq_left hx]
  · rw [Nat.min_eq_right (by omega), List.take_length, List.take_of_length_le (by omega)]
/-! ## Writing -/
theorem program_up {F : Fl} {b g : Int} {s : ByteArray} (h : (F.program b g s).2 = 0) : (F.program b g s).1.down = false := by
  revert h
  unfold Fl.program
  split
  · rename_i h; intro e; exact absurd e h
  · split
    · intro e; cases e
    · split
      · intro e; cases e
      · split
        · intro e; cases e
        · rename_i h
          split
          · intro e; cases e
          · intro _
            have h : F.tick.down = false := by simpa using h
            exact h
theorem progP_up {F : Fl} {S : St} {s : List UInt8} (h : (progP F S s).2.2 = 0) : (progP F S s).1.down = false := by
  revert h
  unfold progP
  split
  · rename_i h; intro _; exact program_up h
  · rename_i h; intro e; exact absurd e h
theorem writeP_up {F : Fl} {S : St} {s : List UInt8} (h : (writeP F S s).2.2 = 0) : (writeP F S s).1.down = false := by
  revert h
  unfold writeP
  split
  · split
    · exact progP_up
    · rename_i h; intro e; exact absurd e h
  · exact progP_up
theorem progP_st (F : Fl) (S : St) (s : List UInt8) : (progP F S s).2.1.first = S.first ∧ (progP F S s).2.1.recs = S.recs ∧ (progP F S s).2.1.ats = S.ats ∧ (progP F S s).2.1.next ≤ S.next + 1 := by
  unfold progP
  split
  · exact ⟨rfl, rfl, rfl, Nat.le_refl _⟩
  · exact ⟨rfl, rfl, rfl, Nat.le_succ _⟩
theorem writeP_st (F : Fl) (S : St) (s : List UInt8) : (writeP F S s).2.1.first = S.first ∧ (writeP F S s).2.1.recs = S.recs ∧ (writeP F S s).2.1.ats = S.ats ∧ (writeP F S s).2.1.next ≤ S.next + 1 := by
  unfold writeP
  split
  · split
    · exact progP_st _ _ _
    · exact ⟨rfl, rfl, rfl, Nat.le_succ _⟩
  · exact progP_st _ _ _
theorem writesP_st : ∀ (l : List (List UInt8)) (F : Fl) (S : St), (writesP F S l).2.1.recs = S.recs ∧ (writesP F S l).2.1.ats = S.ats
  | [], _, _ => ⟨rfl, rfl⟩
  | s :: l, F, S => by
    rw [writesP]
    obtain ⟨_, h1, h2, _⟩ := writeP_st F S s
    split
    · obtain ⟨g1, g2⟩ := writesP_st l (writeP F S s).1 (writeP F S s).2.1
      exact ⟨g1.trans h1, g2.trans h2⟩
    · exact ⟨h1, h2⟩
/-- Texts before the k-th are written. -/
structure WriteAt (F0 : Fl) (S0 : St) (l : List (List UInt8)) (k : Nat) (F : Fl) (S : St) : Prop where
  all : writesP F0 S0 l = writesP F S (l.drop k)
  up : F.down = false
  next : S.next ≤ S0.next + k
  recs : S.recs = S0.recs
  ats : S.ats = S0.ats
  first : S.first = S0.first
theorem writeAt_zero {F : Fl} {S : St} {l : List (List UInt8)} (h : F.down = false) : WriteAt F S l 0 F S := ⟨rfl, h, Nat.le_refl _, rfl, rfl, rfl⟩
theorem WriteAt.good {F0 F : Fl} {S0 S : St} {l : List (List UInt8)} {k : Nat} (h : WriteAt F0 S0 l k F S) (hk : k < l.length) (h0 : (writeP F S l[k]).2.2 = 0) : WriteAt F0 S0 l (k + 1) (writeP F S l[k]).1 (writeP F S l[k]).2.1 := by
  obtain ⟨h1, h2, h3, h4⟩ := writeP_st F S l[k]
  refine ⟨?_, writeP_up h0, by have := h.next; omega, h2.trans h.recs, h3.trans h.ats, h1.trans h.first⟩
  rw [h.all, List.drop_eq_getElem_cons hk, writesP, if_pos h0]
theorem WriteAt.bad {F0 F : Fl} {S0 S : St} {l : List (List UInt8)} {k : Nat} (h : WriteAt F0 S0 l k F S) (hk : k < l.length) (h0 : (writeP F S l[k]).2.2 ≠ 0) : writesP F0 S0 l = writeP F S l[k] := by
  rw [h.all, List.drop_eq_getElem_cons hk, writesP, if_neg h0]
theorem WriteAt.end_ {F0 F : Fl} {S0 S : St} {l : List (List UInt8)} {k : Nat} (h : WriteAt F0 S0 l k F S) (hk : l.length ≤ k) : writesP F0 S0 l = (F, S, 0) := by
  rw [h.all, List.drop_of_length_le hk]; rfl
/-! ## The four ends of Append -/
theorem append_long {F : Fl} {S : St} {r : List UInt8} (h : 4000 < r.length) : appendP F S r = (F, S, 3) := by unfold appendP; rw [if_pos h]
theorem append_full {F : Fl} {S : St} {r : List UInt8} {l : List (List UInt8)} (hl : (recP S r).map txtP = l) (h : ¬ 4000 < r.length) (h2 : fitsP F S (S.next + l.length - 1 + F.np) = false) : appendP F S r = (F, S, 6) := by
  have e : (recP S r).length = l.length := by rw [← hl, List.length_map]
  unfold appendP; rw [if_neg h, e, if_pos h2]
theorem append_bad {F : Fl} {S : St} {r : List UInt8} {l : List (List UInt8)} (hl : (recP S r).map txtP = l) (h : ¬ 4000 < r.length) (h2 : fitsP F S (S.next + l.length - 1 + F.np) = true) (h3 : (writesP F S l).2.2 ≠ 0) : appendP F S r = writesP F S l := by
  have e : (recP S r).length = l.length := by rw [← hl, List.length_map]
  unfold appendP; rw [if_neg h, e, if_neg (by rw [h2]; decide), hl, if_neg h3]
theorem append_good {F G : Fl} {S T : St} {r : List UInt8} {l : List (List UInt8)} (hl : (recP S r).map txtP = l) (h : ¬ 4000 < r.length) (h2 : fitsP F S (S.next + l.length - 1 + F.np) = true) (h3 : writesP F S l = (G, T, 0)) : appendP F S r = (G, { T with recs := S.recs ++ [r], ats := S.ats ++ [S.next] }, 0) := by
  have e : (recP S r).length = l.length := by rw [← hl, List.length_map]
  unfold appendP; rw [if_neg h, e, if_neg (by rw [h2]; decide), hl, if_pos (by rw [h3]), h3]
end Go.Proofs.YtlefilfdomjkeaaGreatDoor
