/- Plain laws of a store: what is collected of pages. -/
/- Plain laws of a store: the pages of a flash, and what its calls change of them. -/
/- Plain laws of a store: one page is written. -/
/- Plain laws of a store: records are appended and dropped, the store is opened. -/
/- Plain laws of a store: what an opened store is, and that calls keep it. -/
import Derived.Test.YtlefilfdomjkeaaGreatDoorStModel
namespace Go.Proofs.YtlefilfdomjkeaaGreatDoor
open Go

/-- A page that ends no record. -/
def HA (p : Pg) : Prop := p.kind = 1 ∨ p.bytes.length < p.rest
/-- A page that ends no record that counts. -/
def Harm (first : Nat) (p : Pg) : Prop := p.kind = 1 ∨ p.number < first ∨ p.bytes.length < p.rest
theorem HA.harm {p : Pg} (h : HA p) (first : Nat) : Harm first p := h.elim .inl fun h => .inr (.inr h)
theorem Harm.mono {p : Pg} {a b : Nat} (h : Harm a p) (hab : a ≤ b) : Harm b p := by
  rcases h with h | h | h
  · exact .inl h
  · exact .inr (.inl (Nat.lt_of_lt_of_le h hab))
  · exact .inr (.inr h)
theorem step_harm {first : Nat} {p : Pg} (h : Harm first p) (c : Cs) : (stepC first c p).recs = c.recs ∧ (stepC first c p).ats = c.ats := by
  unfold stepC
  split
  · rename_i h0
    unfold finC
    split
    · rename_i h1
      split
      · rename_i h2
        dsimp only at h1 h2
        rcases h with h | h | h <;> omega
      · exact ⟨rfl, rfl⟩
    · exact ⟨rfl, rfl⟩
  · split
    · rename_i h0
      unfold finC
      split
      · rename_i h1
        dsimp only at h1
        rw [List.length_append] at h1
        split
        · rename_i h2
          dsimp only at h2
          rcases h with h | h | h <;> omega
        · exact ⟨rfl, rfl⟩
      · exact ⟨rfl, rfl⟩
    · exact ⟨rfl, rfl⟩
theorem coll_harm {first : Nat} : ∀ (l : List Pg) (c : Cs), (∀ p ∈ l, Harm first p) → (l.foldl (stepC first) c).recs = c.recs ∧ (l.foldl (stepC first) c).ats = c.ats
  | [], _, _ => ⟨rfl, rfl⟩
  | p :: l, c, h => by
    rw [List.foldl_cons]
    obtain ⟨h1, h2⟩ := coll_harm l (stepC first c p) fun q hq => h q (List.mem_cons_of_mem _ hq)
    obtain ⟨g1, g2⟩ := step_harm (h p List.mem_cons_self) c
    exact ⟨h1.trans g1, h2.trans g2⟩

/-- A piece of record n, r, from byte f on. -/
structure Piece (n : Nat) (r : List UInt8) (f : Nat) (p : Pg) : Prop where
  kind : p.kind = 0
  number : p.number = n
  offset : p.offset = f
  rest : p.rest = r.length - f
  le : f ≤ r.length
  bytes : p.bytes = (r.drop f).take p.bytes.length
/-- All pieces of a record from byte f on. -/
def AttP (n : Nat) (r : List UInt8) : Nat → List Pg → Prop
  | _, [] => False
  | f, [p] => Piece n r f p ∧ p.bytes.length = p.rest
  | f, p :: q :: l => Piece n r f p ∧ p.bytes.length < p.rest ∧ 0 < p.bytes.length ∧ AttP n r (f + p.bytes.length) (q :: l)
theorem take_drop_add (r : List UInt8) (f k : Nat) : r.take f ++ (r.drop f).take k = r.take (f + k) := by
  rw [List.take_add]
theorem piece_text {n f : Nat} {r : List UInt8} {p : Pg} (h : Piece n r f p) : r.take f ++ p.bytes = r.take (f + p.bytes.length) := by
  conv => lhs; rw [h.bytes]
  exact take_drop_add _ _ _
/-- A record is put together of its pieces. -/
theorem coll_att_go {first n : Nat} {r : List UInt8} : ∀ (l : List Pg) (f : Nat) (c : Cs), AttP n r f l → 0 < f → c.number = n → c.text = r.take f → n = first + c.recs.length →
    (l.foldl (stepC first) c).recs = c.recs ++ [r] ∧ (l.foldl (stepC first) c).ats = c.ats ++ [c.at_]
  | [p], f, c, h, hf, hn, ht, hr => by
    obtain ⟨h1, h2⟩ := h
    have hl : c.text.length = f := by rw [ht, List.length_take]; have := h1.le; omega
    have htx := piece_text h1
    rw [h2, h1.rest, show f + (r.length - f) = r.length by have := h1.le; omega, List.take_length] at htx
    have e1 : ¬ (p.kind = 0 ∧ p.offset = 0) := fun e => by have := h1.offset; omega
    have e2 : p.kind = 0 ∧ (p.number : Int) = c.number ∧ p.offset = c.text.length := ⟨h1.kind, by rw [hn, h1.number], by rw [h1.offset, hl]⟩
    simp only [List.foldl_cons, List.foldl_nil]
    unfold stepC
    rw [if_neg e1, if_pos e2]
    unfold finC
    rw [if_pos (by dsimp only; rw [List.length_append, hl, h2, h1.offset]), if_pos (by dsimp only; rw [hn, hr])]
    dsimp only
    rw [ht, htx]
    exact ⟨rfl, rfl⟩
  | p :: q :: l, f, c, h, hf, hn, ht, hr => by
    obtain ⟨h1, h2, h3, h4⟩ := h
    have hl : c.text.length = f := by rw [ht, List.length_take]; have := h1.le; omega
    have e1 : ¬ (p.kind = 0 ∧ p.offset = 0) := fun e => by have := h1.offset; omega
    have e2 : p.kind = 0 ∧ (p.number : Int) = c.number ∧ p.offset = c.text.length := ⟨h1.kind, by rw [hn, h1.number], by rw [h1.offset, hl]⟩
    rw [List.foldl_cons]
    have e3 : stepC first c p = { c with text := c.text ++ p.bytes } := by
      unfold stepC
      rw [if_neg e1, if_pos e2]
      unfold finC
      rw [if_neg (by dsimp only; rw [List.length_append, hl, h1.offset]; omega)]
    rw [e3]
    exact coll_att_go (q :: l) (f + p.bytes.length) _ h4 (by omega) hn (by dsimp only; rw [ht]; exact piece_text h1) hr
theorem coll_att {first n : Nat} {r : List UInt8} {l : List Pg} {c : Cs} (h : AttP n r 0 l) (hr : n = first + c.recs.length) :
    (l.foldl (stepC first) c).recs = c.recs ++ [r] ∧ ∃ p, l.head? = some p ∧ (l.foldl (stepC first) c).ats = c.ats ++ [p.pos] := by
  match l, h with
  | [p], h =>
    obtain ⟨h1, h2⟩ := h
    have htx := piece_text h1
    rw [h2, h1.rest, show 0 + (r.length - 0) = r.length by omega, List.take_length, List.take_zero, List.nil_append] at htx
    simp only [List.foldl_cons, List.foldl_nil]
    have e3 : stepC first c p = ⟨-1, p.pos, r, c.recs ++ [r], c.ats ++ [p.pos]⟩ := by
      unfold stepC
      rw [if_pos ⟨h1.kind, h1.offset⟩]
      unfold finC
      rw [if_pos (by dsimp only; rw [h2, h1.offset]; omega), if_pos (by dsimp only; rw [h1.number, hr])]
      dsimp only
      rw [htx]
    rw [e3]
    exact ⟨rfl, p, rfl, rfl⟩
  | p :: q :: l, h =>
    obtain ⟨h1, h2, h3, h4⟩ := h
    rw [List.foldl_cons]
    have e3 : stepC first c p = { c with number := p.number, at_ := p.pos, text := p.bytes } := by
      unfold stepC
      rw [if_pos ⟨h1.kind, h1.offset⟩]
      unfold finC
      rw [if_neg (by dsimp only; rw [h1.offset]; omega)]
    rw [e3]
    have htx := piece_text h1
    rw [List.take_zero, List.nil_append] at htx
    obtain ⟨g1, g2⟩ := coll_att_go (first := first) (q :: l) (0 + p.bytes.length) { c with number := p.number, at_ := p.pos, text := p.bytes } h4 (by omega) (by dsimp only; rw [h1.number]) htx hr
    exact ⟨g1, p, rfl, g2⟩

/-- The pages of records, each with what ends none behind it. -/
def SegsP : Nat → List (List UInt8) → List Nat → List Pg → Prop
  | _, [], [], l => l = []
  | n, r :: rs, a :: as, l => ∃ att tl more, l = att ++ (tl ++ more) ∧ AttP n r 0 att ∧ (∃ p, att.head? = some p ∧ p.pos = a) ∧ (∀ p ∈ tl, HA p) ∧ SegsP (n + 1) rs as more
  | _, _, _, _ => False
theorem coll_segs {first : Nat} : ∀ (rs : List (List UInt8)) (n : Nat) (as : List Nat) (l : List Pg) (c : Cs), SegsP n rs as l → n = first + c.recs.length →
    (l.foldl (stepC first) c).recs = c.recs ++ rs ∧ (l.foldl (stepC first) c).ats = c.ats ++ as
  | [], n, [], l, c, h, _ => by
    rw [SegsP] at h
    subst h
    simp
  | r :: rs, n, a :: as, l, c, h, hn => by
    obtain ⟨att, tl, more, rfl, h1, ⟨p, hp, ha⟩, h3, h4⟩ := h
    rw [List.foldl_append, List.foldl_append]
    obtain ⟨g1, q, hq, g2⟩ := coll_att (c := c) h1 hn
    rw [hp] at hq
    injection hq with hq
    subst hq
    obtain ⟨k1, k2⟩ := coll_harm (first := first) tl (att.foldl (stepC first) c) fun p hp => (h3 p hp).harm first
    obtain ⟨m1, m2⟩ := coll_segs (first := first) rs (n + 1) as more (tl.foldl (stepC first) (att.foldl (stepC first) c)) h4 (by rw [k1, g1, List.length_append]; simp; omega)
    refine ⟨?_, ?_⟩
    · rw [m1, k1, g1]; simp
    · rw [m2, k2, g2, ha]; simp
theorem SegsP.len : ∀ {rs : List (List UInt8)} {n : Nat} {as : List Nat} {l : List Pg}, SegsP n rs as l → rs.length = as.length
  | [], _, [], _, _ => rfl
  | r :: rs, n, a :: as, l, h => by
    obtain ⟨_, _, _, _, _, _, _, h4⟩ := h
    simp [h4.len]
/-- One more page that ends no record. -/
theorem SegsP.snoc {p : Pg} (hp : HA p) : ∀ {rs : List (List UInt8)} {n : Nat} {as : List Nat} {l : List Pg}, SegsP n rs as l → rs ≠ [] → SegsP n rs as (l ++ [p])
  | [r], n, [a], l, h, _ => by
    obtain ⟨att, tl, more, rfl, h1, h2, h3, h4⟩ := h
    rw [SegsP] at h4
    subst h4
    refine ⟨att, tl ++ [p], [], by simp, h1, h2, fun q hq => ?_, rfl⟩
    rcases List.mem_append.1 hq with h | h
    · exact h3 q h
    · rw [List.mem_singleton.1 h]; exact hp
  | r :: r' :: rs, n, a :: as, l, h, _ => by
    obtain ⟨att, tl, more, rfl, h1, h2, h3, h4⟩ := h
    exact ⟨att, tl, more ++ [p], by simp, h1, h2, h3, h4.snoc hp (by simp)⟩
/-- One more record. -/
theorem SegsP.record {r : List UInt8} {att : List Pg} {p : Pg} (hp : att.head? = some p) : ∀ {rs : List (List UInt8)} {n : Nat} {as : List Nat} {l : List Pg}, SegsP n rs as l → AttP (n + rs.length) r 0 att → SegsP n (rs ++ [r]) (as ++ [p.pos]) (l ++ att)
  | [], n, [], l, h, ha => by
    rw [SegsP] at h
    subst h
    exact ⟨att, [], [], by simp, ha, ⟨p, hp, rfl⟩, (fun _ h => nomatch h), rfl⟩
  | r' :: rs, n, a :: as, l, h, ha => by
    obtain ⟨att', tl, more, rfl, h1, h2, h3, h4⟩ := h
    refine ⟨att', tl, more ++ att, by simp, h1, h2, h3, h4.record hp ?_⟩
    rw [List.length_cons] at ha
    rw [show n + 1 + rs.length = n + (rs.length + 1) by omega]
    exact ha
theorem att_number {n : Nat} {r : List UInt8} : ∀ {l : List Pg} {f : Nat}, AttP n r f l → ∀ p ∈ l, p.number = n
  | [p], f, h, q, hq => by rw [List.mem_singleton.1 hq]; exact h.1.number
  | p :: p' :: l, f, h, q, hq => by
    rcases List.mem_cons.1 hq with rfl | hq
    · exact h.1.number
    · exact att_number h.2.2.2 q hq
/-- The first records are dropped. -/
theorem SegsP.dropN : ∀ {k : Nat} {rs : List (List UInt8)} {n : Nat} {as : List Nat} {l : List Pg}, SegsP n rs as l → k ≤ rs.length → ∃ l1 l2, l = l1 ++ l2 ∧ (∀ p ∈ l1, Harm (n + k) p) ∧ SegsP (n + k) (rs.drop k) (as.drop k) l2
  | 0, rs, n, as, l, h, _ => ⟨[], l, rfl, (fun _ h => nomatch h), h⟩
  | k + 1, [], n, as, l, h, hk => by simp at hk
  | k + 1, r :: rs, n, a :: as, l, h, hk => by
    obtain ⟨att, tl, more, rfl, h1, h2, h3, h4⟩ := h
    obtain ⟨l1, l2, rfl, g1, g2⟩ := h4.dropN (k := k) (by simpa using hk)
    refine ⟨att ++ (tl ++ l1), l2, by simp, fun p hp => ?_, ?_⟩
    · rcases List.mem_append.1 hp with h | h
      · exact .inr (.inl (by have := att_number h1 p h; omega))
      · rcases List.mem_append.1 h with h | h
        · exact (h3 p h).harm _
        · have := g1 p h
          rw [show n + (k + 1) = n + 1 + k by omega]
          exact this
    · rw [show n + (k + 1) = n + 1 + k by omega]
      simpa using g2
theorem SegsP.head {rs : List (List UInt8)} {n : Nat} {as : List Nat} {l : List Pg} (h : SegsP n rs as l) (hr : rs ≠ []) : ∃ p l' a as', l = p :: l' ∧ as = a :: as' ∧ p.pos = a := by
  match rs, as, h with
  | r :: rs, a :: as, h =>
    obtain ⟨att, tl, more, rfl, h1, ⟨p, hp, ha⟩, h3, h4⟩ := h
    cases att with
    | nil => cases hp
    | cons q att =>
      injection hp with hp
      subst hp
      exact ⟨q, att ++ (tl ++ more), a, as, rfl, rfl, ha⟩
  | [], _, _ => exact absurd rfl hr
theorem SegsP.nil {n : Nat} {as : List Nat} {l : List Pg} (h : SegsP n [] as l) : as = [] ∧ l = [] := by
  match as, h with
  | [], h => exact ⟨rfl, h⟩

/-! ## What the pages of a store say -/
def SortedP (l : List Pg) : Prop := l.Pairwise fun p q => p.pos < q.pos
structure Says (first : Nat) (recs : List (List UInt8)) (ats : List Nat) (L : List Pg) : Prop where
  sorted : SortedP L
  parts : ∃ old tail, L = old ++ tail ∧ (∀ p ∈ old, Harm first p) ∧ SegsP first recs ats tail
  last : ∀ p, L.getLast? = some p → p.number - p.diff = first
  none : L = [] → first = 0
theorem Says.coll {first : Nat} {recs : List (List UInt8)} {ats : List Nat} {L : List Pg} (h : Says first recs ats L) : (collP first L).recs = recs ∧ (collP first L).ats = ats := by
  obtain ⟨old, tail, rfl, h1, h2⟩ := h.parts
  unfold collP
  rw [List.foldl_append]
  obtain ⟨k1, k2⟩ := coll_harm (first := first) old ⟨-1, 0, [], [], []⟩ h1
  obtain ⟨g1, g2⟩ := coll_segs (first := first) recs first ats tail (old.foldl (stepC first) ⟨-1, 0, [], [], []⟩) h2 (by rw [k1]; rfl)
  rw [k1] at g1
  rw [k2] at g2
  exact ⟨by simpa using g1, by simpa using g2⟩
theorem Says.first {first : Nat} {recs : List (List UInt8)} {ats : List Nat} {L : List Pg} (h : Says first recs ats L) : firstP L = first := by
  unfold firstP newestP
  cases hl : L.getLast? with
  | none => exact (h.none (List.getLast?_eq_none_iff.1 hl)).symm
  | some p => exact h.last p hl
/-- Where the pages that count begin. -/
def limitP (ats : List Nat) (next : Nat) : Nat := match ats with | [] => next | a :: _ => a
theorem Says.tail_ge {first : Nat} {recs : List (List UInt8)} {ats : List Nat} {old tail : List Pg} {next : Nat} (hs : SortedP (old ++ tail)) (h2 : SegsP first recs ats tail) : ∀ p ∈ tail, limitP ats next ≤ p.pos := by
  intro p hp
  cases recs with
  | nil => obtain ⟨_, rfl⟩ := h2.nil; cases hp
  | cons r rs =>
    obtain ⟨q, l', a, as', rfl, rfl, ha⟩ := h2.head (by simp)
    show a ≤ p.pos
    rw [← ha]
    rcases List.mem_cons.1 hp with rfl | hp
    · exact Nat.le_refl _
    · have := (List.pairwise_append.1 hs).2.1
      exact Nat.le_of_lt ((List.pairwise_cons.1 this).1 p hp)
/-- Pages ahead of the limit, but the last one, may go. -/
theorem Says.filter {first : Nat} {recs : List (List UInt8)} {ats : List Nat} {L : List Pg} {next : Nat} (h : Says first recs ats L) (hn : ∀ p ∈ L, p.pos < next) (k : Pg → Bool) (hk : ∀ p ∈ L, k p = false → p.pos < limitP ats next) (hl : ∀ p, L.getLast? = some p → k p = true) :
    Says first recs ats (L.filter k) := by
  obtain ⟨old, tail, rfl, h1, h2⟩ := h.parts
  have ht : tail.filter k = tail := by
    rw [List.filter_eq_self]
    intro p hp
    cases hkp : k p with
    | true => rfl
    | false =>
      have a := hk p (List.mem_append_right _ hp) hkp
      have b := Says.tail_ge (next := next) h.sorted h2 p hp
      omega
  have hlast : ∀ p, ((old ++ tail).filter k).getLast? = some p → (old ++ tail).getLast? = some p := by
    intro p hp
    cases hL : (old ++ tail).getLast? with
    | none => rw [List.getLast?_eq_none_iff.1 hL] at hp; cases hp
    | some q =>
      obtain ⟨l', hl'⟩ := List.getLast?_eq_some_iff.1 hL
      rw [hl', List.filter_append, List.filter_cons, if_pos (hl q hL)] at hp
      simpa using hp
  refine ⟨h.sorted.sublist (List.filter_sublist), ⟨old.filter k, tail, by rw [List.filter_append, ht], fun p hp => h1 p (List.mem_filter.1 hp).1, h2⟩, fun p hp => h.last p (hlast p hp), fun hn => ?_⟩
  cases hL : (old ++ tail).getLast? with
  | none => exact h.none (List.getLast?_eq_none_iff.1 hL)
  | some q =>
    have hq := List.mem_of_getLast? hL
    have := List.mem_filter.2 ⟨hq, hl q hL⟩
    rw [hn] at this
    cases this
theorem sorted_snoc {l : List Pg} {p : Pg} (h : SortedP l) (hp : ∀ q ∈ l, q.pos < p.pos) : SortedP (l ++ [p]) := by
  unfold SortedP
  rw [List.pairwise_append]
  exact ⟨h, List.pairwise_singleton _ _, fun a ha b hb => by rw [List.mem_singleton.1 hb]; exact hp a ha⟩
/-- A page that ends no record, and says the same first number. -/
theorem Says.snoc {first : Nat} {recs : List (List UInt8)} {ats : List Nat} {L : List Pg} {p : Pg} (h : Says first recs ats L) (hp : HA p) (hq : ∀ q ∈ L, q.pos < p.pos) (hf : p.number - p.diff = first) : Says first recs ats (L ++ [p]) := by
  obtain ⟨old, tail, rfl, h1, h2⟩ := h.parts
  refine ⟨sorted_snoc h.sorted hq, ?_, fun q hq => by rw [List.getLast?_concat] at hq; injection hq with hq; subst hq; exact hf, fun e => by simp at e⟩
  by_cases hr : recs = []
  · subst hr
    obtain ⟨rfl, rfl⟩ := h2.nil
    refine ⟨old ++ [p], [], by simp, fun q hq => ?_, rfl⟩
    rcases List.mem_append.1 hq with h | h
    · exact h1 q h
    · rw [List.mem_singleton.1 h]; exact hp.harm _
  · exact ⟨old, tail ++ [p], by simp, h1, h2.snoc hp hr⟩
theorem Says.snocs {first : Nat} {recs : List (List UInt8)} {ats : List Nat} : ∀ (l : List Pg) {L : List Pg}, Says first recs ats L → (∀ p ∈ l, HA p ∧ p.number - p.diff = first) → SortedP (L ++ l) → Says first recs ats (L ++ l)
  | [], L, h, _, _ => by simpa using h
  | p :: l, L, h, hp, hs => by
    have e : L ++ p :: l = (L ++ [p]) ++ l := by simp
    rw [e] at hs ⊢
    have h1 := (List.pairwise_append.1 hs).1
    exact Says.snocs l (h.snoc (hp p List.mem_cons_self).1 (fun q hq => (List.pairwise_append.1 h1).2.2 q hq p (by simp)) (hp p List.mem_cons_self).2) (fun q hq => hp q (List.mem_cons_of_mem _ hq)) hs
/-- A whole record. -/
theorem Says.record {first : Nat} {recs : List (List UInt8)} {ats : List Nat} {L att : List Pg} {r : List UInt8} {p : Pg} (h : Says first recs ats L) (ha : AttP (first + recs.length) r 0 att) (hp : att.head? = some p) (hs : SortedP (L ++ att)) (hf : ∀ q ∈ att, q.number - q.diff = first) :
    Says first (recs ++ [r]) (ats ++ [p.pos]) (L ++ att) := by
  obtain ⟨old, tail, rfl, h1, h2⟩ := h.parts
  have hne : att ≠ [] := fun e => by rw [e] at hp; cases hp
  refine ⟨hs, ⟨old, tail ++ att, by simp, h1, h2.record hp ha⟩, fun q hq => hf q ?_, fun e => absurd (List.append_eq_nil_iff.1 e).2 hne⟩
  rw [List.getLast?_append] at hq
  cases hl : att.getLast? with
  | none => exact absurd (List.getLast?_eq_none_iff.1 hl) hne
  | some x =>
    rw [hl] at hq
    injection hq with hq
    subst hq
    exact List.mem_of_getLast? hl
/-- Records are dropped. -/
theorem Says.dropN {first n : Nat} {recs : List (List UInt8)} {ats : List Nat} {L : List Pg} {p : Pg} (h : Says first recs ats L) (hn : n ≤ recs.length) (hp : p.kind = 1) (hq : ∀ q ∈ L, q.pos < p.pos) (hf : p.number - p.diff = first + n) :
    Says (first + n) (recs.drop n) (ats.drop n) (L ++ [p]) := by
  obtain ⟨old, tail, rfl, h1, h2⟩ := h.parts
  obtain ⟨l1, l2, rfl, g1, g2⟩ := h2.dropN hn
  have hs := sorted_snoc h.sorted hq
  refine ⟨hs, ?_, fun q hq => by rw [List.getLast?_concat] at hq; injection hq with hq; subst hq; exact hf, fun e => by simp at e⟩
  have ho : ∀ q ∈ old ++ l1, Harm (first + n) q := fun q hq => by
    rcases List.mem_append.1 hq with h | h
    · exact (h1 q h).mono (by omega)
    · exact g1 q h
  by_cases hr : recs.drop n = []
  · rw [hr] at g2
    obtain ⟨ha, rfl⟩ := g2.nil
    rw [hr, ha]
    refine ⟨old ++ l1 ++ [p], [], by simp, fun q hq => ?_, rfl⟩
    rcases List.mem_append.1 hq with h | h
    · exact ho q h
    · rw [List.mem_singleton.1 h]; exact .inl hp
  · exact ⟨old ++ l1, l2 ++ [p], by simp, ho, g2.snoc (.inl hp) hr⟩
theorem says_nil : Says 0 [] [] [] := ⟨List.Pairwise.nil, ⟨[], [], rfl, (fun _ h => nomatch h), rfl⟩, (fun _ h => nomatch h), fun _ => rfl⟩
end Go.Proofs.YtlefilfdomjkeaaGreatDoor
namespace Go.Proofs.YtlefilfdomjkeaaGreatDoor
open Go

/-! ## Sorted pages -/
theorem mem_insP {p q : Pg} : ∀ {l : List Pg}, q ∈ insP p l ↔ q = p ∨ q ∈ l
  | [] => by simp [insP]
  | x :: l => by
    rw [insP]
    split
    · simp
    · rw [List.mem_cons, mem_insP, List.mem_cons]
      constructor
      · rintro (h | h | h)
        · exact .inr (.inl h)
        · exact .inl h
        · exact .inr (.inr h)
      · rintro (h | h | h)
        · exact .inr (.inl h)
        · exact .inl h
        · exact .inr (.inr h)
theorem sorted_insP {p : Pg} : ∀ {l : List Pg}, SortedP l → (∀ q ∈ l, q.pos ≠ p.pos) → SortedP (insP p l)
  | [], _, _ => List.pairwise_singleton _ _
  | x :: l, h, hn => by
    obtain ⟨h1, h2⟩ := List.pairwise_cons.1 h
    rw [insP]
    split
    · rename_i hx
      refine List.pairwise_cons.2 ⟨fun q hq => ?_, h⟩
      rcases List.mem_cons.1 hq with rfl | hq
      · exact hx
      · exact Nat.lt_trans hx (h1 q hq)
    · rename_i hx
      refine List.pairwise_cons.2 ⟨fun q hq => ?_, sorted_insP h2 fun q hq => hn q (List.mem_cons_of_mem _ hq)⟩
      rcases mem_insP.1 hq with rfl | hq
      · have := hn x List.mem_cons_self; omega
      · exact h1 q hq
theorem srt_go : ∀ (l acc : List Pg), SortedP acc → l.Pairwise (fun p q => p.pos ≠ q.pos) → (∀ p ∈ l, ∀ q ∈ acc, p.pos ≠ q.pos) →
    SortedP (l.foldl (fun acc p => insP p acc) acc) ∧ ∀ q, q ∈ l.foldl (fun acc p => insP p acc) acc ↔ q ∈ l ∨ q ∈ acc
  | [], acc, h, _, _ => ⟨h, fun q => by simp⟩
  | p :: l, acc, h, hp, hn => by
    obtain ⟨h1, h2⟩ := List.pairwise_cons.1 hp
    rw [List.foldl_cons]
    obtain ⟨g1, g2⟩ := srt_go l (insP p acc) (sorted_insP h fun q hq => (hn p List.mem_cons_self q hq).symm) h2 fun x hx q hq => by
      rcases mem_insP.1 hq with rfl | hq
      · exact (h1 x hx).symm
      · exact hn x (List.mem_cons_of_mem _ hx) q hq
    refine ⟨g1, fun q => ?_⟩
    rw [g2, mem_insP, List.mem_cons]
    constructor
    · rintro (h | h | h)
      · exact .inl (.inr h)
      · exact .inl (.inl h)
      · exact .inr h
    · rintro ((h | h) | h)
      · exact .inr (.inl h)
      · exact .inl h
      · exact .inr (.inr h)
theorem sorted_eq : ∀ {a b : List Pg}, SortedP a → SortedP b → (∀ p, p ∈ a ↔ p ∈ b) → a = b
  | [], [], _, _, _ => rfl
  | [], y :: b, _, _, h => by have := (h y).2 List.mem_cons_self; cases this
  | x :: a, [], _, _, h => by have := (h x).1 List.mem_cons_self; cases this
  | x :: a, y :: b, ha, hb, h => by
    obtain ⟨h1, h2⟩ := List.pairwise_cons.1 ha
    obtain ⟨g1, g2⟩ := List.pairwise_cons.1 hb
    have hxy : x = y := by
      rcases List.mem_cons.1 ((h x).1 List.mem_cons_self) with e | e
      · exact e
      · rcases List.mem_cons.1 ((h y).2 List.mem_cons_self) with e' | e'
        · exact e'.symm
        · have := h1 y e'; have := g1 x e; omega
    subst hxy
    congr 1
    refine sorted_eq h2 g2 fun p => ?_
    constructor
    · intro hp
      rcases List.mem_cons.1 ((h p).1 (List.mem_cons_of_mem _ hp)) with rfl | e
      · have := h1 p hp; omega
      · exact e
    · intro hp
      rcases List.mem_cons.1 ((h p).2 (List.mem_cons_of_mem _ hp)) with rfl | e
      · have := g1 p hp; omega
      · exact e

/-! ## The valid pages of a flash -/
theorem validAt_some {F : Fl} {i : Nat} {p : Pg} (h : validAt F i = some p) : ∃ s, pageAt F i = some s ∧ rdOk s.data.toList ∧ p = rdPg s.data.toList ∧ p.pos % (F.nb * F.np) = i := by
  unfold validAt at h
  split at h
  · cases h
  · rename_i s hs
    split at h
    · rename_i hc
      injection h with h
      subst h
      exact ⟨s, hs, hc.1, rfl, hc.2⟩
    · cases h
def MemP (F : Fl) (p : Pg) : Prop := ∃ i, i < F.nb * F.np ∧ validAt F i = some p
theorem MemP.at_ {F : Fl} {p : Pg} (h : MemP F p) : validAt F (p.pos % (F.nb * F.np)) = some p ∧ p.pos % (F.nb * F.np) < F.nb * F.np := by
  obtain ⟨i, hi, h⟩ := h
  obtain ⟨s, _, _, _, e⟩ := validAt_some h
  rw [e]
  exact ⟨h, hi⟩
theorem mem_vals {F : Fl} {p : Pg} : p ∈ vals F ↔ MemP F p := by
  unfold vals MemP
  rw [List.mem_filterMap]
  constructor
  · rintro ⟨i, hi, h⟩; exact ⟨i, List.mem_range.1 hi, h⟩
  · rintro ⟨i, hi, h⟩; exact ⟨i, List.mem_range.2 hi, h⟩
theorem vals_apart (F : Fl) : (vals F).Pairwise fun p q => p.pos ≠ q.pos := by
  unfold vals
  rw [List.pairwise_filterMap]
  refine List.Pairwise.imp (R := (· < ·)) ?_ List.pairwise_lt_range
  intro i j hij p hp q hq e
  obtain ⟨_, _, _, _, e1⟩ := validAt_some hp
  obtain ⟨_, _, _, _, e2⟩ := validAt_some hq
  rw [e, e2] at e1
  omega
theorem pages_sorted (F : Fl) : SortedP (pagesP F) := (srt_go (vals F) [] List.Pairwise.nil (vals_apart F) fun _ _ _ h => nomatch h).1
theorem mem_pages {F : Fl} {p : Pg} : p ∈ pagesP F ↔ MemP F p := by
  rw [← mem_vals]
  have := (srt_go (vals F) [] List.Pairwise.nil (vals_apart F) fun _ _ _ h => nomatch h).2 p
  unfold pagesP srtP
  rw [this]
  simp
theorem pages_eq {F : Fl} {L : List Pg} (hs : SortedP L) (hm : ∀ p, p ∈ L ↔ MemP F p) : pagesP F = L := sorted_eq (pages_sorted F) hs fun p => by rw [mem_pages, hm]
theorem pages_congr {F G : Fl} (hn : G.nb = F.nb) (hk : G.np = F.np) (h : ∀ i, i < F.nb * F.np → validAt G i = validAt F i) : pagesP G = pagesP F := by
  refine pages_eq (pages_sorted F) fun p => ?_
  rw [mem_pages]
  unfold MemP
  rw [hn, hk]
  constructor
  · rintro ⟨i, hi, e⟩; exact ⟨i, hi, by rw [h i hi]; exact e⟩
  · rintro ⟨i, hi, e⟩; exact ⟨i, hi, by rw [← h i hi]; exact e⟩

/-- Every page has a beginning of what a store wrote. -/
def PgInv (F : Fl) : Prop := ∀ i, i < F.nb * F.np → ∀ s, pageAt F i = some s → ∃ p : Pg, p.Good ∧ s.data.toList <+: txtP p ∧ p.pos % (F.nb * F.np) = i
theorem PgInv.valid {F : Fl} (h : PgInv F) {i : Nat} (hi : i < F.nb * F.np) {p : Pg} (hv : validAt F i = some p) : p.Good ∧ ∃ s, pageAt F i = some s ∧ s.data.toList = txtP p := by
  obtain ⟨s, hs, ho, hp, _⟩ := validAt_some hv
  obtain ⟨q, hq, hpre, _⟩ := h i hi s hs
  have e := rd_prefix hq hpre ho
  have : p = q := by rw [hp, e, rd_good hq]
  subst this
  exact ⟨hq, s, hs, e⟩
theorem PgInv.good {F : Fl} (h : PgInv F) {p : Pg} (hp : p ∈ pagesP F) : p.Good := by
  obtain ⟨i, hi, e⟩ := mem_pages.1 hp
  exact (h.valid hi e).1

/-! ## Indices -/
theorem idx_lt {nb np b g : Nat} (hb : b < nb) (hg : g < np) : b * np + g < nb * np := by
  have : (b + 1) * np ≤ nb * np := Nat.mul_le_mul_right _ hb
  rw [Nat.succ_mul] at this
  omega
theorem idx_div {np b g : Nat} (hg : g < np) : (b * np + g) / np = b := by
  rw [Nat.mul_comm, Nat.mul_add_div (by omega), Nat.div_eq_of_lt hg]; rfl
theorem idx_mod {np b g : Nat} (hg : g < np) : (b * np + g) % np = g := by
  rw [Nat.mul_comm, Nat.mul_add_mod, Nat.mod_eq_of_lt hg]
theorem idx_self (np i : Nat) : i / np * np + i % np = i := by
  rw [Nat.mul_comm]; exact Nat.div_add_mod i np
theorem pos_idx {nb np q : Nat} (hk : 0 < np) : q % (nb * np) = (q / np % nb) * np + q % np := by
  rw [Nat.mul_comm nb np, Nat.mod_mul, Nat.mul_comm]
  omega
theorem pos_div {nb np q : Nat} (hk : 0 < np) : q % (nb * np) / np = q / np % nb := by
  rw [pos_idx hk, idx_div (Nat.mod_lt _ hk)]
theorem pos_mod {nb np q : Nat} (hk : 0 < np) : q % (nb * np) % np = q % np := by
  rw [pos_idx hk, idx_mod (Nat.mod_lt _ hk)]

/-! ## What the calls change -/
theorem tick_at (F : Fl) : (∀ i, pageAt F.tick i = pageAt F i) ∧ F.tick.nb = F.nb ∧ F.tick.np = F.np := by
  obtain ⟨h1, h2, h3, _⟩ := F.tick_blk
  exact ⟨fun i => by unfold pageAt; rw [h1, h3], h2, h3⟩
theorem validAt_congr {F G : Fl} (hn : G.nb = F.nb) (hk : G.np = F.np) {i : Nat} (h : pageAt G i = pageAt F i) : validAt G i = validAt F i := by
  unfold validAt; rw [h, hn, hk]
theorem set_at {F : Fl} {b g : Nat} (hg : g < F.np) (s : ByteArray) (i : Nat) : pageAt (F.setPage b g s) i = if i = b * F.np + g then some s else pageAt F i := by
  unfold pageAt Fl.setPage
  dsimp only
  by_cases hb : i / F.np = b
  · rw [if_pos hb]
    dsimp only
    by_cases he : i % F.np = g
    · rw [if_pos he, if_pos (by rw [← hb, ← he]; exact (idx_self _ _).symm)]
    · rw [if_neg he, if_neg (fun e => he (by rw [e]; exact idx_mod hg)), hb]
  · rw [if_neg hb, if_neg (fun e => hb (by rw [e]; exact idx_div hg))]
theorem clear_at {F : Fl} {b m : Nat} (i : Nat) : pageAt (F.clear b m) i = if i / F.np = b ∧ m ≤ i % F.np then none else pageAt F i := by
  unfold pageAt Fl.clear
  dsimp only
  by_cases hb : i / F.np = b
  · rw [if_pos hb]
    dsimp only
    by_cases hm : m ≤ i % F.np
    · rw [if_pos hm, if_pos ⟨hb, hm⟩]
    · rw [if_neg hm, if_neg (fun e => hm e.2), hb]
  · rw [if_neg hb, if_neg (fun e => hb e.1)]
theorem worn_at (F : Fl) (b i : Nat) : pageAt (F.worn b) i = pageAt F i := by
  unfold pageAt Fl.worn
  dsimp only
  split
  · rename_i h; rw [h]
  · rfl

/-- What an erase does to the pages. -/
structure Erased (F G : Fl) (b : Nat) (e : Int) : Prop where
  nb : G.nb = F.nb
  np : G.np = F.np
  at_ : ∃ m, ∀ i, pageAt G i = if i / F.np = b ∧ m ≤ i % F.np then none else pageAt F i
  whole : e = 0 → (∀ i, i / F.np = b → pageAt G i = none) ∧ G.down = F.down
  down : e = 8 ↔ G.down = true
  lost : G.lost = F.lost
theorem erase_does {F : Fl} (ok : F.Ok) (hd : F.down = false) {b : Nat} (hb : b < F.nb) : Erased F (F.erase b).1 b (F.erase b).2 := by
  have ha : F.atErr b 0 = 0 := Fl.atErr_ok hd (by omega) (by omega) (by omega) (by have := ok.np; omega)
  obtain ⟨t1, t2, t3, t4, t5⟩ := F.tick_blk
  have tk : ∀ i, pageAt F.tick i = pageAt F i := (tick_at F).1
  unfold Fl.erase
  rw [if_neg (by rw [ha]; decide), Int.toNat_natCast]
  split
  · exact ⟨rfl, rfl, ⟨F.np, fun i => by rw [if_neg (fun e => by have := Nat.mod_lt i (show 0 < F.np by have := ok.np; omega); omega)]⟩, fun e => (by cases e), ⟨fun e => (by cases e), fun e => (by rw [hd] at e; cases e)⟩, rfl⟩
  · split
    · rename_i h1
      refine ⟨t2, t3, ⟨(min (max F.keep 0) F.np).toNat, fun i => ?_⟩, fun e => (by cases e), ⟨fun _ => h1, fun _ => rfl⟩, t4⟩
      rw [worn_at, clear_at, t3, tk]
    · rename_i h1
      have h1 : F.tick.down = false := by simpa using h1
      refine ⟨t2, t3, ⟨0, fun i => ?_⟩, fun _ => ⟨fun i hi => ?_, h1.trans hd.symm⟩, ⟨fun e => (by cases e), fun e => ?_⟩, t4⟩
      · rw [worn_at, clear_at, t3, tk]
      · rw [worn_at, clear_at, t3, if_pos ⟨hi, Nat.zero_le _⟩]
      · have e : F.tick.down = true := e
        rw [h1] at e; cases e
/-- What a program does to the pages. -/
structure Programmed (F G : Fl) (i : Nat) (s : List UInt8) (e : Int) : Prop where
  nb : G.nb = F.nb
  np : G.np = F.np
  other : ∀ j, j ≠ i → pageAt G j = pageAt F j
  done : e = 0 → pageAt F i = none ∧ pageAt G i = some ⟨s.toArray⟩ ∧ G.down = F.down
  torn : e = 8 → pageAt F i = none ∧ G.down = true ∧ ∃ t, pageAt G i = some t ∧ t.data.toList <+: s
  same : e ≠ 0 → e ≠ 8 → pageAt G i = pageAt F i ∧ G.down = F.down
theorem toList_mk (s : List UInt8) : (ByteArray.mk s.toArray).data.toList = s := rfl
theorem cut_prefix (F : Fl) (s : List UInt8) : (cut F ⟨s.toArray⟩).data.toList <+: s := by
  unfold cut
  rw [ByteArray.data_extract, Array.toList_extract, List.extract_eq_take_drop, List.drop_zero]
  exact List.take_prefix _ _
theorem later_none {F : Fl} {b g : Nat} (hg : g < F.np) (h : F.later b g = false) : (F.blk b).page g = none := by
  unfold Fl.later at h
  rw [List.any_eq_false] at h
  have := h 0 (List.mem_range.2 (by omega))
  simpa using this
theorem program_does {F : Fl} (ok : F.Ok) (hd : F.down = false) {b g : Nat} (hb : b < F.nb) (hg : g < F.np) (s : List UInt8) : Programmed F (F.program b g ⟨s.toArray⟩).1 (b * F.np + g) s (F.program b g ⟨s.toArray⟩).2 := by
  have ha : F.atErr b g = 0 := Fl.atErr_ok hd (by omega) (by omega) (by omega) (by omega)
  obtain ⟨t1, t2, t3, t4, t5⟩ := F.tick_blk
  have tk : ∀ i, pageAt F.tick i = pageAt F i := (tick_at F).1
  have hi : pageAt F (b * F.np + g) = (F.blk b).page g := by unfold pageAt; rw [idx_div hg, idx_mod hg]
  unfold Fl.program
  rw [if_neg (by rw [ha]; decide), Int.toNat_natCast, Int.toNat_natCast]
  split
  · exact ⟨rfl, rfl, fun _ _ => rfl, fun e => (by cases e), fun e => (by cases e), fun _ _ => ⟨rfl, rfl⟩⟩
  · split
    · exact ⟨rfl, rfl, fun _ _ => rfl, fun e => (by cases e), fun e => (by cases e), fun _ _ => ⟨rfl, rfl⟩⟩
    · rename_i hl
      have hl : F.later b g = false := by simpa using hl
      have h0 := hi.trans (later_none hg hl)
      split
      · rename_i h1
        refine ⟨t2, t3, fun j hj => ?_, fun e => (by cases e), fun _ => ⟨h0, h1, cut F ⟨s.toArray⟩, ?_, cut_prefix F s⟩, fun _ h => absurd rfl h⟩
        · rw [set_at (by rw [t3]; exact hg), t3, if_neg hj, tk]
        · rw [set_at (by rw [t3]; exact hg), t3, if_pos rfl]
      · rename_i h1
        have h1 : F.tick.down = false := by simpa using h1
        split
        · refine ⟨t2, t3, fun j hj => ?_, fun e => (by cases e), fun e => (by cases e), fun _ _ => ⟨?_, h1.trans hd.symm⟩⟩
          · exact tk j
          · exact tk _
        · refine ⟨t2, t3, fun j hj => ?_, fun _ => ⟨h0, ?_, h1.trans hd.symm⟩, fun e => (by cases e), fun h => absurd rfl h⟩
          · rw [set_at (by rw [t3]; exact hg), t3, if_neg hj, tk]
          · rw [set_at (by rw [t3]; exact hg), t3, if_pos rfl]
end Go.Proofs.YtlefilfdomjkeaaGreatDoor
namespace Go.Proofs.YtlefilfdomjkeaaGreatDoor
open Go

/-- Some pages ahead of a limit are gone, the last one is not. -/
def Shrunk (lim : Nat) (L L' : List Pg) : Prop := ∃ k : Pg → Bool, L' = L.filter k ∧ (∀ p ∈ L, k p = false → p.pos < lim) ∧ ∀ p, L.getLast? = some p → k p = true
theorem Shrunk.refl (lim : Nat) (L : List Pg) : Shrunk lim L L := ⟨fun _ => true, (List.filter_eq_self.2 fun _ _ => rfl).symm, fun _ _ h => (by cases h), fun _ _ => rfl⟩
theorem filter_last {L : List Pg} {k : Pg → Bool} (h : ∀ p, L.getLast? = some p → k p = true) : (L.filter k).getLast? = L.getLast? := by
  cases hL : L.getLast? with
  | none => rw [List.getLast?_eq_none_iff.1 hL]; rfl
  | some q =>
    obtain ⟨l', hl'⟩ := List.getLast?_eq_some_iff.1 hL
    rw [hl', List.filter_append, List.filter_cons, if_pos (h q hL)]
    simp
theorem Shrunk.last {lim : Nat} {L L' : List Pg} (h : Shrunk lim L L') : L'.getLast? = L.getLast? := by
  obtain ⟨k, rfl, _, h2⟩ := h
  exact filter_last h2
theorem Shrunk.sub {lim : Nat} {L L' : List Pg} (h : Shrunk lim L L') : ∀ p ∈ L', p ∈ L := by
  obtain ⟨k, rfl, _, _⟩ := h
  exact fun p hp => (List.mem_filter.1 hp).1
theorem Shrunk.trans {lim : Nat} {A B C : List Pg} (h1 : Shrunk lim A B) (h2 : Shrunk lim B C) : Shrunk lim A C := by
  have hl := h1.last
  obtain ⟨k, rfl, a1, a2⟩ := h1
  obtain ⟨k', rfl, b1, b2⟩ := h2
  refine ⟨fun p => k' p && k p, by rw [List.filter_filter], fun p hp h => ?_, fun p hp => ?_⟩
  · cases hk : k p with
    | false => exact a1 p hp hk
    | true =>
      have h : (k' p && k p) = false := h
      rw [hk, Bool.and_true] at h
      exact b1 p (List.mem_filter.2 ⟨hp, hk⟩) h
  · show (k' p && k p) = true
    rw [a2 p hp, b2 p (hl.trans hp)]; rfl
/-- What is ahead of pages behind the limit alone shrinks. -/
theorem Shrunk.cut {lim : Nat} {L att C : List Pg} (h : Shrunk lim (L ++ att) C) (ha : ∀ p ∈ att, lim ≤ p.pos) (hl : ∀ p, L.getLast? = some p → p ∈ C) : ∃ L', C = L' ++ att ∧ Shrunk lim L L' := by
  obtain ⟨k, rfl, a1, a2⟩ := h
  have e : att.filter k = att := by
    rw [List.filter_eq_self]
    intro p hp
    cases hk : k p with
    | true => rfl
    | false => have := a1 p (List.mem_append_right _ hp) hk; have := ha p hp; omega
  refine ⟨L.filter k, by rw [List.filter_append, e], k, rfl, fun p hp => a1 p (List.mem_append_left _ hp), fun p hp => ?_⟩
  exact (List.mem_filter.1 (hl p hp)).2

/-- While pages are written: att has come behind what there was. -/
structure Wr (L0 : List Pg) (lim : Nat) (nb np : Nat) (F : Fl) (next : Nat) (att : List Pg) : Prop where
  ok : F.Ok
  hnb : F.nb = nb
  hnp : F.np = np
  inv : PgInv F
  pages : ∃ L', Shrunk lim L0 L' ∧ pagesP F = L' ++ att
  lt : ∀ p ∈ pagesP F, p.pos < next
  near : ∀ p, (pagesP F).getLast? = some p → next / np * np ≤ p.pos + np
  ge : ∀ p ∈ att, lim ≤ p.pos

theorem Erased.pages {F G : Fl} {b : Nat} {e : Int} (hk : 0 < F.np) (h : Erased F G b e) : ∃ m, pagesP G = (pagesP F).filter (fun p => !decide (p.pos / F.np % F.nb = b ∧ m ≤ p.pos % F.np)) := by
  obtain ⟨m, hm⟩ := h.at_
  refine ⟨m, pages_eq ((pages_sorted F).sublist List.filter_sublist) fun p => ?_⟩
  rw [List.mem_filter, mem_pages]
  constructor
  · rintro ⟨hp, hc⟩
    obtain ⟨h1, h2⟩ := hp.at_
    refine ⟨_, by rw [h.nb, h.np]; exact h2, ?_⟩
    rw [validAt_congr h.nb h.np (F := F)]
    · exact h1
    · rw [hm, if_neg]
      rw [pos_div hk, pos_mod hk]
      intro hx
      rw [decide_eq_true hx] at hc
      cases hc
  · rintro ⟨i, hi, hv⟩
    rw [h.nb, h.np] at hi
    obtain ⟨s, hs, ho, hp, hi'⟩ := validAt_some hv
    rw [h.nb, h.np] at hi'
    have hc : ¬ (i / F.np = b ∧ m ≤ i % F.np) := fun hc => by rw [hm, if_pos hc] at hs; cases hs
    have he : pageAt G i = pageAt F i := by rw [hm, if_neg hc]
    refine ⟨⟨i, hi, by rw [← validAt_congr h.nb h.np he]; exact hv⟩, ?_⟩
    rw [← hi', pos_div hk, pos_mod hk] at hc
    rw [decide_eq_false hc]; rfl
theorem Erased.inv {F G : Fl} {b : Nat} {e : Int} (h : Erased F G b e) (hi : PgInv F) : PgInv G := by
  obtain ⟨m, hm⟩ := h.at_
  intro i hlt s hs
  rw [h.nb, h.np] at hlt ⊢
  rw [hm] at hs
  split at hs
  · cases hs
  · exact hi i hlt s hs
theorem Programmed.inv {F G : Fl} {p : Pg} {e : Int} (h : Programmed F G (p.pos % (F.nb * F.np)) (txtP p) e) (hp : p.Good) (hi : PgInv F) : PgInv G := by
  intro i hlt s hs
  rw [h.nb, h.np] at hlt ⊢
  by_cases hx : i = p.pos % (F.nb * F.np)
  · by_cases h0 : e = 0
    · obtain ⟨_, h1, _⟩ := h.done h0
      rw [hx, h1] at hs
      injection hs with hs
      subst hs
      exact ⟨p, hp, List.prefix_rfl, hx.symm⟩
    · by_cases h8 : e = 8
      · obtain ⟨_, _, t, ht, hpre⟩ := h.torn h8
        rw [hx, ht] at hs
        injection hs with hs
        subst hs
        exact ⟨p, hp, hpre, hx.symm⟩
      · rw [hx, (h.same h0 h8).1, ← hx] at hs
        exact hi i hlt s hs
  · rw [h.other i hx] at hs
    exact hi i hlt s hs
/-- One more page is there. -/
theorem pages_more {F G : Fl} {p : Pg} (hn : G.nb = F.nb) (hk : G.np = F.np) (hpos : 0 < F.nb * F.np) (ho : ∀ j, j ≠ p.pos % (F.nb * F.np) → pageAt G j = pageAt F j) (h0 : pageAt F (p.pos % (F.nb * F.np)) = none)
    (h1 : pageAt G (p.pos % (F.nb * F.np)) = some ⟨(txtP p).toArray⟩) (hp : p.Good) (hlt : ∀ q ∈ pagesP F, q.pos < p.pos) : pagesP G = pagesP F ++ [p] := by
  refine pages_eq (sorted_snoc (pages_sorted F) hlt) fun q => ?_
  have hv : validAt G (p.pos % (F.nb * F.np)) = some p := by
    unfold validAt
    rw [h1]
    dsimp only
    rw [if_pos ⟨ok_good hp, by rw [rd_good hp, hn, hk]⟩, rd_good hp]
  have hv0 : validAt F (p.pos % (F.nb * F.np)) = none := by unfold validAt; rw [h0]
  rw [List.mem_append, List.mem_singleton, mem_pages]
  constructor
  · rintro (⟨i, hi, h⟩ | rfl)
    · refine ⟨i, by rw [hn, hk]; exact hi, ?_⟩
      rw [validAt_congr hn hk (ho i fun e => by rw [e, hv0] at h; cases h)]
      exact h
    · exact ⟨_, by rw [hn, hk]; exact Nat.mod_lt _ hpos, hv⟩
  · rintro ⟨i, hi, h⟩
    rw [hn, hk] at hi
    by_cases e : i = p.pos % (F.nb * F.np)
    · rw [e, hv] at h
      injection h with h
      exact .inr h.symm
    · rw [validAt_congr hn hk (ho i e)] at h
      exact .inl ⟨i, hi, h⟩
theorem pages_same {F G : Fl} {i : Nat} (hn : G.nb = F.nb) (hk : G.np = F.np) (ho : ∀ j, j ≠ i → pageAt G j = pageAt F j) (hi : i < F.nb * F.np → validAt G i = validAt F i) : pagesP G = pagesP F :=
  pages_congr hn hk fun j hj => by
    by_cases e : j = i
    · subst e; exact hi hj
    · exact validAt_congr hn hk (ho j e)
/-- What a program makes of the pages. -/
theorem Programmed.pages {F G : Fl} {p : Pg} {e : Int} (h : Programmed F G (p.pos % (F.nb * F.np)) (txtP p) e) (hpos : 0 < F.nb * F.np) (hp : p.Good) (hlt : ∀ q ∈ pagesP F, q.pos < p.pos) :
    (e = 0 → pagesP G = pagesP F ++ [p]) ∧ (e = 8 → pagesP G = pagesP F ∨ pagesP G = pagesP F ++ [p]) ∧ (e ≠ 0 → e ≠ 8 → pagesP G = pagesP F) := by
  refine ⟨fun h0 => ?_, fun h8 => ?_, fun h0 h8 => ?_⟩
  · obtain ⟨a, b, _⟩ := h.done h0
    exact pages_more h.nb h.np hpos h.other a b hp hlt
  · obtain ⟨a, _, t, b, c⟩ := h.torn h8
    by_cases ho : rdOk t.data.toList
    · have e := rd_prefix hp c ho
      have et : t = ⟨(txtP p).toArray⟩ := by
        cases t with | mk d => simp only at e; rw [← e]
      rw [et] at b
      exact .inr (pages_more h.nb h.np hpos h.other a b hp hlt)
    · refine .inl (pages_same h.nb h.np h.other fun _ => ?_)
      unfold validAt
      rw [a, b]
      dsimp only
      rw [if_neg fun hc => ho hc.1]
  · exact pages_same h.nb h.np h.other fun _ => validAt_congr h.nb h.np (h.same h0 h8).1

theorem last_of_snoc {L : List Pg} {p : Pg} : (L ++ [p]).getLast? = some p := List.getLast?_concat
theorem next_block {k n : Nat} (hk : 0 < k) : (n + 1) / k * k ≤ n + k ∧ n < n / k * k + k := by
  have h1 := Nat.div_add_mod (n + 1) k
  have h2 := Nat.div_add_mod n k
  have h3 := Nat.mod_lt n hk
  rw [Nat.mul_comm] at h1 h2
  omega
/-- How one page is written. -/
structure Step (L0 : List Pg) (lim nb np : Nat) (S : St) (att : List Pg) (p : Pg) (G : Fl) (T : St) (e : Int) : Prop where
  good : e = 0 → Wr L0 lim nb np G (S.next + 1) (att ++ [p]) ∧ G.down = false ∧ T = { S with next := S.next + 1 }
  bad : e ≠ 0 → T = S ∧ (e = 8 ↔ G.down = true) ∧ (Wr L0 lim nb np G S.next att ∨ (e = 8 ∧ Wr L0 lim nb np G (S.next + 1) (att ++ [p])))
theorem prog_isOk {F : Fl} (h : F.Ok) (b g : Int) (s : ByteArray) : (F.program b g s).1.Ok := by
  unfold Fl.program
  split
  · exact h
  · split
    · exact h
    · split
      · exact h
      · split
        · exact Fl.setPage_ok (Fl.tick_ok h) _ _ _
        · split
          · rename_i h0; exact Fl.lost_ok h h0
          · exact Fl.setPage_ok (Fl.tick_ok h) _ _ _
theorem worn_ok {F : Fl} (h : F.Ok) {n : Nat} (hw : (F.blk n).wear < 1000) : (F.worn n).Ok := ⟨h.nb, h.np, h.lost, h.left, fun i hi => by
  rw [Fl.worn_wear]
  have := h.wear i hi
  split
  · rename_i e; subst e; omega
  · exact this⟩
theorem erase_ok' {F : Fl} (h : F.Ok) (b : Int) : (F.erase b).1.Ok := by
  unfold Fl.erase
  split
  · exact h
  · split
    · exact h
    · rename_i hw
      have e : (F.tick.blk b.toNat).wear < 1000 := by rw [F.tick_wear]; omega
      split
      · exact worn_ok (Fl.clear_ok (Fl.tick_ok h) _ _) (by rw [Fl.clear_wear]; exact e)
      · exact worn_ok (Fl.clear_ok (Fl.tick_ok h) _ _) (by rw [Fl.clear_wear]; exact e)
theorem mul_pos' {F : Fl} (ok : F.Ok) : 0 < F.nb * F.np := Nat.mul_pos (by have := ok.nb; omega) (by have := ok.np; omega)
theorem prog_step {L0 : List Pg} {lim nb np : Nat} {F : Fl} {S : St} {att : List Pg} {p : Pg} (h : Wr L0 lim nb np F S.next att) (hd : F.down = false) (hp : p.Good) (hpos : p.pos = S.next) (hge : lim ≤ S.next) :
    Step L0 lim nb np S att p (progP F S (txtP p)).1 (progP F S (txtP p)).2.1 (progP F S (txtP p)).2.2 := by
  have hk : 0 < F.np := by have := h.ok.np; omega
  have hnb : 0 < F.nb := by have := h.ok.nb; omega
  have P := program_does h.ok hd (b := S.next / F.np % F.nb) (g := S.next % F.np) (Nat.mod_lt _ hnb) (Nat.mod_lt _ hk) (txtP p)
  have ok' := prog_isOk h.ok (S.next / F.np % F.nb : Nat) (S.next % F.np : Nat) ⟨(txtP p).toArray⟩
  have hidx : S.next / F.np % F.nb * F.np + S.next % F.np = p.pos % (F.nb * F.np) := by rw [hpos]; exact (pos_idx hk).symm
  rw [hidx] at P
  have inv' := P.inv hp h.inv
  obtain ⟨g0, g8, g1⟩ := P.pages (mul_pos' h.ok) hp (fun q hq => by rw [hpos]; exact h.lt q hq)
  obtain ⟨G, hG⟩ : ∃ G, (F.program (S.next / F.np % F.nb : Nat) (S.next % F.np : Nat) ⟨(txtP p).toArray⟩).1 = G := ⟨_, rfl⟩
  obtain ⟨e, he⟩ : ∃ e, (F.program (S.next / F.np % F.nb : Nat) (S.next % F.np : Nat) ⟨(txtP p).toArray⟩).2 = e := ⟨_, rfl⟩
  unfold progP
  rw [hG, he] at P
  rw [hG] at ok' inv' g0 g8 g1
  rw [he] at g0 g8 g1
  rw [hG, he]
  obtain ⟨L', s1, s2⟩ := h.pages
  have more : pagesP G = pagesP F ++ [p] → Wr L0 lim nb np G (S.next + 1) (att ++ [p]) := fun hpg => by
    refine ⟨ok', P.nb.trans h.hnb, P.np.trans h.hnp, inv', ⟨L', s1, by rw [hpg, s2, List.append_assoc]⟩, fun q hq => ?_, fun q hq => ?_, fun q hq => ?_⟩
    · rw [hpg] at hq
      rcases List.mem_append.1 hq with hq | hq
      · have := h.lt q hq; omega
      · rw [List.mem_singleton.1 hq, hpos]; omega
    · rw [hpg, last_of_snoc] at hq
      injection hq with hq
      subst hq
      rw [hpos]
      exact (next_block (by rw [← h.hnp]; exact hk)).1
    · rcases List.mem_append.1 hq with hq | hq
      · exact h.ge q hq
      · rw [List.mem_singleton.1 hq, hpos]; exact hge
  have same : pagesP G = pagesP F → Wr L0 lim nb np G S.next att := fun hpg =>
    ⟨ok', P.nb.trans h.hnb, P.np.trans h.hnp, inv', ⟨L', s1, by rw [hpg, s2]⟩, fun q hq => h.lt q (by rw [← hpg]; exact hq), fun q hq => h.near q (by rw [← hpg]; exact hq), h.ge⟩
  by_cases h0 : e = 0
  · rw [if_pos h0]
    exact ⟨fun _ => ⟨more (g0 h0), (P.done h0).2.2.trans hd, rfl⟩, fun hx => absurd rfl hx⟩
  · rw [if_neg h0]
    refine ⟨fun hx => absurd hx h0, fun _ => ⟨rfl, ⟨fun h8 => (P.torn h8).2.1, fun hx => Classical.byContradiction fun h8 => ?_⟩, ?_⟩⟩
    · have := (P.same h0 h8).2
      rw [hd] at this
      exact absurd (hx.symm.trans this) (by decide)
    · by_cases h8 : e = 8
      · rcases g8 h8 with hg | hg
        · exact .inl (same hg)
        · exact .inr ⟨h8, more hg⟩
      · exact .inl (same (g1 h0 h8))
theorem erase_step {L0 : List Pg} {lim nb np : Nat} {F : Fl} {next : Nat} {att : List Pg} (h : Wr L0 lim nb np F next att) (hd : F.down = false) (hz : next % F.np = 0) (hfit : (next / np + 1) * np ≤ lim + nb * np)
    (hkeep : ∀ q, L0.getLast? = some q → (next / np + 1) * np ≤ q.pos + nb * np) {G : Fl} {e : Int} (ok' : G.Ok) (E : Erased F G (next / F.np % F.nb) e) : Wr L0 lim nb np G next att := by
  have hk : 0 < F.np := by have := h.ok.np; omega
  have hnb : 0 < F.nb := by have := h.ok.nb; omega
  obtain ⟨m, hm⟩ := E.pages hk
  obtain ⟨L', s1, s2⟩ := h.pages
  have gone : ∀ q ∈ pagesP F, (!decide (q.pos / F.np % F.nb = next / F.np % F.nb ∧ m ≤ q.pos % F.np)) = false → q.pos + nb * np < (next / np + 1) * np := by
    intro q hq hc
    have hc : q.pos / F.np % F.nb = next / F.np % F.nb ∧ m ≤ q.pos % F.np := by simpa using hc
    have hlt := h.lt q hq
    have e1 := hc.1
    rw [h.hnp, h.hnb] at e1
    rw [h.hnp] at hz hk
    rw [h.hnb] at hnb
    have d1 := Nat.div_add_mod next np
    have d2 := Nat.div_add_mod q.pos np
    have d3 := Nat.mod_lt q.pos hk
    have hYX : q.pos / np < next / np := Nat.lt_of_mul_lt_mul_left (a := np) (by omega)
    have c1 := Nat.div_add_mod (q.pos / np) nb
    have c2 := Nat.div_add_mod (next / np) nb
    have hq : q.pos / np / nb < next / np / nb := Nat.lt_of_mul_lt_mul_left (a := nb) (by omega)
    have hmul : nb * (q.pos / np / nb + 1) ≤ nb * (next / np / nb) := Nat.mul_le_mul_left _ hq
    rw [Nat.mul_add, Nat.mul_one] at hmul
    have hY : q.pos / np + nb ≤ next / np := by omega
    have hZ : np * (q.pos / np + nb) ≤ np * (next / np) := Nat.mul_le_mul_left _ hY
    rw [Nat.mul_add] at hZ
    rw [Nat.add_mul, Nat.one_mul, Nat.mul_comm nb np, Nat.mul_comm (next / np) np]
    omega
  have hlastL' := s1.last
  have hsh : Shrunk lim (L' ++ att) (pagesP G) := by
    refine ⟨_, by rw [hm, s2], fun q hq hc => ?_, fun q hq => ?_⟩
    · have := gone q (by rw [s2]; exact hq) hc
      omega
    · cases hc : (!decide (q.pos / F.np % F.nb = next / F.np % F.nb ∧ m ≤ q.pos % F.np)) with
      | true => rfl
      | false =>
        have hg := gone q (by rw [s2]; exact List.mem_of_getLast? hq) hc
        cases att with
        | nil =>
          rw [List.append_nil, hlastL'] at hq
          have := hkeep q hq
          omega
        | cons a att =>
          rw [List.getLast?_append] at hq
          cases hl : (a :: att).getLast? with
          | none => simp at hl
          | some x =>
            rw [hl] at hq
            injection hq with hq
            subst hq
            have := h.ge x (List.mem_of_getLast? hl)
            omega
  obtain ⟨L'', hL, hs⟩ := hsh.cut h.ge fun q hq => by
    rw [hm, List.mem_filter]
    refine ⟨by rw [s2]; exact List.mem_append_left _ (List.mem_of_getLast? hq), ?_⟩
    cases hc : (!decide (q.pos / F.np % F.nb = next / F.np % F.nb ∧ m ≤ q.pos % F.np)) with
    | true => rfl
    | false =>
      have hg := gone q (by rw [s2]; exact List.mem_append_left _ (List.mem_of_getLast? hq)) hc
      rw [hlastL'] at hq
      have := hkeep q hq
      omega
  have hlast : (pagesP G).getLast? = (pagesP F).getLast? := by rw [s2]; exact hsh.last
  exact ⟨ok', E.nb.trans h.hnb, E.np.trans h.hnp, E.inv h.inv, ⟨L'', s1.trans hs, hL⟩, fun q hq => h.lt q (by rw [hm] at hq; exact (List.mem_filter.1 hq).1), fun q hq => h.near q (by rw [← hlast]; exact hq), h.ge⟩
theorem write_step {L0 : List Pg} {lim nb np : Nat} {F : Fl} {S : St} {att : List Pg} {p : Pg} (h : Wr L0 lim nb np F S.next att) (hd : F.down = false) (hp : p.Good) (hpos : p.pos = S.next) (hge : lim ≤ S.next)
    (hfit : (S.next / np + 1) * np ≤ lim + nb * np) (hkeep : ∀ q, L0.getLast? = some q → (S.next / np + 1) * np ≤ q.pos + nb * np) :
    Step L0 lim nb np S att p (writeP F S (txtP p)).1 (writeP F S (txtP p)).2.1 (writeP F S (txtP p)).2.2 := by
  unfold writeP
  split
  · rename_i hc
    have hnb : 0 < F.nb := by have := h.ok.nb; omega
    have E := erase_does h.ok hd (b := S.next / F.np % F.nb) (Nat.mod_lt _ hnb)
    have ok' := erase_ok' h.ok (S.next / F.np % F.nb : Nat)
    have W := erase_step h hd hc.1 hfit hkeep ok' E
    split
    · rename_i h0
      exact prog_step W ((E.whole h0).2.trans hd) hp hpos hge
    · rename_i h0
      exact ⟨fun hx => absurd hx h0, fun _ => ⟨rfl, E.down, .inl W⟩⟩
  · exact prog_step h hd hp hpos hge
end Go.Proofs.YtlefilfdomjkeaaGreatDoor
namespace Go.Proofs.YtlefilfdomjkeaaGreatDoor
open Go

/-! ## The pieces of a record -/
theorem numE_small {n : Nat} (h : n ≤ 1000000) : (numE n).length ≤ 8 := by
  unfold numE; rw [if_neg (by omega)]; unfold intE
  rw [List.length_append]
  have := itoa_len_small n (by omega)
  simp only [List.length_singleton]
  omega
theorem hdr_len {p : Pg} (h1 : p.kind ≤ 1000000) (h2 : p.pos ≤ 1000000) (h3 : p.number ≤ 1000000) (h4 : p.diff ≤ 1000000) (h5 : p.offset ≤ 1000000) (h6 : p.rest ≤ 1000000) : (hdrP p).length ≤ 48 := by
  unfold hdrP
  simp only [List.length_append]
  have := numE_small h1; have := numE_small h2; have := numE_small h3; have := numE_small h4; have := numE_small h5; have := numE_small h6
  omega
/-- The bounds under which a store works. -/
structure St.Small (S : St) (r : List UInt8) : Prop where
  next : S.next + r.length + 1 ≤ 1000000
  len : S.len ≤ 1000000
theorem head_room {S : St} {r : List UInt8} (h : S.Small r) {i f : Nat} (hf : f ≤ r.length) (hi : i ≤ f) : 16 ≤ 64 - ((hdrP (headP S r i f)).length : Int) := by
  have h1 := h.next; have h2 := h.len
  have : (hdrP (headP S r i f)).length ≤ 48 := hdr_len (show (0 : Nat) ≤ _ by omega) (show S.next + i ≤ _ by omega) h2 (show S.recs.length ≤ _ by unfold St.len at h2; omega) (show f ≤ _ by omega) (show r.length - f ≤ _ by omega)
  omega
theorem piece_len {S : St} {r : List UInt8} (h : S.Small r) {i f : Nat} (hf : f ≤ r.length) (hi : i ≤ f) : ((pieceP S r i f).bytes.length : Int) = roomP (headP S r i f) ∧ (pieceP S r i f).bytes.length = min (r.length - f) (64 - (hdrP (headP S r i f)).length) := by
  have hr := head_room h hf hi
  have e : roomP (headP S r i f) = min ((r.length - f : Nat) : Int) (64 - ((hdrP (headP S r i f)).length : Int)) := by
    unfold roomP; rw [if_neg (by show ¬ (0 : Nat) = 1; decide)]; rfl
  have e2 : (roomP (headP S r i f)).toNat = min (r.length - f) (64 - (hdrP (headP S r i f)).length) := by rw [e]; omega
  have e3 : (pieceP S r i f).bytes.length = min (r.length - f) (64 - (hdrP (headP S r i f)).length) := by
    show ((r.drop f).take (roomP (headP S r i f)).toNat).length = _
    rw [List.length_take, List.length_drop, e2]
    omega
  exact ⟨by rw [e3, e]; omega, e3⟩
theorem piece_good {S : St} {r : List UInt8} (h : S.Small r) {i f : Nat} (hf : f ≤ r.length) (hi : i ≤ f) : (pieceP S r i f).Good := by
  have h1 := h.next; have h2 := h.len
  have e : hdrP (pieceP S r i f) = hdrP (headP S r i f) := rfl
  refine ⟨⟨.inl rfl, show S.recs.length ≤ S.len by unfold St.len; omega, ?_⟩, show S.next + i ≤ _ by omega, h2, show f ≤ _ by omega, show r.length - f ≤ _ by omega⟩
  rw [(piece_len h hf hi).1]
  rfl
theorem piece_piece {S : St} {r : List UInt8} {i f : Nat} (hf : f ≤ r.length) : Piece S.len r f (pieceP S r i f) := by
  refine ⟨rfl, rfl, rfl, rfl, hf, ?_⟩
  show (r.drop f).take _ = (r.drop f).take ((r.drop f).take _).length
  rw [List.length_take]
  by_cases hx : (roomP (headP S r i f)).toNat ≤ (r.drop f).length
  · rw [Nat.min_eq_left hx]
  · rw [Nat.min_eq_right (by omega), List.take_of_length_le (by omega), List.take_length]
/-- Positions one after the other. -/
def RunP : Nat → List Pg → Prop
  | _, [] => True
  | n, p :: l => p.pos = n ∧ RunP (n + 1) l
theorem pieces_run (S : St) (r : List UInt8) : ∀ (n i f : Nat), RunP (S.next + i) (piecesP S r n i f)
  | 0, _, _ => trivial
  | n + 1, i, f => by
    rw [piecesP]
    split
    · exact ⟨rfl, pieces_run S r n (i + 1) _⟩
    · trivial
theorem pieces_all {S : St} {r : List UInt8} (h : S.Small r) : ∀ (n i f : Nat), f ≤ r.length → i ≤ f → ∀ p ∈ piecesP S r n i f, p.Good ∧ p.number - p.diff = S.first
  | 0, _, _, _, _, p, hp => nomatch hp
  | n + 1, i, f, hf, hi, p, hp => by
    rw [piecesP] at hp
    split at hp
    · rename_i hc
      have hl := (piece_len h hf hi).2
      have hr := head_room h hf hi
      rcases List.mem_cons.1 hp with rfl | hp
      · exact ⟨piece_good h hf hi, show S.len - S.recs.length = S.first by unfold St.len; omega⟩
      · by_cases hx : f + (pieceP S r i f).bytes.length < r.length ∨ i + 1 = 0
        · exact pieces_all h n (i + 1) _ (by omega) (by omega) p hp
        · cases n with
          | zero => exact nomatch hp
          | succ n => rw [piecesP, if_neg hx] at hp; exact nomatch hp
    · exact nomatch hp
theorem pieces_att {S : St} {r : List UInt8} (h : S.Small r) : ∀ (n i f : Nat), f ≤ r.length → i ≤ f → r.length - f < n → (f < r.length ∨ i = 0) → AttP S.len r f (piecesP S r n i f)
  | 0, _, _, _, _, hn, _ => by omega
  | n + 1, i, f, hf, hi, hn, hc => by
    have hl := (piece_len h hf hi).2
    have hr := head_room h hf hi
    have hrest : (pieceP S r i f).rest = r.length - f := rfl
    rw [piecesP, if_pos hc]
    by_cases hx : f + (pieceP S r i f).bytes.length < r.length
    · have ih := pieces_att h n (i + 1) (f + (pieceP S r i f).bytes.length) (by omega) (by omega) (by omega) (.inl hx)
      cases hp : piecesP S r n (i + 1) (f + (pieceP S r i f).bytes.length) with
      | nil => rw [hp] at ih; exact ih.elim
      | cons q l => rw [hp] at ih; exact ⟨piece_piece hf, by omega, by omega, ih⟩
    · have : piecesP S r n (i + 1) (f + (pieceP S r i f).bytes.length) = [] := by
        cases n with
        | zero => rfl
        | succ n => rw [piecesP, if_neg (by omega)]
      rw [this]
      exact ⟨piece_piece hf, by omega⟩
theorem pieces_count {S : St} {r : List UInt8} (h : S.Small r) : ∀ (n i f : Nat), f ≤ r.length → i ≤ f → (piecesP S r n i f).length * 16 ≤ r.length - f + 16
  | 0, _, _, _, _ => by rw [piecesP]; simp
  | n + 1, i, f, hf, hi => by
    have hl := (piece_len h hf hi).2
    have hr := head_room h hf hi
    rw [piecesP]
    split
    · rename_i hc
      rw [List.length_cons]
      by_cases hx : f + (pieceP S r i f).bytes.length < r.length
      · have := pieces_count h n (i + 1) (f + (pieceP S r i f).bytes.length) (by omega) (by omega)
        omega
      · have : piecesP S r n (i + 1) (f + (pieceP S r i f).bytes.length) = [] := by
          cases n with
          | zero => rfl
          | succ n => rw [piecesP, if_neg (by omega)]
        rw [this]
        simp
    · simp
theorem rec_att {S : St} {r : List UInt8} (h : S.Small r) : AttP S.len r 0 (recP S r) := pieces_att h _ 0 0 (Nat.zero_le _) (Nat.le_refl _) (by omega) (.inr rfl)
theorem rec_all {S : St} {r : List UInt8} (h : S.Small r) : ∀ p ∈ recP S r, p.Good ∧ p.number - p.diff = S.first := pieces_all h _ 0 0 (Nat.zero_le _) (Nat.le_refl _)
theorem rec_run (S : St) (r : List UInt8) : RunP S.next (recP S r) := pieces_run S r _ 0 0
theorem rec_count {S : St} {r : List UInt8} (h : S.Small r) : (recP S r).length * 16 ≤ r.length + 16 := pieces_count h _ 0 0 (Nat.zero_le _) (Nat.le_refl _)
theorem att_ne {n f : Nat} {r : List UInt8} {l : List Pg} (h : AttP n r f l) : l ≠ [] := fun e => by rw [e] at h; exact h
theorem att_part {n : Nat} {r : List UInt8} : ∀ {l1 l2 : List Pg} {f : Nat}, AttP n r f (l1 ++ l2) → l2 ≠ [] → ∀ p ∈ l1, HA p
  | [], _, _, _, _, p, hp => nomatch hp
  | [x], y :: l2, f, h, _, p, hp => by
    rw [List.mem_singleton.1 hp]
    exact .inr h.2.1
  | x :: y :: l1, l2, f, h, hn, p, hp => by
    rcases List.mem_cons.1 hp with rfl | hp
    · exact .inr h.2.1
    · exact att_part (l1 := y :: l1) h.2.2.2 hn p hp
theorem run_sorted : ∀ {l : List Pg} {n : Nat}, RunP n l → SortedP l ∧ ∀ p ∈ l, n ≤ p.pos ∧ p.pos < n + l.length
  | [], _, _ => ⟨List.Pairwise.nil, fun _ h => nomatch h⟩
  | p :: l, n, h => by
    obtain ⟨h1, h2⟩ := h
    obtain ⟨g1, g2⟩ := run_sorted h2
    refine ⟨List.pairwise_cons.2 ⟨fun q hq => by have := g2 q hq; omega, g1⟩, fun q hq => ?_⟩
    rw [List.length_cons]
    rcases List.mem_cons.1 hq with rfl | hq
    · omega
    · have := g2 q hq; omega

/-! ## Pages are written one after the other -/
structure Steps (L0 : List Pg) (lim nb np : Nat) (S : St) (att l : List Pg) (G : Fl) (T : St) (e : Int) : Prop where
  good : e = 0 → Wr L0 lim nb np G (S.next + l.length) (att ++ l) ∧ G.down = false ∧ T = { S with next := S.next + l.length }
  bad : e ≠ 0 → ∃ l1 p l2, l = l1 ++ p :: l2 ∧ T = { S with next := S.next + l1.length } ∧ (e = 8 ↔ G.down = true) ∧ (Wr L0 lim nb np G T.next (att ++ l1) ∨ (e = 8 ∧ Wr L0 lim nb np G (T.next + 1) (att ++ l1 ++ [p])))
theorem writes_step {L0 : List Pg} {lim nb np n0 : Nat} (hnp : 0 < np) (h0 : ∀ q, L0.getLast? = some q → n0 / np * np ≤ q.pos + np) (hlim : lim ≤ n0) : ∀ (l : List Pg) {F : Fl} {S : St} {att : List Pg}, Wr L0 lim nb np F S.next att → F.down = false → n0 ≤ S.next →
    (∀ p ∈ l, p.Good) → RunP S.next l → (l ≠ [] → ((S.next + l.length - 1) / np + 2) * np ≤ lim + nb * np) →
    Steps L0 lim nb np S att l (writesP F S (l.map txtP)).1 (writesP F S (l.map txtP)).2.1 (writesP F S (l.map txtP)).2.2
  | [], F, S, att, h, hd, _, _, _, _ => ⟨fun _ => ⟨by rw [List.append_nil]; exact h, hd, rfl⟩, fun h => absurd rfl h⟩
  | p :: l, F, S, att, h, hd, hn0, hg, hr, hfit => by
    have hfit := hfit (by simp)
    rw [List.length_cons] at hfit
    have hdiv : S.next / np ≤ (S.next + (l.length + 1) - 1) / np := Nat.div_le_div_right (by omega)
    have hmul : (S.next / np + 2) * np ≤ ((S.next + (l.length + 1) - 1) / np + 2) * np := Nat.mul_le_mul_right _ (by omega)
    have hkeep : ∀ q, L0.getLast? = some q → (S.next / np + 1) * np ≤ q.pos + nb * np := by
      intro q hq
      have a := h0 q hq
      have e1 : (S.next / np + 2) * np = (S.next / np + 1) * np + np := by rw [Nat.add_mul, Nat.add_mul]; omega
      have hle : (S.next / np + 2) * np ≤ n0 + nb * np := by omega
      by_cases hb : S.next / np + 1 ≤ nb
      · have := Nat.mul_le_mul_right np hb; omega
      · have hx : (S.next / np + 2 - nb) * np ≤ n0 := by
          rw [Nat.sub_mul]; omega
        have hy : S.next / np + 2 - nb ≤ n0 / np := (Nat.le_div_iff_mul_le hnp).2 hx
        have hz := Nat.mul_le_mul_right np hy
        have e2 : (S.next / np + 2 - nb) * np + nb * np = (S.next / np + 2) * np := by rw [← Nat.add_mul]; congr 1; omega
        omega
    have hs := write_step h hd (hg p List.mem_cons_self) hr.1 (by omega) (by rw [show (S.next / np + 2) * np = (S.next / np + 1) * np + np by rw [Nat.add_mul, Nat.add_mul]; omega] at hmul; omega) hkeep
    rw [List.map_cons, writesP]
    split
    · rename_i hz
      obtain ⟨g1, g2, g3⟩ := hs.good hz
      obtain ⟨G, hG⟩ : ∃ G, (writeP F S (txtP p)).1 = G := ⟨_, rfl⟩
      obtain ⟨T, hT⟩ : ∃ T, (writeP F S (txtP p)).2.1 = T := ⟨_, rfl⟩
      rw [hG] at g1 g2
      rw [hT] at g3
      rw [hG, hT]
      have hTn : T.next = S.next + 1 := by rw [g3]
      have ih := writes_step hnp h0 hlim l (F := G) (S := T) (att := att ++ [p]) (by rw [hTn]; exact g1) g2 (by omega) (fun q hq => hg q (List.mem_cons_of_mem _ hq)) (by rw [hTn]; exact hr.2) (fun hne => by
        rw [hTn, show S.next + 1 + l.length - 1 = S.next + (l.length + 1) - 1 by omega]; exact hfit)
      refine ⟨fun he => ?_, fun he => ?_⟩
      · obtain ⟨k1, k2, k3⟩ := ih.good he
        rw [hTn] at k1
        refine ⟨?_, k2, ?_⟩
        · rw [List.length_cons, show S.next + (l.length + 1) = S.next + 1 + l.length by omega]
          simpa using k1
        · rw [k3, hTn, g3, List.length_cons]
          simp only [St.mk.injEq, true_and, and_true]
          omega
      · obtain ⟨l1, x, l2, rfl, k2, k3, k4⟩ := ih.bad he
        refine ⟨p :: l1, x, l2, rfl, ?_, k3, ?_⟩
        · rw [k2, hTn, g3, List.length_cons]
          simp only [St.mk.injEq, true_and, and_true]
          omega
        · simpa using k4
    · rename_i hz
      obtain ⟨k1, k2, k3⟩ := hs.bad hz
      refine ⟨fun he => absurd he hz, fun _ => ⟨[], p, l, rfl, by rw [k1]; simp, k2, ?_⟩⟩
      rw [k1]
      simpa using k3
end Go.Proofs.YtlefilfdomjkeaaGreatDoor
namespace Go.Proofs.YtlefilfdomjkeaaGreatDoor
open Go

/-- A store that is open on a flash that is up. -/
structure Live (F : Fl) (S : St) : Prop where
  ok : F.Ok
  nb : 2 ≤ F.nb
  up : F.down = false
  inv : PgInv F
  says : Says S.first S.recs S.ats (pagesP F)
  lt : ∀ p ∈ pagesP F, p.pos < S.next
  near : ∀ p, (pagesP F).getLast? = some p → S.next / F.np * F.np ≤ p.pos + F.np
/-- A flash that has these records. -/
structure Kept (F : Fl) (B first : Nat) (recs : List (List UInt8)) : Prop where
  ok : F.Ok
  nb : 2 ≤ F.nb
  inv : PgInv F
  says : ∃ ats, Says first recs ats (pagesP F)
  lt : ∀ p ∈ pagesP F, p.pos < B
theorem Live.kept {F : Fl} {S : St} (h : Live F S) : Kept F S.next S.first S.recs := ⟨h.ok, h.nb, h.inv, ⟨_, h.says⟩, h.lt⟩
theorem Kept.wide {F : Fl} {B C first : Nat} {recs : List (List UInt8)} (h : Kept F B first recs) (hc : B ≤ C) : Kept F C first recs := ⟨h.ok, h.nb, h.inv, h.says, fun p hp => Nat.lt_of_lt_of_le (h.lt p hp) hc⟩
theorem Live.wr {F : Fl} {S : St} (h : Live F S) (lim : Nat) : Wr (pagesP F) lim F.nb F.np F S.next [] :=
  ⟨h.ok, rfl, rfl, h.inv, ⟨_, Shrunk.refl _ _, by simp⟩, h.lt, h.near, fun _ h => nomatch h⟩
theorem limit_eq (S : St) : S.limit = limitP S.ats S.next := by
  unfold St.limit limitP
  cases S.ats <;> rfl
theorem Says.limit_le {first next : Nat} {recs : List (List UInt8)} {ats : List Nat} {L : List Pg} (h : Says first recs ats L) (hn : ∀ p ∈ L, p.pos < next) : limitP ats next ≤ next := by
  obtain ⟨old, tail, rfl, h1, h2⟩ := h.parts
  cases recs with
  | nil => obtain ⟨rfl, _⟩ := h2.nil; exact Nat.le_refl _
  | cons r rs =>
    obtain ⟨q, l', a, as', rfl, rfl, ha⟩ := h2.head (by simp)
    show a ≤ next
    rw [← ha]
    exact Nat.le_of_lt (hn q (by simp))
theorem Says.shrunk {first next : Nat} {recs : List (List UInt8)} {ats : List Nat} {L L' : List Pg} (h : Says first recs ats L) (hn : ∀ p ∈ L, p.pos < next) (hs : Shrunk (limitP ats next) L L') : Says first recs ats L' := by
  obtain ⟨k, rfl, h1, h2⟩ := hs
  exact h.filter hn k h1 h2
theorem fits_iff {F : Fl} {S : St} {q : Nat} (h : ¬ fitsP F S q = false) : (q / F.np + 1) * F.np ≤ limitP S.ats S.next + F.nb * F.np := by
  have h : fitsP F S q = true := by simpa using h
  unfold fitsP at h
  rw [limit_eq] at h
  exact of_decide_eq_true h
theorem run_head {n : Nat} {l : List Pg} (h : RunP n l) (hl : l ≠ []) : ∃ p, l.head? = some p ∧ p.pos = n := by
  cases l with
  | nil => exact absurd rfl hl
  | cons p l => exact ⟨p, rfl, h.1⟩
/-- What becomes of a store whose record is appended. -/
structure AppendLaw (F : Fl) (S : St) (r : List UInt8) (G : Fl) (T : St) (e : Int) : Prop where
  size : G.nb = F.nb ∧ G.np = F.np
  first : T.first = S.first
  next : T.next ≤ S.next + r.length + 1
  good : e = 0 → Live G T ∧ T.recs = S.recs ++ [r]
  bad : e ≠ 0 → T.recs = S.recs ∧ (e ≠ 8 → Live G T) ∧ (e = 8 → G.down = true ∧ (Kept G (S.next + r.length + 2) S.first S.recs ∨ Kept G (S.next + r.length + 2) S.first (S.recs ++ [r])))
theorem append_law {F : Fl} {S : St} {r : List UInt8} (h : Live F S) (hs : S.Small r) : AppendLaw F S r (appendP F S r).1 (appendP F S r).2.1 (appendP F S r).2.2 := by
  have hnp : 0 < F.np := by have := h.ok.np; omega
  unfold appendP
  split
  · exact ⟨⟨rfl, rfl⟩, rfl, show S.next ≤ _ by omega, fun e => (by cases e), fun _ => ⟨rfl, fun _ => h, fun e => (by cases e)⟩⟩
  · split
    · exact ⟨⟨rfl, rfl⟩, rfl, show S.next ≤ _ by omega, fun e => (by cases e), fun _ => ⟨rfl, fun _ => h, fun e => (by cases e)⟩⟩
    · rename_i _ hf
      have hf := fits_iff hf
      have hlim := h.says.limit_le h.lt
      obtain ⟨l, hl⟩ : ∃ l, recP S r = l := ⟨_, rfl⟩
      have ha := rec_att hs
      have hall := rec_all hs
      have hrun := rec_run S r
      have hcnt := rec_count hs
      rw [hl] at ha hall hrun hcnt hf ⊢
      have hne := att_ne ha
      have hlen : 0 < l.length := List.length_pos_iff.2 hne
      have W := writes_step hnp h.near hlim l (h.wr (limitP S.ats S.next)) h.up (Nat.le_refl _) (fun p hp => (hall p hp).1) hrun (fun _ => by
        rw [show S.next + l.length - 1 + F.np = S.next + l.length - 1 + F.np * 1 by omega, Nat.add_mul_div_left _ _ hnp] at hf
        rw [show (S.next + l.length - 1) / F.np + 2 = (S.next + l.length - 1) / F.np + 1 + 1 by omega]
        exact hf)
      obtain ⟨G, hG⟩ : ∃ G, (writesP F S (l.map txtP)).1 = G := ⟨_, rfl⟩
      obtain ⟨T, hT⟩ : ∃ T, (writesP F S (l.map txtP)).2.1 = T := ⟨_, rfl⟩
      obtain ⟨e, he⟩ : ∃ e, (writesP F S (l.map txtP)).2.2 = e := ⟨_, rfl⟩
      have hw : writesP F S (l.map txtP) = (G, T, e) := by rw [← hG, ← hT, ← he]
      rw [hG, hT, he] at W
      rw [hw]
      dsimp only
      obtain ⟨p0, hp0, hpos0⟩ := run_head hrun hne
      -- what is there when a beginning of the pages has come
      have part : ∀ {G : Fl} {next : Nat} {l1 l2 : List Pg}, l = l1 ++ l2 → l2 ≠ [] → Wr (pagesP F) (limitP S.ats S.next) F.nb F.np G next ([] ++ l1) → Says S.first S.recs S.ats (pagesP G) := by
        intro G next l1 l2 hl2 hne2 W
        obtain ⟨L', s1, s2⟩ := W.pages
        rw [List.nil_append] at s2
        have hsay := h.says.shrunk h.lt s1
        have hsort := pages_sorted G
        rw [s2] at hsort ⊢
        refine hsay.snocs l1 (fun p hp => ⟨?_, (hall p (by rw [hl2]; exact List.mem_append_left _ hp)).2⟩) hsort
        rw [hl2] at ha
        exact att_part ha hne2 p hp
      have whole : ∀ {G : Fl} {next : Nat}, Wr (pagesP F) (limitP S.ats S.next) F.nb F.np G next ([] ++ l) → Says S.first (S.recs ++ [r]) (S.ats ++ [S.next]) (pagesP G) := by
        intro G next W
        obtain ⟨L', s1, s2⟩ := W.pages
        rw [List.nil_append] at s2
        have hsay := h.says.shrunk h.lt s1
        have hsort := pages_sorted G
        rw [s2] at hsort ⊢
        rw [← hpos0]
        exact hsay.record ha hp0 hsort fun q hq => (hall q hq).2
      split
      · rename_i hz
        obtain ⟨g1, g2, g3⟩ := W.good hz
        refine ⟨⟨g1.hnb, g1.hnp⟩, by rw [g3], by rw [g3]; show S.next + l.length ≤ _; omega, fun _ => ⟨⟨g1.ok, by rw [g1.hnb]; exact h.nb, g2, g1.inv, ?_, ?_, ?_⟩, rfl⟩, fun hx => absurd rfl hx⟩
        · rw [g3]; exact whole g1
        · rw [g3]; exact g1.lt
        · rw [g3, g1.hnp]; exact g1.near
      · rename_i hz
        obtain ⟨l1, p, l2, hlp, g2, g3, g4⟩ := W.bad hz
        have hl12 : l1.length + l2.length + 1 = l.length := by rw [hlp, List.length_append, List.length_cons]; omega
        have hTn : T.next = S.next + l1.length := by rw [g2]
        have hsz : G.nb = F.nb ∧ G.np = F.np := by rcases g4 with g4 | ⟨_, g4⟩ <;> exact ⟨g4.hnb, g4.hnp⟩
        refine ⟨hsz, by rw [g2], by rw [hTn]; omega, fun hx => absurd hx hz, fun _ => ⟨by rw [g2], fun h8 => ?_, fun h8 => ⟨g3.1 h8, ?_⟩⟩⟩
        · rcases g4 with g4 | ⟨hx, _⟩
          · have hdn : G.down = false := by
              cases hd : G.down with
              | false => rfl
              | true => exact absurd (g3.2 hd) h8
            refine ⟨g4.ok, by rw [hsz.1]; exact h.nb, hdn, g4.inv, ?_, g4.lt, by rw [hsz.2]; exact g4.near⟩
            rw [g2]
            exact part hlp (by simp) g4
          · exact absurd hx h8
        · rcases g4 with g4 | ⟨_, g4⟩
          · exact .inl ⟨g4.ok, by rw [hsz.1]; exact h.nb, g4.inv, ⟨_, part hlp (by simp) g4⟩, fun q hq => by have := g4.lt q hq; omega⟩
          · rw [List.append_assoc] at g4
            cases l2 with
            | nil => rw [← hlp] at g4; exact .inr ⟨g4.ok, by rw [hsz.1]; exact h.nb, g4.inv, ⟨_, whole g4⟩, fun q hq => by have := g4.lt q hq; omega⟩
            | cons x l2 => exact .inl ⟨g4.ok, by rw [hsz.1]; exact h.nb, g4.inv, ⟨_, part (l1 := l1 ++ [p]) (l2 := x :: l2) (by rw [hlp]; simp) (by simp) g4⟩, fun q hq => by have := g4.lt q hq; omega⟩
/-- What becomes of a store of which records are dropped. -/
structure DropLaw (F : Fl) (S : St) (n : Nat) (G : Fl) (T : St) (e : Int) : Prop where
  size : G.nb = F.nb ∧ G.np = F.np
  next : T.next ≤ S.next + 1
  good : e = 0 → Live G T ∧ T.recs = S.recs.drop n ∧ T.first = S.first + n
  bad : e ≠ 0 → T = S ∧ (e ≠ 8 → Live G T) ∧ (e = 8 → G.down = true ∧ (Kept G (S.next + 2) S.first S.recs ∨ Kept G (S.next + 2) (S.first + n) (S.recs.drop n)))
theorem drop_good {S : St} {n : Nat} (hs : S.Small []) : (dropPg S n).Good := by
  have h1 := hs.next; have h2 := hs.len
  simp only [List.length_nil] at h1
  exact ⟨⟨.inr ⟨rfl, rfl, rfl⟩, show S.recs.length - n ≤ S.len by unfold St.len; omega, by show ((0 : Nat) : Int) = roomP (dropPg S n); unfold roomP; rw [if_pos (show (dropPg S n).kind = 1 from rfl)]; rfl⟩, show S.next ≤ _ by omega, h2, Nat.zero_le _, Nat.zero_le _⟩
theorem drop_law {F : Fl} {S : St} {n : Nat} (h : Live F S) (hs : S.Small []) (h0 : 0 < n) (hn : n ≤ S.recs.length) : DropLaw F S n (dropP F S n).1 (dropP F S n).2.1 (dropP F S n).2.2 := by
  have hnp : 0 < F.np := by have := h.ok.np; omega
  unfold dropP
  rw [if_neg (by omega), if_neg (by omega), Int.toNat_natCast]
  split
  · exact ⟨⟨rfl, rfl⟩, show S.next ≤ _ by omega, fun e => (by cases e), fun _ => ⟨rfl, fun _ => h, fun e => (by cases e)⟩⟩
  · rename_i hf
    have hf := fits_iff hf
    have hlim := h.says.limit_le h.lt
    have W := write_step (p := dropPg S n) (h.wr (limitP S.ats S.next)) h.up (drop_good hs) rfl hlim hf (fun q hq => by
      have := h.near q hq
      have h2 := Nat.mul_le_mul_right F.np h.nb
      rw [Nat.add_mul]
      omega)
    obtain ⟨G, hG⟩ : ∃ G, (writeP F S (txtP (dropPg S n))).1 = G := ⟨_, rfl⟩
    obtain ⟨T, hT⟩ : ∃ T, (writeP F S (txtP (dropPg S n))).2.1 = T := ⟨_, rfl⟩
    obtain ⟨e, he⟩ : ∃ e, (writeP F S (txtP (dropPg S n))).2.2 = e := ⟨_, rfl⟩
    have hw : writeP F S (txtP (dropPg S n)) = (G, T, e) := by rw [← hG, ← hT, ← he]
    rw [hG, hT, he] at W
    rw [hw]
    dsimp only
    have none : ∀ {G : Fl} {next : Nat}, Wr (pagesP F) (limitP S.ats S.next) F.nb F.np G next [] → Says S.first S.recs S.ats (pagesP G) := by
      intro G next W
      obtain ⟨L', s1, s2⟩ := W.pages
      rw [s2, List.append_nil]
      exact h.says.shrunk h.lt s1
    have done : ∀ {G : Fl} {next : Nat}, Wr (pagesP F) (limitP S.ats S.next) F.nb F.np G next ([] ++ [dropPg S n]) → Says (S.first + n) (S.recs.drop n) (S.ats.drop n) (pagesP G) := by
      intro G next W
      obtain ⟨L', s1, s2⟩ := W.pages
      rw [List.nil_append] at s2
      rw [s2]
      refine (h.says.shrunk h.lt s1).dropN hn rfl (fun q hq => h.lt q (s1.sub q hq)) ?_
      show S.len - (S.recs.length - n) = S.first + n
      unfold St.len
      omega
    split
    · rename_i hz
      obtain ⟨g1, g2, g3⟩ := W.good hz
      refine ⟨⟨g1.hnb, g1.hnp⟩, by rw [g3]; exact Nat.le_refl _, fun _ => ⟨⟨g1.ok, by rw [g1.hnb]; exact h.nb, g2, g1.inv, done g1, by rw [g3]; exact g1.lt, by rw [g3, g1.hnp]; exact g1.near⟩, rfl, rfl⟩, fun hx => absurd rfl hx⟩
    · rename_i hz
      obtain ⟨g1, g2, g3⟩ := W.bad hz
      have hsz : G.nb = F.nb ∧ G.np = F.np := by rcases g3 with g3 | ⟨_, g3⟩ <;> exact ⟨g3.hnb, g3.hnp⟩
      refine ⟨hsz, show S.next ≤ _ by omega, fun hx => absurd hx hz, fun _ => ⟨rfl, fun h8 => ?_, fun h8 => ⟨g2.1 h8, ?_⟩⟩⟩
      · rcases g3 with g3 | ⟨hx, _⟩
        · have hdn : G.down = false := by
            cases hd : G.down with
            | false => rfl
            | true => exact absurd (g2.2 hd) h8
          exact ⟨g3.ok, by rw [hsz.1]; exact h.nb, hdn, g3.inv, none g3, g3.lt, by rw [hsz.2]; exact g3.near⟩
        · exact absurd hx h8
      · rcases g3 with g3 | ⟨_, g3⟩
        · exact .inl ⟨g3.ok, by rw [hsz.1]; exact h.nb, g3.inv, ⟨_, none g3⟩, fun q hq => by have := g3.lt q hq; omega⟩
        · exact .inr ⟨g3.ok, by rw [hsz.1]; exact h.nb, g3.inv, ⟨_, done g3⟩, fun q hq => by have := g3.lt q hq; omega⟩

/-! ## The store is opened -/
theorem seekUp_le {F : Fl} (hnp : 0 < F.np) : ∀ (n q : Nat), q ≤ seekUp F n q ∧ (q % F.np = 0 → seekUp F n q = q) ∧ (q % F.np ≠ 0 → seekUp F n q ≤ (q / F.np + 1) * F.np)
  | 0, q => ⟨Nat.le_refl _, fun _ => rfl, fun h => by
    have := (next_block (n := q) hnp).2
    rw [seekUp, Nat.add_mul]; omega⟩
  | n + 1, q => by
    obtain ⟨h1, h2, h3⟩ := seekUp_le hnp n (q + 1)
    rw [seekUp]
    split
    · rename_i hc
      refine ⟨by omega, fun h => absurd h hc.1, fun _ => ?_⟩
      have d1 := Nat.div_add_mod q F.np
      have d2 := Nat.mod_lt q hnp
      have d3 := Nat.div_add_mod (q + 1) F.np
      have d4 := Nat.mod_lt (q + 1) hnp
      by_cases hz : (q + 1) % F.np = 0
      · rw [h2 hz]
        have := (next_block (n := q) hnp).2
        rw [Nat.add_mul]; omega
      · have h3 := h3 hz
        have e : (q + 1) / F.np = q / F.np := by
          have a1 : q / F.np ≤ (q + 1) / F.np := Nat.div_le_div_right (by omega)
          have a2 : (q + 1) / F.np < q / F.np + 1 := by
            rw [Nat.div_lt_iff_lt_mul hnp, Nat.add_mul, Nat.mul_comm]
            by_cases hh : q % F.np + 1 = F.np
            · exfalso
              apply hz
              rw [show q + 1 = F.np * (q / F.np + 1) by rw [Nat.mul_add]; omega]
              exact Nat.mul_mod_right _ _
            · omega
          omega
        rw [e] at h3
        exact h3
    · refine ⟨Nat.le_refl _, fun _ => rfl, fun _ => ?_⟩
      have := (next_block (n := q) hnp).2
      rw [Nat.add_mul]; omega
theorem seekDn_le (F : Fl) (q : Nat) : ∀ (n s : Nat), q ≤ s → q ≤ seekDn F q n s ∧ seekDn F q n s ≤ s
  | 0, s, h => ⟨h, Nat.le_refl _⟩
  | n + 1, s, h => by
    rw [seekDn]
    split
    · rename_i hc
      have := seekDn_le F q n (s - 1) (by omega)
      omega
    · exact ⟨h, Nat.le_refl _⟩
theorem seek_le {F : Fl} (hnp : 0 < F.np) (q : Nat) : q ≤ seekP F q ∧ seekP F q ≤ q + 2 * F.np ∧ (0 < q → seekP F q / F.np * F.np ≤ q - 1 + F.np) := by
  obtain ⟨h1, h2, h3⟩ := seekUp_le hnp F.np q
  have d1 := Nat.div_add_mod q F.np
  rw [Nat.mul_comm] at d1
  have hq' : seekUp F F.np q ≤ q + F.np ∧ (0 < q → seekUp F F.np q / F.np * F.np ≤ q - 1 + F.np) := by
    by_cases hz : q % F.np = 0
    · rw [h2 hz]
      exact ⟨by omega, fun _ => by omega⟩
    · have h3 := h3 hz
      rw [Nat.add_mul] at h3
      have d2 := Nat.div_mul_le_self (seekUp F F.np q) F.np
      exact ⟨by omega, fun _ => by omega⟩
  unfold seekP
  split
  · rename_i hc
    obtain ⟨g1, g2⟩ := seekDn_le F (seekUp F F.np q) F.np (seekUp F F.np q + F.np - 1) (by omega)
    refine ⟨by omega, by omega, fun h0 => ?_⟩
    have e : seekDn F (seekUp F F.np q) F.np (seekUp F F.np q + F.np - 1) / F.np = seekUp F F.np q / F.np := by
      have a1 : seekUp F F.np q / F.np ≤ seekDn F (seekUp F F.np q) F.np (seekUp F F.np q + F.np - 1) / F.np := Nat.div_le_div_right g1
      have a2 : seekDn F (seekUp F F.np q) F.np (seekUp F F.np q + F.np - 1) / F.np < seekUp F F.np q / F.np + 1 := by
        rw [Nat.div_lt_iff_lt_mul hnp, Nat.add_mul]
        have := Nat.div_add_mod (seekUp F F.np q) F.np
        rw [Nat.mul_comm] at this
        omega
      omega
    rw [e]
    exact hq'.2 h0
  · exact ⟨h1, by omega, hq'.2⟩
theorem last_ge {L : List Pg} (h : SortedP L) {p : Pg} (hp : L.getLast? = some p) : ∀ q ∈ L, q.pos ≤ p.pos := by
  obtain ⟨l', rfl⟩ := List.getLast?_eq_some_iff.1 hp
  intro q hq
  rcases List.mem_append.1 hq with hq | hq
  · exact Nat.le_of_lt ((List.pairwise_append.1 h).2.2 q hq p (by simp))
  · rw [List.mem_singleton.1 hq]; exact Nat.le_refl _
theorem open_law {F : Fl} {B first : Nat} {recs : List (List UInt8)} (h : Kept F B first recs) (hd : F.down = false) : Live F (openP F) ∧ (openP F).first = first ∧ (openP F).recs = recs ∧ (openP F).next ≤ B + 2 * F.np := by
  obtain ⟨ats, hs⟩ := h.says
  have hnp : 0 < F.np := by have := h.ok.np; omega
  obtain ⟨c1, c2⟩ := hs.coll
  have hf := hs.first
  have e : openP F = ⟨first, seekP F (fromP (pagesP F)), recs, ats⟩ := by unfold openP; rw [hf, c1, c2]
  obtain ⟨s1, s2, s3⟩ := seek_le hnp (fromP (pagesP F))
  rw [e]
  refine ⟨⟨h.ok, h.nb, hd, h.inv, hs, fun p hp => ?_, fun p hp => ?_⟩, rfl, rfl, ?_⟩
  · cases hl : (pagesP F).getLast? with
    | none => rw [List.getLast?_eq_none_iff.1 hl] at hp; cases hp
    | some q =>
      have e2 : fromP (pagesP F) = q.pos + 1 := by unfold fromP newestP; rw [hl]
      have := last_ge hs.sorted hl p hp
      show p.pos < seekP F (fromP (pagesP F))
      omega
  · have e2 : fromP (pagesP F) = p.pos + 1 := by unfold fromP newestP; rw [hp]
    have := s3 (by omega)
    show seekP F (fromP (pagesP F)) / F.np * F.np ≤ _
    omega
  · show seekP F (fromP (pagesP F)) ≤ _
    cases hl : (pagesP F).getLast? with
    | none =>
      have e2 : fromP (pagesP F) = 0 := by unfold fromP newestP; rw [hl]
      omega
    | some q =>
      have e2 : fromP (pagesP F) = q.pos + 1 := by unfold fromP newestP; rw [hl]
      have := h.lt q (List.mem_of_getLast? hl)
      omega
theorem kept_new {nb np : Nat} (h1 : 2 ≤ nb ∧ nb ≤ 32) (h2 : 1 ≤ np ∧ np ≤ 16) : Kept (Fl.new nb np) 0 0 [] := by
  have hv : pagesP (Fl.new nb np) = [] := pages_eq List.Pairwise.nil fun p => ⟨fun h => (by cases h), fun h => (by obtain ⟨i, _, h⟩ := h; unfold validAt pageAt Fl.new at h; cases h)⟩
  have hinv : PgInv (Fl.new nb np) := by
    intro i _ s hs
    unfold pageAt Fl.new at hs
    cases hs
  exact ⟨Fl.new_ok (by omega) h2, h1.1, hinv, ⟨[], by rw [hv]; exact says_nil⟩, fun p hp => by rw [hv] at hp; cases hp⟩
theorem Kept.congr {F G : Fl} {B first : Nat} {recs : List (List UInt8)} (h : Kept F B first recs) (ok : G.Ok) (hb : G.blk = F.blk) (hn : G.nb = F.nb) (hk : G.np = F.np) : Kept G B first recs := by
  have hp : ∀ i, pageAt G i = pageAt F i := fun i => by unfold pageAt; rw [hb, hk]
  have e : pagesP G = pagesP F := pages_congr hn hk fun i _ => validAt_congr hn hk (hp i)
  refine ⟨ok, by rw [hn]; exact h.nb, fun i hi s hs => ?_, by rw [e]; exact h.says, by rw [e]; exact h.lt⟩
  rw [hn, hk] at hi ⊢
  exact h.inv i hi s (by rw [← hp]; exact hs)
theorem Live.congr {F G : Fl} {S : St} (h : Live F S) (ok : G.Ok) (hb : G.blk = F.blk) (hn : G.nb = F.nb) (hk : G.np = F.np) (hd : G.down = false) : Live G S := by
  have hp : ∀ i, pageAt G i = pageAt F i := fun i => by unfold pageAt; rw [hb, hk]
  have e : pagesP G = pagesP F := pages_congr hn hk fun i _ => validAt_congr hn hk (hp i)
  refine ⟨ok, by rw [hn]; exact h.nb, hd, fun i hi s hs => ?_, by rw [e]; exact h.says, by rw [e]; exact h.lt, by rw [e, hk]; exact h.near⟩
  rw [hn, hk] at hi ⊢
  exact h.inv i hi s (by rw [← hp]; exact hs)
end Go.Proofs.YtlefilfdomjkeaaGreatDoor
