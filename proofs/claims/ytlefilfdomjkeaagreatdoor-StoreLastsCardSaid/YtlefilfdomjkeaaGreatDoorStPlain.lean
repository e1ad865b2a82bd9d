/- Plain laws of a store: what is collected of pages. -/
import Derived.Test.YtlefilfdomjkeaaGreatDoorStModel
namespace Go.Proofs.YtlefilfdomjkeaaGreatDoor
open Go

/-- A page that ends no record. -/
def HA (p : Pg) : Prop := p.kind = 1 ∨ p.bytes.length < p.rest
/-- A page that ends no record that counts. -/
def Harm (first : Nat) (p : Pg) : Prop := p.kind = 1 ∨ p.number < first ∨ p.bytes.length < p.rest
theorem HA.harm {p : Pg} (h : HA p) (first : Nat) : Harm first p := h.elim .inl fun h => .inr (.inr h)
theorem Harm.mono {p : Pg} {a b : Nat} (h : Harm a p) (hab : a ≤ b) : Harm b p := by
  rcases h with h | h | h
  · exact .inl h
  · exact .inr (.inl (Nat.lt_of_lt_of_le h hab))
  · exact .inr (.inr h)
theorem step_harm {first : Nat} {p : Pg} (h : Harm first p) (c : Cs) : (stepC first c p).recs = c.recs ∧ (stepC first c p).ats = c.ats := by
  unfold stepC
  split
  · rename_i h0
    unfold finC
    split
    · rename_i h1
      split
      · rename_i h2
        dsimp only at h1 h2
        rcases h with h | h | h <;> omega
      · exact ⟨rfl, rfl⟩
    · exact ⟨rfl, rfl⟩
  · split
    · rename_i h0
      unfold finC
      split
      · rename_i h1
        dsimp only at h1
        rw [List.length_append] at h1
        split
        · rename_i h2
          dsimp only at h2
          rcases h with h | h | h <;> omega
        · exact ⟨rfl, rfl⟩
      · exact ⟨rfl, rfl⟩
    · exact ⟨rfl, rfl⟩
theorem coll_harm {first : Nat} : ∀ (l : List Pg) (c : Cs), (∀ p ∈ l, Harm first p) → (l.foldl (stepC first) c).recs = c.recs ∧ (l.foldl (stepC first) c).ats = c.ats
  | [], _, _ => ⟨rfl, rfl⟩
  | p :: l, c, h => by
    rw [List.foldl_cons]
    obtain ⟨h1, h2⟩ := coll_harm l (stepC first c p) fun q hq => h q (List.mem_cons_of_mem _ hq)
    obtain ⟨g1, g2⟩ := step_harm (h p List.mem_cons_self) c
    exact ⟨h1.trans g1, h2.trans g2⟩

/-- A piece of record n, r, from byte f on. -/
structure Piece (n : Nat) (r : List UInt8) (f : Nat) (p : Pg) : Prop where
  kind : p.kind = 0
  number : p.number = n
  offset : p.offset = f
  rest : p.rest = r.length - f
  le : f ≤ r.length
  bytes : p.bytes = (r.drop f).take p.bytes.length
/-- All pieces of a record from byte f on. -/
def AttP (n : Nat) (r : List UInt8) : Nat → List Pg → Prop
  | _, [] => False
  | f, [p] => Piece n r f p ∧ p.bytes.length = p.rest
  | f, p :: q :: l => Piece n r f p ∧ p.bytes.length < p.rest ∧ 0 < p.bytes.length ∧ AttP n r (f + p.bytes.length) (q :: l)
theorem take_drop_add (r : List UInt8) (f k : Nat) : r.take f ++ (r.drop f).take k = r.take (f + k) := by
  rw [List.take_add]
theorem piece_text {n f : Nat} {r : List UInt8} {p : Pg} (h : Piece n r f p) : r.take f ++ p.bytes = r.take (f + p.bytes.length) := by
  conv => lhs; rw [h.bytes]
  exact take_drop_add _ _ _
/-- A record is put together of its pieces. -/
theorem coll_att_go {first n : Nat} {r : List UInt8} : ∀ (l : List Pg) (f : Nat) (c : Cs), AttP n r f l → 0 < f → c.number = n → c.text = r.take f → n = first + c.recs.length →
    (l.foldl (stepC first) c).recs = c.recs ++ [r] ∧ (l.foldl (stepC first) c).ats = c.ats ++ [c.at_]
  | [p], f, c, h, hf, hn, ht, hr => by
    obtain ⟨h1, h2⟩ := h
    have hl : c.text.length = f := by rw [ht, List.length_take]; have := h1.le; omega
    have htx := piece_text h1
    rw [h2, h1.rest, show f + (r.length - f) = r.length by have := h1.le; omega, List.take_length] at htx
    have e1 : ¬ (p.kind = 0 ∧ p.offset = 0) := fun e => by have := h1.offset; omega
    have e2 : p.kind = 0 ∧ (p.number : Int) = c.number ∧ p.offset = c.text.length := ⟨h1.kind, by rw [hn, h1.number], by rw [h1.offset, hl]⟩
    simp only [List.foldl_cons, List.foldl_nil]
    unfold stepC
    rw [if_neg e1, if_pos e2]
    unfold finC
    rw [if_pos (by dsimp only; rw [List.length_append, hl, h2, h1.offset]), if_pos (by dsimp only; rw [hn, hr])]
    dsimp only
    rw [ht, htx]
    exact ⟨rfl, rfl⟩
  | p :: q :: l, f, c, h, hf, hn, ht, hr => by
    obtain ⟨h1, h2, h3, h4⟩ := h
    have hl : c.text.length = f := by rw [ht, List.length_take]; have := h1.le; omega
    have e1 : ¬ (p.kind = 0 ∧ p.offset = 0) := fun e => by have := h1.offset; omega
    have e2 : p.kind = 0 ∧ (p.number : Int) = c.number ∧ p.offset = c.text.length := ⟨h1.kind, by rw [hn, h1.number], by rw [h1.offset, hl]⟩
    rw [List.foldl_cons]
    have e3 : stepC first c p = { c with text := c.text ++ p.bytes } := by
      unfold stepC
      rw [if_neg e1, if_pos e2]
      unfold finC
      rw [if_neg (by dsimp only; rw [List.length_append, hl, h1.offset]; omega)]
    rw [e3]
    exact coll_att_go (q :: l) (f + p.bytes.length) _ h4 (by omega) hn (by dsimp only; rw [ht]; exact piece_text h1) hr
theorem coll_att {first n : Nat} {r : List UInt8} {l : List Pg} {c : Cs} (h : AttP n r 0 l) (hr : n = first + c.recs.length) :
    (l.foldl (stepC first) c).recs = c.recs ++ [r] ∧ ∃ p, l.head? = some p ∧ (l.foldl (stepC first) c).ats = c.ats ++ [p.pos] := by
  match l, h with
  | [p], h =>
    obtain ⟨h1, h2⟩ := h
    have htx := piece_text h1
    rw [h2, h1.rest, show 0 + (r.length - 0) = r.length by omega, List.take_length, List.take_zero, List.nil_append] at htx
    simp only [List.foldl_cons, List.foldl_nil]
    have e3 : stepC first c p = ⟨-1, p.pos, r, c.recs ++ [r], c.ats ++ [p.pos]⟩ := by
      unfold stepC
      rw [if_pos ⟨h1.kind, h1.offset⟩]
      unfold finC
      rw [if_pos (by dsimp only; rw [h2, h1.offset]; omega), if_pos (by dsimp only; rw [h1.number, hr])]
      dsimp only
      rw [htx]
    rw [e3]
    exact ⟨rfl, p, rfl, rfl⟩
  | p :: q :: l, h =>
    obtain ⟨h1, h2, h3, h4⟩ := h
    rw [List.foldl_cons]
    have e3 : stepC first c p = { c with number := p.number, at_ := p.pos, text := p.bytes } := by
      unfold stepC
      rw [if_pos ⟨h1.kind, h1.offset⟩]
      unfold finC
      rw [if_neg (by dsimp only; rw [h1.offset]; omega)]
    rw [e3]
    have htx := piece_text h1
    rw [List.take_zero, List.nil_append] at htx
    obtain ⟨g1, g2⟩ := coll_att_go (first := first) (q :: l) (0 + p.bytes.length) { c with number := p.number, at_ := p.pos, text := p.bytes } h4 (by omega) (by dsimp only; rw [h1.number]) htx hr
    exact ⟨g1, p, rfl, g2⟩

/-- The pages of records, each with what ends none behind it. -/
def SegsP : Nat → List (List UInt8) → List Nat → List Pg → Prop
  | _, [], [], l => l = []
  | n, r :: rs, a :: as, l => ∃ att tl more, l = att ++ (tl ++ more) ∧ AttP n r 0 att ∧ (∃ p, att.head? = some p ∧ p.pos = a) ∧ (∀ p ∈ tl, HA p) ∧ SegsP (n + 1) rs as more
  | _, _, _, _ => False
theorem coll_segs {first : Nat} : ∀ (rs : List (List UInt8)) (n : Nat) (as : List Nat) (l : List Pg) (c : Cs), SegsP n rs as l → n = first + c.recs.length →
    (l.foldl (stepC first) c).recs = c.recs ++ rs ∧ (l.foldl (stepC first) c).ats = c.ats ++ as
  | [], n, [], l, c, h, _ => by
    rw [SegsP] at h
    subst h
    simp
  | r :: rs, n, a :: as, l, c, h, hn => by
    obtain ⟨att, tl, more, rfl, h1, ⟨p, hp, ha⟩, h3, h4⟩ := h
    rw [List.foldl_append, List.foldl_append]
    obtain ⟨g1, q, hq, g2⟩ := coll_att (c := c) h1 hn
    rw [hp] at hq
    injection hq with hq
    subst hq
    obtain ⟨k1, k2⟩ := coll_harm (first := first) tl (att.foldl (stepC first) c) fun p hp => (h3 p hp).harm first
    obtain ⟨m1, m2⟩ := coll_segs (first := first) rs (n + 1) as more (tl.foldl (stepC first) (att.foldl (stepC first) c)) h4 (by rw [k1, g1, List.length_append]; simp; omega)
    refine ⟨?_, ?_⟩
    · rw [m1, k1, g1]; simp
    · rw [m2, k2, g2, ha]; simp
theorem SegsP.len : ∀ {rs : List (List UInt8)} {n : Nat} {as : List Nat} {l : List Pg}, SegsP n rs as l → rs.length = as.length
  | [], _, [], _, _ => rfl
  | r :: rs, n, a :: as, l, h => by
    obtain ⟨_, _, _, _, _, _, _, h4⟩ := h
    simp [h4.len]
/-- One more page that ends no record. -/
theorem SegsP.snoc {p : Pg} (hp : HA p) : ∀ {rs : List (List UInt8)} {n : Nat} {as : List Nat} {l : List Pg}, SegsP n rs as l → rs ≠ [] → SegsP n rs as (l ++ [p])
  | [r], n, [a], l, h, _ => by
    obtain ⟨att, tl, more, rfl, h1, h2, h3, h4⟩ := h
    rw [SegsP] at h4
    subst h4
    refine ⟨att, tl ++ [p], [], by simp, h1, h2, fun q hq => ?_, rfl⟩
    rcases List.mem_append.1 hq with h | h
    · exact h3 q h
    · rw [List.mem_singleton.1 h]; exact hp
  | r :: r' :: rs, n, a :: as, l, h, _ => by
    obtain ⟨att, tl, more, rfl, h1, h2, h3, h4⟩ := h
    exact ⟨att, tl, more ++ [p], by simp, h1, h2, h3, h4.snoc hp (by simp)⟩
/-- One more record. -/
theorem SegsP.record {r : List UInt8} {att : List Pg} {p : Pg} (hp : att.head? = some p) : ∀ {rs : List (List UInt8)} {n : Nat} {as : List Nat} {l : List Pg}, SegsP n rs as l → AttP (n + rs.length) r 0 att → SegsP n (rs ++ [r]) (as ++ [p.pos]) (l ++ att)
  | [], n, [], l, h, ha => by
    rw [SegsP] at h
    subst h
    exact ⟨att, [], [], by simp, ha, ⟨p, hp, rfl⟩, (fun _ h => nomatch h), rfl⟩
  | r' :: rs, n, a :: as, l, h, ha => by
    obtain ⟨att', tl, more, rfl, h1, h2, h3, h4⟩ := h
    refine ⟨att', tl, more ++ att, by simp, h1, h2, h3, h4.record hp ?_⟩
    rw [List.length_cons] at ha
    rw [show n + 1 + rs.length = n + (rs.length + 1) by omega]
    exact ha
theorem att_number {n : Nat} {r : List UInt8} : ∀ {l : List Pg} {f : Nat}, AttP n r f l → ∀ p ∈ l, p.number = n
  | [p], f, h, q, hq => by rw [List.mem_singleton.1 hq]; exact h.1.number
  | p :: p' :: l, f, h, q, hq => by
    rcases List.mem_cons.1 hq with rfl | hq
    · exact h.1.number
    · exact att_number h.2.2.2 q hq
/-- The first records are dropped. -/
theorem SegsP.dropN : ∀ {k : Nat} {rs : List (List UInt8)} {n : Nat} {as : List Nat} {l : List Pg}, SegsP n rs as l → k ≤ rs.length → ∃ l1 l2, l = l1 ++ l2 ∧ (∀ p ∈ l1, Harm (n + k) p) ∧ SegsP (n + k) (rs.drop k) (as.drop k) l2
  | 0, rs, n, as, l, h, _ => ⟨[], l, rfl, (fun _ h => nomatch h), h⟩
  | k + 1, [], n, as, l, h, hk => by simp at hk
  | k + 1, r :: rs, n, a :: as, l, h, hk => by
    obtain ⟨att, tl, more, rfl, h1, h2, h3, h4⟩ := h
    obtain ⟨l1, l2, rfl, g1, g2⟩ := h4.dropN (k := k) (by simpa using hk)
    refine ⟨att ++ (tl ++ l1), l2, by simp, fun p hp => ?_, ?_⟩
    · rcases List.mem_append.1 hp with h | h
      · exact .inr (.inl (by have := att_number h1 p h; omega))
      · rcases List.mem_append.1 h with h | h
        · exact (h3 p h).harm _
        · have := g1 p h
          rw [show n + (k + 1) = n + 1 + k by omega]
          exact this
    · rw [show n + (k + 1) = n + 1 + k by omega]
      simpa using g2
theorem SegsP.head {rs : List (List UInt8)} {n : Nat} {as : List Nat} {l : List Pg} (h : SegsP n rs as l) (hr : rs ≠ []) : ∃ p l' a as', l = p :: l' ∧ as = a :: as' ∧ p.pos = a := by
  match rs, as, h with
  | r :: rs, a :: as, h =>
    obtain ⟨att, tl, more, rfl, h1, ⟨p, hp, ha⟩, h3, h4⟩ := h
    cases att with
    | nil => cases hp
    | cons q att =>
      injection hp with hp
      subst hp
      exact ⟨q, att ++ (tl ++ more), a, as, rfl, rfl, ha⟩
  | [], _, _ => exact absurd rfl hr
theorem SegsP.nil {n : Nat} {as : List Nat} {l : List Pg} (h : SegsP n [] as l) : as = [] ∧ l = [] := by
  match as, h with
  | [], h => exact ⟨rfl, h⟩

/-! ## What the pages of a store say -/
def SortedP (l : List Pg) : Prop := l.Pairwise fun p q => p.pos < q.pos
structure Says (first : Nat) (recs : List (List UInt8)) (ats : List Nat) (L : List Pg) : Prop where
  sorted : SortedP L
  parts : ∃ old tail, L = old ++ tail ∧ (∀ p ∈ old, Harm first p) ∧ SegsP first recs ats tail
  last : ∀ p, L.getLast? = some p → p.number - p.diff = first
  none : L = [] → first = 0
theorem Says.coll {first : Nat} {recs : List (List UInt8)} {ats : List Nat} {L : List Pg} (h : Says first recs ats L) : (collP first L).recs = recs ∧ (collP first L).ats = ats := by
  obtain ⟨old, tail, rfl, h1, h2⟩ := h.parts
  unfold collP
  rw [List.foldl_append]
  obtain ⟨k1, k2⟩ := coll_harm (first := first) old ⟨-1, 0, [], [], []⟩ h1
  obtain ⟨g1, g2⟩ := coll_segs (first := first) recs first ats tail (old.foldl (stepC first) ⟨-1, 0, [], [], []⟩) h2 (by rw [k1]; rfl)
  rw [k1] at g1
  rw [k2] at g2
  exact ⟨by simpa using g1, by simpa using g2⟩
theorem Says.first {first : Nat} {recs : List (List UInt8)} {ats : List Nat} {L : List Pg} (h : Says first recs ats L) : firstP L = first := by
  unfold firstP newestP
  cases hl : L.getLast? with
  | none => exact (h.none (List.getLast?_eq_none_iff.1 hl)).symm
  | some p => exact h.last p hl
/-- Where the pages that count begin. -/
def limitP (ats : List Nat) (next : Nat) : Nat := match ats with | [] => next | a :: _ => a
theorem Says.tail_ge {first : Nat} {recs : List (List UInt8)} {ats : List Nat} {old tail : List Pg} {next : Nat} (hs : SortedP (old ++ tail)) (h2 : SegsP first recs ats tail) : ∀ p ∈ tail, limitP ats next ≤ p.pos := by
  intro p hp
  cases recs with
  | nil => obtain ⟨_, rfl⟩ := h2.nil; cases hp
  | cons r rs =>
    obtain ⟨q, l', a, as', rfl, rfl, ha⟩ := h2.head (by simp)
    show a ≤ p.pos
    rw [← ha]
    rcases List.mem_cons.1 hp with rfl | hp
    · exact Nat.le_refl _
    · have := (List.pairwise_append.1 hs).2.1
      exact Nat.le_of_lt ((List.pairwise_cons.1 this).1 p hp)
/-- Pages ahead of the limit, but the last one, may go. -/
theorem Says.filter {first : Nat} {recs : List (List UInt8)} {ats : List Nat} {L : List Pg} {next : Nat} (h : Says first recs ats L) (hn : ∀ p ∈ L, p.pos < next) (k : Pg → Bool) (hk : ∀ p ∈ L, k p = false → p.pos < limitP ats next) (hl : ∀ p, L.getLast? = some p → k p = true) :
    Says first recs ats (L.filter k) := by
  obtain ⟨old, tail, rfl, h1, h2⟩ := h.parts
  have ht : tail.filter k = tail := by
    rw [List.filter_eq_self]
    intro p hp
    cases hkp : k p with
    | true => rfl
    | false =>
      have a := hk p (List.mem_append_right _ hp) hkp
      have b := Says.tail_ge (next := next) h.sorted h2 p hp
      omega
  have hlast : ∀ p, ((old ++ tail).filter k).getLast? = some p → (old ++ tail).getLast? = some p := by
    intro p hp
    cases hL : (old ++ tail).getLast? with
    | none => rw [List.getLast?_eq_none_iff.1 hL] at hp; cases hp
    | some q =>
      obtain ⟨l', hl'⟩ := List.getLast?_eq_some_iff.1 hL
      rw [hl', List.filter_append, List.filter_cons, if_pos (hl q hL)] at hp
      simpa using hp
  refine ⟨h.sorted.sublist (List.filter_sublist), ⟨old.filter k, tail, by rw [List.filter_append, ht], fun p hp => h1 p (List.mem_filter.1 hp).1, h2⟩, fun p hp => h.last p (hlast p hp), fun hn => ?_⟩
  cases hL : (old ++ tail).getLast? with
  | none => exact h.none (List.getLast?_eq_none_iff.1 hL)
  | some q =>
    have hq := List.mem_of_getLast? hL
    have := List.mem_filter.2 ⟨hq, hl q hL⟩
    rw [hn] at this
    cases this
theorem sorted_snoc {l : List Pg} {p : Pg} (h : SortedP l) (hp : ∀ q ∈ l, q.pos < p.pos) : SortedP (l ++ [p]) := by
  unfold SortedP
  rw [List.pairwise_append]
  exact ⟨h, List.pairwise_singleton _ _, fun a ha b hb => by rw [List.mem_singleton.1 hb]; exact hp a ha⟩
/-- A page that ends no record, and says the same first number. -/
theorem Says.snoc {first : Nat} {recs : List (List UInt8)} {ats : List Nat} {L : List Pg} {p : Pg} (h : Says first recs ats L) (hp : HA p) (hq : ∀ q ∈ L, q.pos < p.pos) (hf : p.number - p.diff = first) : Says first recs ats (L ++ [p]) := by
  obtain ⟨old, tail, rfl, h1, h2⟩ := h.parts
  refine ⟨sorted_snoc h.sorted hq, ?_, fun q hq => by rw [List.getLast?_concat] at hq; injection hq with hq; subst hq; exact hf, fun e => by simp at e⟩
  by_cases hr : recs = []
  · subst hr
    obtain ⟨rfl, rfl⟩ := h2.nil
    refine ⟨old ++ [p], [], by simp, fun q hq => ?_, rfl⟩
    rcases List.mem_append.1 hq with h | h
    · exact h1 q h
    · rw [List.mem_singleton.1 h]; exact hp.harm _
  · exact ⟨old, tail ++ [p], by simp, h1, h2.snoc hp hr⟩
theorem Says.snocs {first : Nat} {recs : List (List UInt8)} {ats : List Nat} : ∀ (l : List Pg) {L : List Pg}, Says first recs ats L → (∀ p ∈ l, HA p ∧ p.number - p.diff = first) → SortedP (L ++ l) → Says first recs ats (L ++ l)
  | [], L, h, _, _ => by simpa using h
  | p :: l, L, h, hp, hs => by
    have e : L ++ p :: l = (L ++ [p]) ++ l := by simp
    rw [e] at hs ⊢
    have h1 := (List.pairwise_append.1 hs).1
    exact Says.snocs l (h.snoc (hp p List.mem_cons_self).1 (fun q hq => (List.pairwise_append.1 h1).2.2 q hq p (by simp)) (hp p List.mem_cons_self).2) (fun q hq => hp q (List.mem_cons_of_mem _ hq)) hs
/-- A whole record. -/
theorem Says.record {first : Nat} {recs : List (List UInt8)} {ats : List Nat} {L att : List Pg} {r : List UInt8} {p : Pg} (h : Says first recs ats L) (ha : AttP (first + recs.length) r 0 att) (hp : att.head? = some p) (hs : SortedP (L ++ att)) (hf : ∀ q ∈ att, q.number - q.diff = first) :
    Says first (recs ++ [r]) (ats ++ [p.pos]) (L ++ att) := by
  obtain ⟨old, tail, rfl, h1, h2⟩ := h.parts
  have hne : att ≠ [] := fun e => by rw [e] at hp; cases hp
  refine ⟨hs, ⟨old, tail ++ att, by simp, h1, h2.record hp ha⟩, fun q hq => hf q ?_, fun e => absurd (List.append_eq_nil_iff.1 e).2 hne⟩
  rw [List.getLast?_append] at hq
  cases hl : att.getLast? with
  | none => exact absurd (List.getLast?_eq_none_iff.1 hl) hne
  | some x =>
    rw [hl] at hq
    injection hq with hq
    subst hq
    exact List.mem_of_getLast? hl
/-- Records are dropped. -/
theorem Says.dropN {first n : Nat} {recs : List (List UInt8)} {ats : List Nat} {L : List Pg} {p : Pg} (h : Says first recs ats L) (hn : n ≤ recs.length) (hp : p.kind = 1) (hq : ∀ q ∈ L, q.pos < p.pos) (hf : p.number - p.diff = first + n) :
    Says (first + n) (recs.drop n) (ats.drop n) (L ++ [p]) := by
  obtain ⟨old, tail, rfl, h1, h2⟩ := h.parts
  obtain ⟨l1, l2, rfl, g1, g2⟩ := h2.dropN hn
  have hs := sorted_snoc h.sorted hq
  refine ⟨hs, ?_, fun q hq => by rw [List.getLast?_concat] at hq; injection hq with hq; subst hq; exact hf, fun e => by simp at e⟩
  have ho : ∀ q ∈ old ++ l1, Harm (first + n) q := fun q hq => by
    rcases List.mem_append.1 hq with h | h
    · exact (h1 q h).mono (by omega)
    · exact g1 q h
  by_cases hr : recs.drop n = []
  · rw [hr] at g2
    obtain ⟨ha, rfl⟩ := g2.nil
    rw [hr, ha]
    refine ⟨old ++ l1 ++ [p], [], by simp, fun q hq => ?_, rfl⟩
    rcases List.mem_append.1 hq with h | h
    · exact ho q h
    · rw [List.mem_singleton.1 h]; exact .inl hp
  · exact ⟨old ++ l1, l2 ++ [p], by simp, ho, g2.snoc (.inl hp) hr⟩
theorem says_nil : Says 0 [] [] [] := ⟨List.Pairwise.nil, ⟨[], [], rfl, (fun _ h => nomatch h), rfl⟩, (fun _ h => nomatch h), fun _ => rfl⟩
end Go.Proofs.YtlefilfdomjkeaaGreatDoor
