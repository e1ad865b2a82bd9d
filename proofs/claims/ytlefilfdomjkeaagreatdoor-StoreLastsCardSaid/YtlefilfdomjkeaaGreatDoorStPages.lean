/- Plain laws of a store: the pages of a flash, and what its calls change of them. -/
import Derived.Test.YtlefilfdomjkeaaGreatDoorStPlain
namespace Go.Proofs.YtlefilfdomjkeaaGreatDoor
open Go

/-! ## Sorted pages -/
theorem mem_insP {p q : Pg} : ∀ {l : List Pg}, q ∈ insP p l ↔ q = p ∨ q ∈ l
  | [] => by simp [insP]
  | x :: l => by
    rw [insP]
    split
    · simp
    · rw [List.mem_cons, mem_insP, List.mem_cons]
      constructor
      · rintro (h | h | h)
        · exact .inr (.inl h)
        · exact .inl h
        · exact .inr (.inr h)
      · rintro (h | h | h)
        · exact .inr (.inl h)
        · exact .inl h
        · exact .inr (.inr h)
theorem sorted_insP {p : Pg} : ∀ {l : List Pg}, SortedP l → (∀ q ∈ l, q.pos ≠ p.pos) → SortedP (insP p l)
  | [], _, _ => List.pairwise_singleton _ _
  | x :: l, h, hn => by
    obtain ⟨h1, h2⟩ := List.pairwise_cons.1 h
    rw [insP]
    split
    · rename_i hx
      refine List.pairwise_cons.2 ⟨fun q hq => ?_, h⟩
      rcases List.mem_cons.1 hq with rfl | hq
      · exact hx
      · exact Nat.lt_trans hx (h1 q hq)
    · rename_i hx
      refine List.pairwise_cons.2 ⟨fun q hq => ?_, sorted_insP h2 fun q hq => hn q (List.mem_cons_of_mem _ hq)⟩
      rcases mem_insP.1 hq with rfl | hq
      · have := hn x List.mem_cons_self; omega
      · exact h1 q hq
theorem srt_go : ∀ (l acc : List Pg), SortedP acc → l.Pairwise (fun p q => p.pos ≠ q.pos) → (∀ p ∈ l, ∀ q ∈ acc, p.pos ≠ q.pos) →
    SortedP (l.foldl (fun acc p => insP p acc) acc) ∧ ∀ q, q ∈ l.foldl (fun acc p => insP p acc) acc ↔ q ∈ l ∨ q ∈ acc
  | [], acc, h, _, _ => ⟨h, fun q => by simp⟩
  | p :: l, acc, h, hp, hn => by
    obtain ⟨h1, h2⟩ := List.pairwise_cons.1 hp
    rw [List.foldl_cons]
    obtain ⟨g1, g2⟩ := srt_go l (insP p acc) (sorted_insP h fun q hq => (hn p List.mem_cons_self q hq).symm) h2 fun x hx q hq => by
      rcases mem_insP.1 hq with rfl | hq
      · exact (h1 x hx).symm
      · exact hn x (List.mem_cons_of_mem _ hx) q hq
    refine ⟨g1, fun q => ?_⟩
    rw [g2, mem_insP, List.mem_cons]
    constructor
    · rintro (h | h | h)
      · exact .inl (.inr h)
      · exact .inl (.inl h)
      · exact .inr h
    · rintro ((h | h) | h)
      · exact .inr (.inl h)
      · exact .inl h
      · exact .inr (.inr h)
theorem sorted_eq : ∀ {a b : List Pg}, SortedP a → SortedP b → (∀ p, p ∈ a ↔ p ∈ b) → a = b
  | [], [], _, _, _ => rfl
  | [], y :: b, _, _, h => by have := (h y).2 List.mem_cons_self; cases this
  | x :: a, [], _, _, h => by have := (h x).1 List.mem_cons_self; cases this
  | x :: a, y :: b, ha, hb, h => by
    obtain ⟨h1, h2⟩ := List.pairwise_cons.1 ha
    obtain ⟨g1, g2⟩ := List.pairwise_cons.1 hb
    have hxy : x = y := by
      rcases List.mem_cons.1 ((h x).1 List.mem_cons_self) with e | e
      · exact e
      · rcases List.mem_cons.1 ((h y).2 List.mem_cons_self) with e' | e'
        · exact e'.symm
        · have := h1 y e'; have := g1 x e; omega
    subst hxy
    congr 1
    refine sorted_eq h2 g2 fun p => ?_
    constructor
    · intro hp
      rcases List.mem_cons.1 ((h p).1 (List.mem_cons_of_mem _ hp)) with rfl | e
      · have := h1 p hp; omega
      · exact e
    · intro hp
      rcases List.mem_cons.1 ((h p).2 (List.mem_cons_of_mem _ hp)) with rfl | e
      · have := g1 p hp; omega
      · exact e

/-! ## The valid pages of a flash -/
theorem validAt_some {F : Fl} {i : Nat} {p : Pg} (h : validAt F i = some p) : ∃ s, pageAt F i = some s ∧ rdOk s.data.toList ∧ p = rdPg s.data.toList ∧ p.pos % (F.nb * F.np) = i := by
  unfold validAt at h
  split at h
  · cases h
  · rename_i s hs
    split at h
    · rename_i hc
      injection h with h
      subst h
      exact ⟨s, hs, hc.1, rfl, hc.2⟩
    · cases h
def MemP (F : Fl) (p : Pg) : Prop := ∃ i, i < F.nb * F.np ∧ validAt F i = some p
theorem MemP.at_ {F : Fl} {p : Pg} (h : MemP F p) : validAt F (p.pos % (F.nb * F.np)) = some p ∧ p.pos % (F.nb * F.np) < F.nb * F.np := by
  obtain ⟨i, hi, h⟩ := h
  obtain ⟨s, _, _, _, e⟩ := validAt_some h
  rw [e]
  exact ⟨h, hi⟩
theorem mem_vals {F : Fl} {p : Pg} : p ∈ vals F ↔ MemP F p := by
  unfold vals MemP
  rw [List.mem_filterMap]
  constructor
  · rintro ⟨i, hi, h⟩; exact ⟨i, List.mem_range.1 hi, h⟩
  · rintro ⟨i, hi, h⟩; exact ⟨i, List.mem_range.2 hi, h⟩
theorem vals_apart (F : Fl) : (vals F).Pairwise fun p q => p.pos ≠ q.pos := by
  unfold vals
  rw [List.pairwise_filterMap]
  refine List.Pairwise.imp (R := (· < ·)) ?_ List.pairwise_lt_range
  intro i j hij p hp q hq e
  obtain ⟨_, _, _, _, e1⟩ := validAt_some hp
  obtain ⟨_, _, _, _, e2⟩ := validAt_some hq
  rw [e, e2] at e1
  omega
theorem pages_sorted (F : Fl) : SortedP (pagesP F) := (srt_go (vals F) [] List.Pairwise.nil (vals_apart F) fun _ _ _ h => nomatch h).1
theorem mem_pages {F : Fl} {p : Pg} : p ∈ pagesP F ↔ MemP F p := by
  rw [← mem_vals]
  have := (srt_go (vals F) [] List.Pairwise.nil (vals_apart F) fun _ _ _ h => nomatch h).2 p
  unfold pagesP srtP
  rw [this]
  simp
theorem pages_eq {F : Fl} {L : List Pg} (hs : SortedP L) (hm : ∀ p, p ∈ L ↔ MemP F p) : pagesP F = L := sorted_eq (pages_sorted F) hs fun p => by rw [mem_pages, hm]
theorem pages_congr {F G : Fl} (hn : G.nb = F.nb) (hk : G.np = F.np) (h : ∀ i, i < F.nb * F.np → validAt G i = validAt F i) : pagesP G = pagesP F := by
  refine pages_eq (pages_sorted F) fun p => ?_
  rw [mem_pages]
  unfold MemP
  rw [hn, hk]
  constructor
  · rintro ⟨i, hi, e⟩; exact ⟨i, hi, by rw [h i hi]; exact e⟩
  · rintro ⟨i, hi, e⟩; exact ⟨i, hi, by rw [← h i hi]; exact e⟩

/-- Every page has a beginning of what a store wrote. -/
def PgInv (F : Fl) : Prop := ∀ i, i < F.nb * F.np → ∀ s, pageAt F i = some s → ∃ p : Pg, p.Good ∧ s.data.toList <+: txtP p ∧ p.pos % (F.nb * F.np) = i
theorem PgInv.valid {F : Fl} (h : PgInv F) {i : Nat} (hi : i < F.nb * F.np) {p : Pg} (hv : validAt F i = some p) : p.Good ∧ ∃ s, pageAt F i = some s ∧ s.data.toList = txtP p := by
  obtain ⟨s, hs, ho, hp, _⟩ := validAt_some hv
  obtain ⟨q, hq, hpre, _⟩ := h i hi s hs
  have e := rd_prefix hq hpre ho
  have : p = q := by rw [hp, e, rd_good hq]
  subst this
  exact ⟨hq, s, hs, e⟩
theorem PgInv.good {F : Fl} (h : PgInv F) {p : Pg} (hp : p ∈ pagesP F) : p.Good := by
  obtain ⟨i, hi, e⟩ := mem_pages.1 hp
  exact (h.valid hi e).1

/-! ## Indices -/
theorem idx_lt {nb np b g : Nat} (hb : b < nb) (hg : g < np) : b * np + g < nb * np := by
  have : (b + 1) * np ≤ nb * np := Nat.mul_le_mul_right _ hb
  rw [Nat.succ_mul] at this
  omega
theorem idx_div {np b g : Nat} (hg : g < np) : (b * np + g) / np = b := by
  rw [Nat.mul_comm, Nat.mul_add_div (by omega), Nat.div_eq_of_lt hg]; rfl
theorem idx_mod {np b g : Nat} (hg : g < np) : (b * np + g) % np = g := by
  rw [Nat.mul_comm, Nat.mul_add_mod, Nat.mod_eq_of_lt hg]
theorem idx_self (np i : Nat) : i / np * np + i % np = i := by
  rw [Nat.mul_comm]; exact Nat.div_add_mod i np
theorem pos_idx {nb np q : Nat} (hk : 0 < np) : q % (nb * np) = (q / np % nb) * np + q % np := by
  rw [Nat.mul_comm nb np, Nat.mod_mul, Nat.mul_comm]
  omega
theorem pos_div {nb np q : Nat} (hk : 0 < np) : q % (nb * np) / np = q / np % nb := by
  rw [pos_idx hk, idx_div (Nat.mod_lt _ hk)]
theorem pos_mod {nb np q : Nat} (hk : 0 < np) : q % (nb * np) % np = q % np := by
  rw [pos_idx hk, idx_mod (Nat.mod_lt _ hk)]

/-! ## What the calls change -/
theorem tick_at (F : Fl) : (∀ i, pageAt F.tick i = pageAt F i) ∧ F.tick.nb = F.nb ∧ F.tick.np = F.np := by
  obtain ⟨h1, h2, h3, _⟩ := F.tick_blk
  exact ⟨fun i => by unfold pageAt; rw [h1, h3], h2, h3⟩
theorem validAt_congr {F G : Fl} (hn : G.nb = F.nb) (hk : G.np = F.np) {i : Nat} (h : pageAt G i = pageAt F i) : validAt G i = validAt F i := by
  unfold validAt; rw [h, hn, hk]
theorem set_at {F : Fl} {b g : Nat} (hg : g < F.np) (s : ByteArray) (i : Nat) : pageAt (F.setPage b g s) i = if i = b * F.np + g then some s else pageAt F i := by
  unfold pageAt Fl.setPage
  dsimp only
  by_cases hb : i / F.np = b
  · rw [if_pos hb]
    dsimp only
    by_cases he : i % F.np = g
    · rw [if_pos he, if_pos (by rw [← hb, ← he]; exact (idx_self _ _).symm)]
    · rw [if_neg he, if_neg (fun e => he (by rw [e]; exact idx_mod hg)), hb]
  · rw [if_neg hb, if_neg (fun e => hb (by rw [e]; exact idx_div hg))]
theorem clear_at {F : Fl} {b m : Nat} (i : Nat) : pageAt (F.clear b m) i = if i / F.np = b ∧ m ≤ i % F.np then none else pageAt F i := by
  unfold pageAt Fl.clear
  dsimp only
  by_cases hb : i / F.np = b
  · rw [if_pos hb]
    dsimp only
    by_cases hm : m ≤ i % F.np
    · rw [if_pos hm, if_pos ⟨hb, hm⟩]
    · rw [if_neg hm, if_neg (fun e => hm e.2), hb]
  · rw [if_neg hb, if_neg (fun e => hb e.1)]
theorem worn_at (F : Fl) (b i : Nat) : pageAt (F.worn b) i = pageAt F i := by
  unfold pageAt Fl.worn
  dsimp only
  split
  · rename_i h; rw [h]
  · rfl

/-- What an erase does to the pages. -/
structure Erased (F G : Fl) (b : Nat) (e : Int) : Prop where
  nb : G.nb = F.nb
  np : G.np = F.np
  at_ : ∃ m, ∀ i, pageAt G i = if i / F.np = b ∧ m ≤ i % F.np then none else pageAt F i
  whole : e = 0 → (∀ i, i / F.np = b → pageAt G i = none) ∧ G.down = F.down
  down : e = 8 ↔ G.down = true
  lost : G.lost = F.lost
theorem erase_does {F : Fl} (ok : F.Ok) (hd : F.down = false) {b : Nat} (hb : b < F.nb) : Erased F (F.erase b).1 b (F.erase b).2 := by
  have ha : F.atErr b 0 = 0 := Fl.atErr_ok hd (by omega) (by omega) (by omega) (by have := ok.np; omega)
  obtain ⟨t1, t2, t3, t4, t5⟩ := F.tick_blk
  have tk : ∀ i, pageAt F.tick i = pageAt F i := (tick_at F).1
  unfold Fl.erase
  rw [if_neg (by rw [ha]; decide), Int.toNat_natCast]
  split
  · exact ⟨rfl, rfl, ⟨F.np, fun i => by rw [if_neg (fun e => by have := Nat.mod_lt i (show 0 < F.np by have := ok.np; omega); omega)]⟩, fun e => (by cases e), ⟨fun e => (by cases e), fun e => (by rw [hd] at e; cases e)⟩, rfl⟩
  · split
    · rename_i h1
      refine ⟨t2, t3, ⟨(min (max F.keep 0) F.np).toNat, fun i => ?_⟩, fun e => (by cases e), ⟨fun _ => h1, fun _ => rfl⟩, t4⟩
      rw [worn_at, clear_at, t3, tk]
    · rename_i h1
      have h1 : F.tick.down = false := by simpa using h1
      refine ⟨t2, t3, ⟨0, fun i => ?_⟩, fun _ => ⟨fun i hi => ?_, h1.trans hd.symm⟩, ⟨fun e => (by cases e), fun e => ?_⟩, t4⟩
      · rw [worn_at, clear_at, t3, tk]
      · rw [worn_at, clear_at, t3, if_pos ⟨hi, Nat.zero_le _⟩]
      · have e : F.tick.down = true := e
        rw [h1] at e; cases e
/-- What a program does to the pages. -/
structure Programmed (F G : Fl) (i : Nat) (s : List UInt8) (e : Int) : Prop where
  nb : G.nb = F.nb
  np : G.np = F.np
  other : ∀ j, j ≠ i → pageAt G j = pageAt F j
  done : e = 0 → pageAt F i = none ∧ pageAt G i = some ⟨s.toArray⟩ ∧ G.down = F.down
  torn : e = 8 → pageAt F i = none ∧ G.down = true ∧ ∃ t, pageAt G i = some t ∧ t.data.toList <+: s
  same : e ≠ 0 → e ≠ 8 → pageAt G i = pageAt F i ∧ G.down = F.down
theorem toList_mk (s : List UInt8) : (ByteArray.mk s.toArray).data.toList = s := rfl
theorem cut_prefix (F : Fl) (s : List UInt8) : (cut F ⟨s.toArray⟩).data.toList <+: s := by
  unfold cut
  rw [ByteArray.data_extract, Array.toList_extract, List.extract_eq_take_drop, List.drop_zero]
  exact List.take_prefix _ _
theorem later_none {F : Fl} {b g : Nat} (hg : g < F.np) (h : F.later b g = false) : (F.blk b).page g = none := by
  unfold Fl.later at h
  rw [List.any_eq_false] at h
  have := h 0 (List.mem_range.2 (by omega))
  simpa using this
theorem program_does {F : Fl} (ok : F.Ok) (hd : F.down = false) {b g : Nat} (hb : b < F.nb) (hg : g < F.np) (s : List UInt8) : Programmed F (F.program b g ⟨s.toArray⟩).1 (b * F.np + g) s (F.program b g ⟨s.toArray⟩).2 := by
  have ha : F.atErr b g = 0 := Fl.atErr_ok hd (by omega) (by omega) (by omega) (by omega)
  obtain ⟨t1, t2, t3, t4, t5⟩ := F.tick_blk
  have tk : ∀ i, pageAt F.tick i = pageAt F i := (tick_at F).1
  have hi : pageAt F (b * F.np + g) = (F.blk b).page g := by unfold pageAt; rw [idx_div hg, idx_mod hg]
  unfold Fl.program
  rw [if_neg (by rw [ha]; decide), Int.toNat_natCast, Int.toNat_natCast]
  split
  · exact ⟨rfl, rfl, fun _ _ => rfl, fun e => (by cases e), fun e => (by cases e), fun _ _ => ⟨rfl, rfl⟩⟩
  · split
    · exact ⟨rfl, rfl, fun _ _ => rfl, fun e => (by cases e), fun e => (by cases e), fun _ _ => ⟨rfl, rfl⟩⟩
    · rename_i hl
      have hl : F.later b g = false := by simpa using hl
      have h0 := hi.trans (later_none hg hl)
      split
      · rename_i h1
        refine ⟨t2, t3, fun j hj => ?_, fun e => (by cases e), fun _ => ⟨h0, h1, cut F ⟨s.toArray⟩, ?_, cut_prefix F s⟩, fun _ h => absurd rfl h⟩
        · rw [set_at (by rw [t3]; exact hg), t3, if_neg hj, tk]
        · rw [set_at (by rw [t3]; exact hg), t3, if_pos rfl]
      · rename_i h1
        have h1 : F.tick.down = false := by simpa using h1
        split
        · refine ⟨t2, t3, fun j hj => ?_, fun e => (by cases e), fun e => (by cases e), fun _ _ => ⟨?_, h1.trans hd.symm⟩⟩
          · exact tk j
          · exact tk _
        · refine ⟨t2, t3, fun j hj => ?_, fun _ => ⟨h0, ?_, h1.trans hd.symm⟩, fun e => (by cases e), fun h => absurd rfl h⟩
          · rw [set_at (by rw [t3]; exact hg), t3, if_neg hj, tk]
          · rw [set_at (by rw [t3]; exact hg), t3, if_pos rfl]
end Go.Proofs.YtlefilfdomjkeaaGreatDoor
