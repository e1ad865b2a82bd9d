/- Plain: operations one after the other on a store whose flash may fail. -/
import Derived.Test.YtlefilfdomjkeaaGreatDoorStT
namespace Go.Proofs.YtlefilfdomjkeaaGreatDoor
open Go
def shakeP (F : Fl) (o : OpS) : Fl := if o.kind = 2 then F.lose o.n else if o.kind = 3 then F.arm o.n o.keep else if o.kind = 4 then F.crash.start else if o.kind = 5 then F.start else F
structure Shaken (F G : Fl) : Prop where
  ok : G.Ok
  blk : G.blk = F.blk
  nb : G.nb = F.nb
  np : G.np = F.np
theorem crash_blk (F : Fl) : F.crash.blk = F.blk ∧ F.crash.nb = F.nb ∧ F.crash.np = F.np := by
  unfold Fl.crash
  split <;> exact ⟨rfl, rfl, rfl⟩
theorem shake_does {F : Fl} (ok : F.Ok) {o : OpS} (oo : o.Ok) : Shaken F (shakeP F o) ∧ (¬ (o.kind = 4 ∨ o.kind = 5) → (shakeP F o).down = F.down) ∧ (o.kind = 4 ∨ o.kind = 5 → (shakeP F o).down = false) := by
  unfold shakeP
  split
  · exact ⟨⟨Fl.lose_ok ok _ oo.n.2, rfl, rfl, rfl⟩, fun _ => rfl, fun h => by omega⟩
  · split
    · exact ⟨⟨Fl.arm_ok ok _ _ oo.n.2, rfl, rfl, rfl⟩, fun _ => rfl, fun h => by omega⟩
    · split
      · obtain ⟨h1, h2, h3⟩ := crash_blk F
        exact ⟨⟨Fl.start_ok (Fl.crash_ok ok), h1, h2, h3⟩, fun h => absurd (.inl (by assumption)) h, fun _ => rfl⟩
      · split
        · exact ⟨⟨Fl.start_ok ok, rfl, rfl, rfl⟩, fun h => absurd (.inr (by assumption)) h, fun _ => rfl⟩
        · exact ⟨⟨ok, rfl, rfl, rfl⟩, fun _ => rfl, fun h => by omega⟩
/-- The bounds of a store's numbers. -/
structure Bnd (n m : Nat) (S : St) : Prop where
  next : S.next ≤ n
  len : S.len ≤ m
  ats : ∀ a ∈ S.ats, a ≤ n
  same : S.ats.length = S.recs.length
  txt : ∀ r ∈ S.recs, r.length ≤ 300
theorem Bnd.ok {n m : Nat} {S : St} (h : Bnd n m S) (hn : n ≤ 900000) (hm : m ≤ 900000) : StOk S :=
  ⟨by have := h.next; omega, by have := h.len; omega, fun a ha => by have := h.ats a ha; omega, h.same, fun r hr => by have := h.txt r hr; omega⟩
theorem Bnd.wide {n m n' m' : Nat} {S : St} (h : Bnd n m S) (hn : n ≤ n') (hm : m ≤ m') : Bnd n' m' S :=
  ⟨Nat.le_trans h.next hn, Nat.le_trans h.len hm, fun a ha => Nat.le_trans (h.ats a ha) hn, h.same, h.txt⟩
theorem Bnd.small {n m : Nat} {S : St} (h : Bnd n m S) (hn : n ≤ 900000) (hm : m ≤ 900000) {r : List UInt8} (hr : r.length ≤ 4000) : S.Small r :=
  ⟨by have := h.next; omega, by have := h.len; omega⟩
def fromF (f : Nat) (l : List (List UInt8)) (o : OpS) : Nat := if o.kind = 1 then f + (min (max o.n 0) (l.length : Int)).toNat else f
theorem after_txt {l : List (List UInt8)} {o : OpS} (hl : ∀ r ∈ l, r.length ≤ 300) (ho : o.s.length ≤ 300) : ∀ r ∈ afterP l o, r.length ≤ 300 := by
  intro r hr
  unfold afterP at hr
  split at hr
  · rcases List.mem_append.1 hr with h | h
    · exact hl r h
    · rw [List.mem_singleton.1 h]; exact ho
  · exact hl r (List.mem_of_mem_drop hr)
theorem after_len {f : Nat} {l : List (List UInt8)} {o : OpS} (hk : o.kind = 0 ∨ o.kind = 1) : fromF f l o + (afterP l o).length ≤ f + l.length + 1 := by
  unfold fromF afterP
  rcases hk with hk | hk
  · rw [if_pos hk, if_neg (by omega), List.length_append]
    simp
    omega
  · rw [if_pos hk, if_neg (by omega), List.length_drop]
    omega
/-- What a call that appends or drops leads to. -/
structure Done (n m : Nat) (F : Fl) (S : St) (o : OpS) (G : Fl) (T : St) (e : Int) : Prop where
  nb : G.nb = F.nb
  np : G.np = F.np
  bnd : Bnd (n + 302) (m + 1) T
  good : e = 0 → Live G T ∧ T.recs = afterP S.recs o ∧ T.first = fromF S.first S.recs o
  bad : e ≠ 0 → T.recs = S.recs ∧ T.first = S.first ∧ (e ≠ 8 → Live G T) ∧ (e = 8 → G.down = true ∧ (Kept G (n + 302) S.first S.recs ∨ Kept G (n + 302) (fromF S.first S.recs o) (afterP S.recs o)))
theorem appendP_st (F : Fl) (S : St) (r : List UInt8) : ((appendP F S r).2.1.recs = S.recs ∧ (appendP F S r).2.1.ats = S.ats) ∨ ((appendP F S r).2.1.recs = S.recs ++ [r] ∧ (appendP F S r).2.1.ats = S.ats ++ [S.next]) := by
  unfold appendP
  split
  · exact .inl ⟨rfl, rfl⟩
  · split
    · exact .inl ⟨rfl, rfl⟩
    · split
      · exact .inr ⟨rfl, rfl⟩
      · exact .inl (writesP_st _ F S)
theorem append_done {n m : Nat} {F : Fl} {S : St} (h : Live F S) (b : Bnd n m S) (hn : n ≤ 900000) (hm : m ≤ 900000) {o : OpS} (hk : o.kind = 0) (hr : o.s.length ≤ 300) {R : Fl × St × Int} (hR : appendP F S o.s = R) : Done n m F S o R.1 R.2.1 R.2.2 := by
  have L := append_law h (b.small hn hm (r := o.s) (by omega))
  have P := appendP_st F S o.s
  rw [hR] at L P
  have ha : afterP S.recs o = S.recs ++ [o.s] := by unfold afterP; rw [if_pos hk]
  have hf : fromF S.first S.recs o = S.first := by unfold fromF; rw [if_neg (by omega)]
  have hnx := L.next
  have b1 := b.next
  refine ⟨L.size.1, L.size.2, ⟨by omega, ?_, ?_, ?_, ?_⟩, fun e => ?_, fun e => ?_⟩
  · have := b.len; unfold St.len at this ⊢; rw [L.first]
    rcases P with ⟨h1, _⟩ | ⟨h1, _⟩ <;> rw [h1]
    · omega
    · rw [List.length_append]; simp; omega
  · intro a ha
    rcases P with ⟨_, h1⟩ | ⟨_, h1⟩ <;> rw [h1] at ha
    · have := b.ats a ha; omega
    · rcases List.mem_append.1 ha with ha | ha
      · have := b.ats a ha; omega
      · rw [List.mem_singleton.1 ha]; omega
  · rcases P with ⟨h0, h1⟩ | ⟨h0, h1⟩ <;> rw [h0, h1]
    · exact b.same
    · rw [List.length_append, List.length_append, b.same]; rfl
  · intro r hr'
    rcases P with ⟨h0, _⟩ | ⟨h0, _⟩ <;> rw [h0] at hr'
    · exact b.txt r hr'
    · rcases List.mem_append.1 hr' with h | h
      · exact b.txt r h
      · rw [List.mem_singleton.1 h]; exact hr
  · rw [ha, hf]; exact ⟨(L.good e).1, (L.good e).2, L.first⟩
  · obtain ⟨h1, h2, h3⟩ := L.bad e
    refine ⟨h1, L.first, h2, fun e8 => ⟨(h3 e8).1, ?_⟩⟩
    rw [ha, hf]
    rcases (h3 e8).2 with h | h
    · exact .inl (h.wide (by omega))
    · exact .inr (h.wide (by omega))
theorem dropP_st (F : Fl) (S : St) (n : Int) : (dropP F S n).2.1 = S ∨ 0 ≤ n ∧ (dropP F S n).2.1.recs = S.recs.drop n.toNat ∧ (dropP F S n).2.1.ats = S.ats.drop n.toNat ∧ (dropP F S n).2.1.first = S.first + n.toNat ∧ n ≤ S.recs.length := by
  unfold dropP
  split
  · exact .inl rfl
  · split
    · exact .inl rfl
    · split
      · exact .inl rfl
      · split
        · exact .inr ⟨by omega, rfl, rfl, rfl, by omega⟩
        · exact .inl rfl
theorem drop_done {n m : Nat} {F : Fl} {S : St} (h : Live F S) (b : Bnd n m S) (hn : n ≤ 900000) (hm : m ≤ 900000) {o : OpS} (hk : o.kind = 1) {R : Fl × St × Int} (hR : dropP F S o.n = R) : Done n m F S o R.1 R.2.1 R.2.2 := by
  have wide := b.wide (n' := n + 302) (m' := m + 1) (by omega) (by omega)
  have hk0 : ¬ o.kind = 0 := by omega
  by_cases h1 : o.n < 0 ∨ (S.recs.length : Int) < o.n
  · have e : dropP F S o.n = (F, S, 1) := by unfold dropP; rw [if_pos h1]
    rw [← hR, e]
    exact ⟨rfl, rfl, wide, fun e => (by cases e), fun _ => ⟨rfl, rfl, fun _ => h, fun e => (by cases e)⟩⟩
  · have ha : afterP S.recs o = S.recs.drop o.n.toNat := after_kind1 hk0 (by omega) (by omega)
    have hf : fromF S.first S.recs o = S.first + o.n.toNat := by unfold fromF; rw [if_pos hk, show min (max o.n 0) (S.recs.length : Int) = o.n by omega]
    by_cases h0 : o.n = 0
    · have e : dropP F S o.n = (F, S, 0) := by unfold dropP; rw [if_neg h1, if_pos h0]
      rw [← hR, e, ]
      refine ⟨rfl, rfl, wide, fun _ => ⟨h, ?_, ?_⟩, fun e => absurd rfl e⟩
      · rw [ha, h0]; rfl
      · rw [hf, h0]; rfl
    · obtain ⟨k, hk2⟩ := Int.eq_ofNat_of_zero_le (show 0 ≤ o.n by omega)
      have L := drop_law (n := k) h (b.small hn hm (r := []) (by decide)) (by omega) (by omega)
      have P := dropP_st F S o.n
      rw [hk2] at hR P ha hf
      rw [hR] at L P
      rw [Int.toNat_natCast] at ha hf P
      have hnx := L.next
      have b1 := b.next
      refine ⟨L.size.1, L.size.2, ⟨by omega, ?_, ?_, ?_, ?_⟩, fun e => ?_, fun e => ?_⟩
      · have := b.len
        rcases P with h | ⟨_, h2, _, h3, h4⟩
        · rw [h]; omega
        · unfold St.len at this ⊢; rw [h2, h3, List.length_drop]; omega
      · intro a ha
        rcases P with h | ⟨_, _, h2, _⟩
        · rw [h] at ha; have := b.ats a ha; omega
        · rw [h2] at ha; have := b.ats a (List.mem_of_mem_drop ha); omega
      · rcases P with h | ⟨_, h2, h3, _⟩
        · rw [h]; exact b.same
        · rw [h2, h3, List.length_drop, List.length_drop, b.same]
      · intro r hr'
        rcases P with h | ⟨_, h2, _⟩
        · rw [h] at hr'; exact b.txt r hr'
        · rw [h2] at hr'; exact b.txt r (List.mem_of_mem_drop hr')
      · rw [ha, hf]; exact ⟨(L.good e).1, (L.good e).2.1, (L.good e).2.2⟩
      · obtain ⟨h1, h2, h3⟩ := L.bad e
        refine ⟨by rw [h1], by rw [h1], h2, fun e8 => ⟨(h3 e8).1, ?_⟩⟩
        rw [ha, hf]
        rcases (h3 e8).2 with h | h
        · exact .inl (h.wide (by omega))
        · exact .inr (h.wide (by omega))
/-- What is so whenever an operation comes: the store has cur, from number first on; if the flash is down, it keeps these, or what the last call would have led to. -/
structure Lasts (j nb np : Nat) (F : Fl) (S : St) (second : Nat) (other : List (List UInt8)) : Prop where
  ok : F.Ok
  hnb : F.nb = nb
  hnp : F.np = np
  bnd : Bnd (400 * j) j S
  len2 : second + other.length ≤ j
  txt2 : ∀ r ∈ other, r.length ≤ 300
  up : F.down = false → Live F S
  dn : F.down = true → Kept F (400 * j) S.first S.recs ∨ Kept F (400 * j) second other
theorem lasts_new {nb np : Nat} (h1 : 2 ≤ nb ∧ nb ≤ 6) (h2 : 1 ≤ np ∧ np ≤ 6) : Lasts 0 nb np (Fl.new nb np) ⟨0, 0, [], []⟩ 0 [] := by
  have T := tidy_new (nb := nb) (np := np) (by omega) (by omega)
  exact ⟨T.live.ok, rfl, rfl, ⟨Nat.le_refl _, Nat.le_refl _, (fun _ h => nomatch h), rfl, fun _ h => nomatch h⟩, Nat.le_refl _, (fun _ h => nomatch h), fun _ => T.live, fun h => (by cases h)⟩
theorem Lasts.wide {j k nb np : Nat} {F : Fl} {S : St} {second : Nat} {other : List (List UInt8)} (h : Lasts j nb np F S second other) (hk : j ≤ k) : Lasts k nb np F S second other :=
  ⟨h.ok, h.hnb, h.hnp, h.bnd.wide (Nat.mul_le_mul_left _ hk) hk, Nat.le_trans h.len2 hk, h.txt2, h.up, fun hd => (h.dn hd).imp (·.wide (Nat.mul_le_mul_left _ hk)) (·.wide (Nat.mul_le_mul_left _ hk))⟩
theorem Live.ats_le {F : Fl} {S : St} (h : Live F S) : (∀ a ∈ S.ats, a < S.next) ∧ S.ats.length = S.recs.length := by
  obtain ⟨old, tail, hp, _, h2⟩ := h.says.parts
  refine ⟨fun a ha => ?_, h2.len.symm⟩
  obtain ⟨p, hp', rfl⟩ := h2.ats_mem a ha
  exact h.lt p (by rw [hp]; exact List.mem_append_right _ hp')
/-- A call that appends or drops. -/
theorem Lasts.call {j nb np : Nat} {F : Fl} {S : St} {second : Nat} {other : List (List UInt8)} (h : Lasts j nb np F S second other) {o : OpS} (hk : o.kind = 0 ∨ o.kind = 1) (ho : o.s.length ≤ 300) {G : Fl} {T : St} {e : Int} (d : Done (400 * j) j F S o G T e) (gok : G.Ok) :
    (e = 0 → Lasts (j + 1) nb np G T T.first T.recs) ∧ (e ≠ 0 → e ≠ 8 → Lasts (j + 1) nb np G T S.first S.recs) ∧ (e = 8 → Lasts (j + 1) nb np G T (fromF S.first S.recs o) (afterP S.recs o)) := by
  have b1 : Bnd (400 * (j + 1)) (j + 1) T := d.bnd.wide (by omega) (Nat.le_refl _)
  have hl := h.bnd.len
  unfold St.len at hl
  refine ⟨fun e0 => ?_, fun e0 e8 => ?_, fun e8 => ?_⟩
  · obtain ⟨g1, g2, g3⟩ := d.good e0
    exact ⟨gok, d.nb.trans h.hnb, d.np.trans h.hnp, b1, b1.len, b1.txt, fun _ => g1, fun hd => by rw [g1.up] at hd; cases hd⟩
  · obtain ⟨g1, g2, g3, _⟩ := d.bad e0
    have g3 := g3 e8
    exact ⟨gok, d.nb.trans h.hnb, d.np.trans h.hnp, b1, by omega, h.bnd.txt, fun _ => g3, fun hd => by rw [g3.up] at hd; cases hd⟩
  · obtain ⟨g1, g2, _, g3⟩ := d.bad (by omega)
    obtain ⟨g3, g4⟩ := g3 e8
    refine ⟨gok, d.nb.trans h.hnb, d.np.trans h.hnp, b1, ?_, after_txt h.bnd.txt ho, fun hu => (by rw [g3] at hu; cases hu), fun _ => ?_⟩
    · have := after_len (f := S.first) (l := S.recs) hk; omega
    · rw [g1, g2]
      exact g4.imp (·.wide (by omega)) (·.wide (by omega))
/-- The flash is shaken, and not opened again. -/
theorem Lasts.shake {j nb np : Nat} {F G : Fl} {S : St} {second : Nat} {other : List (List UInt8)} (h : Lasts j nb np F S second other) (s : Shaken F G) (hd : G.down = F.down) : Lasts j nb np G S second other :=
  ⟨s.ok, s.nb.trans h.hnb, s.np.trans h.hnp, h.bnd, h.len2, h.txt2, fun hu => (h.up (by rw [← hd]; exact hu)).congr s.ok s.blk s.nb s.np hu, fun hu => (h.dn (by rw [← hd]; exact hu)).imp (·.congr s.ok s.blk s.nb s.np) (·.congr s.ok s.blk s.nb s.np)⟩
/-- The store is opened again. -/
theorem Lasts.open_ {j nb np : Nat} {F G : Fl} {S : St} {second : Nat} {other : List (List UInt8)} (h : Lasts j nb np F S second other) (hb : 2 ≤ nb) (hp : np ≤ 6) (hj : j ≤ 800) (s : Shaken F G) (hd : G.down = false) :
    Lasts (j + 1) nb np G (openP G) (openP G).first (openP G).recs ∧ ((openP G).recs = S.recs ∧ (openP G).first = S.first ∨ (openP G).recs = other ∧ (openP G).first = second) ∧ (2 ≤ G.nb ∧ PgInv G ∧ ∀ p ∈ pagesP G, p.pos < 1000000) := by
  have key : Kept G (400 * j) S.first S.recs ∨ Kept G (400 * j) second other := by
    cases hf : F.down with
    | false =>
      have := (h.up hf).kept
      exact .inl ((this.congr s.ok s.blk s.nb s.np).wide h.bnd.next)
    | true => exact (h.dn hf).imp (·.congr s.ok s.blk s.nb s.np) (·.congr s.ok s.blk s.nb s.np)
  have all : ∀ {f : Nat} {rs : List (List UInt8)}, Kept G (400 * j) f rs → f + rs.length ≤ j → (∀ r ∈ rs, r.length ≤ 300) → Lasts (j + 1) nb np G (openP G) (openP G).first (openP G).recs ∧ ((openP G).recs = rs ∧ (openP G).first = f) ∧ (2 ≤ G.nb ∧ PgInv G ∧ ∀ p ∈ pagesP G, p.pos < 1000000) := by
    intro f rs k hl ht
    obtain ⟨L, h1, h2, h3⟩ := open_law k hd
    have hnp : G.np = np := s.np.trans h.hnp
    rw [hnp] at h3
    obtain ⟨a1, a2⟩ := L.ats_le
    have hlen : (openP G).len ≤ j + 1 := by unfold St.len; rw [h1, h2]; omega
    refine ⟨⟨s.ok, s.nb.trans h.hnb, hnp, ⟨by omega, hlen, fun a ha => by have := a1 a ha; omega, a2, by rw [h2]; exact ht⟩, by rw [h1, h2]; omega, by rw [h2]; exact ht, fun _ => L, fun hu => (by rw [hd] at hu; cases hu)⟩, ⟨h2, h1⟩, by rw [s.nb, h.hnb]; exact hb, k.inv, fun p hp => by have := k.lt p hp; omega⟩
  rcases key with k | k
  · obtain ⟨x, y, z⟩ := all k (by have := h.bnd.len; unfold St.len at this; omega) h.bnd.txt
    exact ⟨x, .inl y, z⟩
  · obtain ⟨x, y, z⟩ := all k h.len2 h.txt2
    exact ⟨x, .inr y, z⟩
end Go.Proofs.YtlefilfdomjkeaaGreatDoor
