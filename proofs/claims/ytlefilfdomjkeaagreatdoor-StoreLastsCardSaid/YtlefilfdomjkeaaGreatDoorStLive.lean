/- Plain laws of a store: what an opened store is, and that calls keep it. -/
import Derived.Test.YtlefilfdomjkeaaGreatDoorStLaws
namespace Go.Proofs.YtlefilfdomjkeaaGreatDoor
open Go

/-- A store that is open on a flash that is up. -/
structure Live (F : Fl) (S : St) : Prop where
  ok : F.Ok
  nb : 2 ≤ F.nb
  up : F.down = false
  inv : PgInv F
  says : Says S.first S.recs S.ats (pagesP F)
  lt : ∀ p ∈ pagesP F, p.pos < S.next
  near : ∀ p, (pagesP F).getLast? = some p → S.next / F.np * F.np ≤ p.pos + F.np
/-- A flash that has these records. -/
structure Kept (F : Fl) (B first : Nat) (recs : List (List UInt8)) : Prop where
  ok : F.Ok
  nb : 2 ≤ F.nb
  inv : PgInv F
  says : ∃ ats, Says first recs ats (pagesP F)
  lt : ∀ p ∈ pagesP F, p.pos < B
theorem Live.kept {F : Fl} {S : St} (h : Live F S) : Kept F S.next S.first S.recs := ⟨h.ok, h.nb, h.inv, ⟨_, h.says⟩, h.lt⟩
theorem Kept.wide {F : Fl} {B C first : Nat} {recs : List (List UInt8)} (h : Kept F B first recs) (hc : B ≤ C) : Kept F C first recs := ⟨h.ok, h.nb, h.inv, h.says, fun p hp => Nat.lt_of_lt_of_le (h.lt p hp) hc⟩
theorem Live.wr {F : Fl} {S : St} (h : Live F S) (lim : Nat) : Wr (pagesP F) lim F.nb F.np F S.next [] :=
  ⟨h.ok, rfl, rfl, h.inv, ⟨_, Shrunk.refl _ _, by simp⟩, h.lt, h.near, fun _ h => nomatch h⟩
theorem limit_eq (S : St) : S.limit = limitP S.ats S.next := by
  unfold St.limit limitP
  cases S.ats <;> rfl
theorem Says.limit_le {first next : Nat} {recs : List (List UInt8)} {ats : List Nat} {L : List Pg} (h : Says first recs ats L) (hn : ∀ p ∈ L, p.pos < next) : limitP ats next ≤ next := by
  obtain ⟨old, tail, rfl, h1, h2⟩ := h.parts
  cases recs with
  | nil => obtain ⟨rfl, _⟩ := h2.nil; exact Nat.le_refl _
  | cons r rs =>
    obtain ⟨q, l', a, as', rfl, rfl, ha⟩ := h2.head (by simp)
    show a ≤ next
    rw [← ha]
    exact Nat.le_of_lt (hn q (by simp))
theorem Says.shrunk {first next : Nat} {recs : List (List UInt8)} {ats : List Nat} {L L' : List Pg} (h : Says first recs ats L) (hn : ∀ p ∈ L, p.pos < next) (hs : Shrunk (limitP ats next) L L') : Says first recs ats L' := by
  obtain ⟨k, rfl, h1, h2⟩ := hs
  exact h.filter hn k h1 h2
theorem fits_iff {F : Fl} {S : St} {q : Nat} (h : ¬ fitsP F S q = false) : (q / F.np + 1) * F.np ≤ limitP S.ats S.next + F.nb * F.np := by
  have h : fitsP F S q = true := by simpa using h
  unfold fitsP at h
  rw [limit_eq] at h
  exact of_decide_eq_true h
theorem run_head {n : Nat} {l : List Pg} (h : RunP n l) (hl : l ≠ []) : ∃ p, l.head? = some p ∧ p.pos = n := by
  cases l with
  | nil => exact absurd rfl hl
  | cons p l => exact ⟨p, rfl, h.1⟩
/-- What becomes of a store whose record is appended. -/
structure AppendLaw (F : Fl) (S : St) (r : List UInt8) (G : Fl) (T : St) (e : Int) : Prop where
  size : G.nb = F.nb ∧ G.np = F.np
  first : T.first = S.first
  next : T.next ≤ S.next + r.length + 1
  good : e = 0 → Live G T ∧ T.recs = S.recs ++ [r]
  bad : e ≠ 0 → T.recs = S.recs ∧ (e ≠ 8 → Live G T) ∧ (e = 8 → G.down = true ∧ (Kept G (S.next + r.length + 2) S.first S.recs ∨ Kept G (S.next + r.length + 2) S.first (S.recs ++ [r])))
theorem append_law {F : Fl} {S : St} {r : List UInt8} (h : Live F S) (hs : S.Small r) : AppendLaw F S r (appendP F S r).1 (appendP F S r).2.1 (appendP F S r).2.2 := by
  have hnp : 0 < F.np := by have := h.ok.np; omega
  unfold appendP
  split
  · exact ⟨⟨rfl, rfl⟩, rfl, show S.next ≤ _ by omega, fun e => (by cases e), fun _ => ⟨rfl, fun _ => h, fun e => (by cases e)⟩⟩
  · split
    · exact ⟨⟨rfl, rfl⟩, rfl, show S.next ≤ _ by omega, fun e => (by cases e), fun _ => ⟨rfl, fun _ => h, fun e => (by cases e)⟩⟩
    · rename_i _ hf
      have hf := fits_iff hf
      have hlim := h.says.limit_le h.lt
      obtain ⟨l, hl⟩ : ∃ l, recP S r = l := ⟨_, rfl⟩
      have ha := rec_att hs
      have hall := rec_all hs
      have hrun := rec_run S r
      have hcnt := rec_count hs
      rw [hl] at ha hall hrun hcnt hf ⊢
      have hne := att_ne ha
      have hlen : 0 < l.length := List.length_pos_iff.2 hne
      have W := writes_step hnp h.near hlim l (h.wr (limitP S.ats S.next)) h.up (Nat.le_refl _) (fun p hp => (hall p hp).1) hrun (fun _ => by
        rw [show S.next + l.length - 1 + F.np = S.next + l.length - 1 + F.np * 1 by omega, Nat.add_mul_div_left _ _ hnp] at hf
        rw [show (S.next + l.length - 1) / F.np + 2 = (S.next + l.length - 1) / F.np + 1 + 1 by omega]
        exact hf)
      obtain ⟨G, hG⟩ : ∃ G, (writesP F S (l.map txtP)).1 = G := ⟨_, rfl⟩
      obtain ⟨T, hT⟩ : ∃ T, (writesP F S (l.map txtP)).2.1 = T := ⟨_, rfl⟩
      obtain ⟨e, he⟩ : ∃ e, (writesP F S (l.map txtP)).2.2 = e := ⟨_, rfl⟩
      have hw : writesP F S (l.map txtP) = (G, T, e) := by rw [← hG, ← hT, ← he]
      rw [hG, hT, he] at W
      rw [hw]
      dsimp only
      obtain ⟨p0, hp0, hpos0⟩ := run_head hrun hne
      -- what is there when a beginning of the pages has come
      have part : ∀ {G : Fl} {next : Nat} {l1 l2 : List Pg}, l = l1 ++ l2 → l2 ≠ [] → Wr (pagesP F) (limitP S.ats S.next) F.nb F.np G next ([] ++ l1) → Says S.first S.recs S.ats (pagesP G) := by
        intro G next l1 l2 hl2 hne2 W
        obtain ⟨L', s1, s2⟩ := W.pages
        rw [List.nil_append] at s2
        have hsay := h.says.shrunk h.lt s1
        have hsort := pages_sorted G
        rw [s2] at hsort ⊢
        refine hsay.snocs l1 (fun p hp => ⟨?_, (hall p (by rw [hl2]; exact List.mem_append_left _ hp)).2⟩) hsort
        rw [hl2] at ha
        exact att_part ha hne2 p hp
      have whole : ∀ {G : Fl} {next : Nat}, Wr (pagesP F) (limitP S.ats S.next) F.nb F.np G next ([] ++ l) → Says S.first (S.recs ++ [r]) (S.ats ++ [S.next]) (pagesP G) := by
        intro G next W
        obtain ⟨L', s1, s2⟩ := W.pages
        rw [List.nil_append] at s2
        have hsay := h.says.shrunk h.lt s1
        have hsort := pages_sorted G
        rw [s2] at hsort ⊢
        rw [← hpos0]
        exact hsay.record ha hp0 hsort fun q hq => (hall q hq).2
      split
      · rename_i hz
        obtain ⟨g1, g2, g3⟩ := W.good hz
        refine ⟨⟨g1.hnb, g1.hnp⟩, by rw [g3], by rw [g3]; show S.next + l.length ≤ _; omega, fun _ => ⟨⟨g1.ok, by rw [g1.hnb]; exact h.nb, g2, g1.inv, ?_, ?_, ?_⟩, rfl⟩, fun hx => absurd rfl hx⟩
        · rw [g3]; exact whole g1
        · rw [g3]; exact g1.lt
        · rw [g3, g1.hnp]; exact g1.near
      · rename_i hz
        obtain ⟨l1, p, l2, hlp, g2, g3, g4⟩ := W.bad hz
        have hl12 : l1.length + l2.length + 1 = l.length := by rw [hlp, List.length_append, List.length_cons]; omega
        have hTn : T.next = S.next + l1.length := by rw [g2]
        have hsz : G.nb = F.nb ∧ G.np = F.np := by rcases g4 with g4 | ⟨_, g4⟩ <;> exact ⟨g4.hnb, g4.hnp⟩
        refine ⟨hsz, by rw [g2], by rw [hTn]; omega, fun hx => absurd hx hz, fun _ => ⟨by rw [g2], fun h8 => ?_, fun h8 => ⟨g3.1 h8, ?_⟩⟩⟩
        · rcases g4 with g4 | ⟨hx, _⟩
          · have hdn : G.down = false := by
              cases hd : G.down with
              | false => rfl
              | true => exact absurd (g3.2 hd) h8
            refine ⟨g4.ok, by rw [hsz.1]; exact h.nb, hdn, g4.inv, ?_, g4.lt, by rw [hsz.2]; exact g4.near⟩
            rw [g2]
            exact part hlp (by simp) g4
          · exact absurd hx h8
        · rcases g4 with g4 | ⟨_, g4⟩
          · exact .inl ⟨g4.ok, by rw [hsz.1]; exact h.nb, g4.inv, ⟨_, part hlp (by simp) g4⟩, fun q hq => by have := g4.lt q hq; omega⟩
          · rw [List.append_assoc] at g4
            cases l2 with
            | nil => rw [← hlp] at g4; exact .inr ⟨g4.ok, by rw [hsz.1]; exact h.nb, g4.inv, ⟨_, whole g4⟩, fun q hq => by have := g4.lt q hq; omega⟩
            | cons x l2 => exact .inl ⟨g4.ok, by rw [hsz.1]; exact h.nb, g4.inv, ⟨_, part (l1 := l1 ++ [p]) (l2 := x :: l2) (by rw [hlp]; simp) (by simp) g4⟩, fun q hq => by have := g4.lt q hq; omega⟩
/-- What becomes of a store of which records are dropped. -/
structure DropLaw (F : Fl) (S : St) (n : Nat) (G : Fl) (T : St) (e : Int) : Prop where
  size : G.nb = F.nb ∧ G.np = F.np
  next : T.next ≤ S.next + 1
  good : e = 0 → Live G T ∧ T.recs = S.recs.drop n ∧ T.first = S.first + n
  bad : e ≠ 0 → T = S ∧ (e ≠ 8 → Live G T) ∧ (e = 8 → G.down = true ∧ (Kept G (S.next + 2) S.first S.recs ∨ Kept G (S.next + 2) (S.first + n) (S.recs.drop n)))
theorem drop_good {S : St} {n : Nat} (hs : S.Small []) : (dropPg S n).Good := by
  have h1 := hs.next; have h2 := hs.len
  simp only [List.length_nil] at h1
  exact ⟨⟨.inr ⟨rfl, rfl, rfl⟩, show S.recs.length - n ≤ S.len by unfold St.len; omega, by show ((0 : Nat) : Int) = roomP (dropPg S n); unfold roomP; rw [if_pos (show (dropPg S n).kind = 1 from rfl)]; rfl⟩, show S.next ≤ _ by omega, h2, Nat.zero_le _, Nat.zero_le _⟩
theorem drop_law {F : Fl} {S : St} {n : Nat} (h : Live F S) (hs : S.Small []) (h0 : 0 < n) (hn : n ≤ S.recs.length) : DropLaw F S n (dropP F S n).1 (dropP F S n).2.1 (dropP F S n).2.2 := by
  have hnp : 0 < F.np := by have := h.ok.np; omega
  unfold dropP
  rw [if_neg (by omega), if_neg (by omega), Int.toNat_natCast]
  split
  · exact ⟨⟨rfl, rfl⟩, show S.next ≤ _ by omega, fun e => (by cases e), fun _ => ⟨rfl, fun _ => h, fun e => (by cases e)⟩⟩
  · rename_i hf
    have hf := fits_iff hf
    have hlim := h.says.limit_le h.lt
    have W := write_step (p := dropPg S n) (h.wr (limitP S.ats S.next)) h.up (drop_good hs) rfl hlim hf (fun q hq => by
      have := h.near q hq
      have h2 := Nat.mul_le_mul_right F.np h.nb
      rw [Nat.add_mul]
      omega)
    obtain ⟨G, hG⟩ : ∃ G, (writeP F S (txtP (dropPg S n))).1 = G := ⟨_, rfl⟩
    obtain ⟨T, hT⟩ : ∃ T, (writeP F S (txtP (dropPg S n))).2.1 = T := ⟨_, rfl⟩
    obtain ⟨e, he⟩ : ∃ e, (writeP F S (txtP (dropPg S n))).2.2 = e := ⟨_, rfl⟩
    have hw : writeP F S (txtP (dropPg S n)) = (G, T, e) := by rw [← hG, ← hT, ← he]
    rw [hG, hT, he] at W
    rw [hw]
    dsimp only
    have none : ∀ {G : Fl} {next : Nat}, Wr (pagesP F) (limitP S.ats S.next) F.nb F.np G next [] → Says S.first S.recs S.ats (pagesP G) := by
      intro G next W
      obtain ⟨L', s1, s2⟩ := W.pages
      rw [s2, List.append_nil]
      exact h.says.shrunk h.lt s1
    have done : ∀ {G : Fl} {next : Nat}, Wr (pagesP F) (limitP S.ats S.next) F.nb F.np G next ([] ++ [dropPg S n]) → Says (S.first + n) (S.recs.drop n) (S.ats.drop n) (pagesP G) := by
      intro G next W
      obtain ⟨L', s1, s2⟩ := W.pages
      rw [List.nil_append] at s2
      rw [s2]
      refine (h.says.shrunk h.lt s1).dropN hn rfl (fun q hq => h.lt q (s1.sub q hq)) ?_
      show S.len - (S.recs.length - n) = S.first + n
      unfold St.len
      omega
    split
    · rename_i hz
      obtain ⟨g1, g2, g3⟩ := W.good hz
      refine ⟨⟨g1.hnb, g1.hnp⟩, by rw [g3]; exact Nat.le_refl _, fun _ => ⟨⟨g1.ok, by rw [g1.hnb]; exact h.nb, g2, g1.inv, done g1, by rw [g3]; exact g1.lt, by rw [g3, g1.hnp]; exact g1.near⟩, rfl, rfl⟩, fun hx => absurd rfl hx⟩
    · rename_i hz
      obtain ⟨g1, g2, g3⟩ := W.bad hz
      have hsz : G.nb = F.nb ∧ G.np = F.np := by rcases g3 with g3 | ⟨_, g3⟩ <;> exact ⟨g3.hnb, g3.hnp⟩
      refine ⟨hsz, show S.next ≤ _ by omega, fun hx => absurd hx hz, fun _ => ⟨rfl, fun h8 => ?_, fun h8 => ⟨g2.1 h8, ?_⟩⟩⟩
      · rcases g3 with g3 | ⟨hx, _⟩
        · have hdn : G.down = false := by
            cases hd : G.down with
            | false => rfl
            | true => exact absurd (g2.2 hd) h8
          exact ⟨g3.ok, by rw [hsz.1]; exact h.nb, hdn, g3.inv, none g3, g3.lt, by rw [hsz.2]; exact g3.near⟩
        · exact absurd hx h8
      · rcases g3 with g3 | ⟨_, g3⟩
        · exact .inl ⟨g3.ok, by rw [hsz.1]; exact h.nb, g3.inv, ⟨_, none g3⟩, fun q hq => by have := g3.lt q hq; omega⟩
        · exact .inr ⟨g3.ok, by rw [hsz.1]; exact h.nb, g3.inv, ⟨_, done g3⟩, fun q hq => by have := g3.lt q hq; omega⟩

/-! ## The store is opened -/
theorem seekUp_le {F : Fl} (hnp : 0 < F.np) : ∀ (n q : Nat), q ≤ seekUp F n q ∧ (q % F.np = 0 → seekUp F n q = q) ∧ (q % F.np ≠ 0 → seekUp F n q ≤ (q / F.np + 1) * F.np)
  | 0, q => ⟨Nat.le_refl _, fun _ => rfl, fun h => by
    have := (next_block (n := q) hnp).2
    rw [seekUp, Nat.add_mul]; omega⟩
  | n + 1, q => by
    obtain ⟨h1, h2, h3⟩ := seekUp_le hnp n (q + 1)
    rw [seekUp]
    split
    · rename_i hc
      refine ⟨by omega, fun h => absurd h hc.1, fun _ => ?_⟩
      have d1 := Nat.div_add_mod q F.np
      have d2 := Nat.mod_lt q hnp
      have d3 := Nat.div_add_mod (q + 1) F.np
      have d4 := Nat.mod_lt (q + 1) hnp
      by_cases hz : (q + 1) % F.np = 0
      · rw [h2 hz]
        have := (next_block (n := q) hnp).2
        rw [Nat.add_mul]; omega
      · have h3 := h3 hz
        have e : (q + 1) / F.np = q / F.np := by
          have a1 : q / F.np ≤ (q + 1) / F.np := Nat.div_le_div_right (by omega)
          have a2 : (q + 1) / F.np < q / F.np + 1 := by
            rw [Nat.div_lt_iff_lt_mul hnp, Nat.add_mul, Nat.mul_comm]
            by_cases hh : q % F.np + 1 = F.np
            · exfalso
              apply hz
              rw [show q + 1 = F.np * (q / F.np + 1) by rw [Nat.mul_add]; omega]
              exact Nat.mul_mod_right _ _
            · omega
          omega
        rw [e] at h3
        exact h3
    · refine ⟨Nat.le_refl _, fun _ => rfl, fun _ => ?_⟩
      have := (next_block (n := q) hnp).2
      rw [Nat.add_mul]; omega
theorem seekDn_le (F : Fl) (q : Nat) : ∀ (n s : Nat), q ≤ s → q ≤ seekDn F q n s ∧ seekDn F q n s ≤ s
  | 0, s, h => ⟨h, Nat.le_refl _⟩
  | n + 1, s, h => by
    rw [seekDn]
    split
    · rename_i hc
      have := seekDn_le F q n (s - 1) (by omega)
      omega
    · exact ⟨h, Nat.le_refl _⟩
theorem seek_le {F : Fl} (hnp : 0 < F.np) (q : Nat) : q ≤ seekP F q ∧ seekP F q ≤ q + 2 * F.np ∧ (0 < q → seekP F q / F.np * F.np ≤ q - 1 + F.np) := by
  obtain ⟨h1, h2, h3⟩ := seekUp_le hnp F.np q
  have d1 := Nat.div_add_mod q F.np
  rw [Nat.mul_comm] at d1
  have hq' : seekUp F F.np q ≤ q + F.np ∧ (0 < q → seekUp F F.np q / F.np * F.np ≤ q - 1 + F.np) := by
    by_cases hz : q % F.np = 0
    · rw [h2 hz]
      exact ⟨by omega, fun _ => by omega⟩
    · have h3 := h3 hz
      rw [Nat.add_mul] at h3
      have d2 := Nat.div_mul_le_self (seekUp F F.np q) F.np
      exact ⟨by omega, fun _ => by omega⟩
  unfold seekP
  split
  · rename_i hc
    obtain ⟨g1, g2⟩ := seekDn_le F (seekUp F F.np q) F.np (seekUp F F.np q + F.np - 1) (by omega)
    refine ⟨by omega, by omega, fun h0 => ?_⟩
    have e : seekDn F (seekUp F F.np q) F.np (seekUp F F.np q + F.np - 1) / F.np = seekUp F F.np q / F.np := by
      have a1 : seekUp F F.np q / F.np ≤ seekDn F (seekUp F F.np q) F.np (seekUp F F.np q + F.np - 1) / F.np := Nat.div_le_div_right g1
      have a2 : seekDn F (seekUp F F.np q) F.np (seekUp F F.np q + F.np - 1) / F.np < seekUp F F.np q / F.np + 1 := by
        rw [Nat.div_lt_iff_lt_mul hnp, Nat.add_mul]
        have := Nat.div_add_mod (seekUp F F.np q) F.np
        rw [Nat.mul_comm] at this
        omega
      omega
    rw [e]
    exact hq'.2 h0
  · exact ⟨h1, by omega, hq'.2⟩
theorem last_ge {L : List Pg} (h : SortedP L) {p : Pg} (hp : L.getLast? = some p) : ∀ q ∈ L, q.pos ≤ p.pos := by
  obtain ⟨l', rfl⟩ := List.getLast?_eq_some_iff.1 hp
  intro q hq
  rcases List.mem_append.1 hq with hq | hq
  · exact Nat.le_of_lt ((List.pairwise_append.1 h).2.2 q hq p (by simp))
  · rw [List.mem_singleton.1 hq]; exact Nat.le_refl _
theorem open_law {F : Fl} {B first : Nat} {recs : List (List UInt8)} (h : Kept F B first recs) (hd : F.down = false) : Live F (openP F) ∧ (openP F).first = first ∧ (openP F).recs = recs ∧ (openP F).next ≤ B + 2 * F.np := by
  obtain ⟨ats, hs⟩ := h.says
  have hnp : 0 < F.np := by have := h.ok.np; omega
  obtain ⟨c1, c2⟩ := hs.coll
  have hf := hs.first
  have e : openP F = ⟨first, seekP F (fromP (pagesP F)), recs, ats⟩ := by unfold openP; rw [hf, c1, c2]
  obtain ⟨s1, s2, s3⟩ := seek_le hnp (fromP (pagesP F))
  rw [e]
  refine ⟨⟨h.ok, h.nb, hd, h.inv, hs, fun p hp => ?_, fun p hp => ?_⟩, rfl, rfl, ?_⟩
  · cases hl : (pagesP F).getLast? with
    | none => rw [List.getLast?_eq_none_iff.1 hl] at hp; cases hp
    | some q =>
      have e2 : fromP (pagesP F) = q.pos + 1 := by unfold fromP newestP; rw [hl]
      have := last_ge hs.sorted hl p hp
      show p.pos < seekP F (fromP (pagesP F))
      omega
  · have e2 : fromP (pagesP F) = p.pos + 1 := by unfold fromP newestP; rw [hp]
    have := s3 (by omega)
    show seekP F (fromP (pagesP F)) / F.np * F.np ≤ _
    omega
  · show seekP F (fromP (pagesP F)) ≤ _
    cases hl : (pagesP F).getLast? with
    | none =>
      have e2 : fromP (pagesP F) = 0 := by unfold fromP newestP; rw [hl]
      omega
    | some q =>
      have e2 : fromP (pagesP F) = q.pos + 1 := by unfold fromP newestP; rw [hl]
      have := h.lt q (List.mem_of_getLast? hl)
      omega
theorem kept_new {nb np : Nat} (h1 : 2 ≤ nb ∧ nb ≤ 32) (h2 : 1 ≤ np ∧ np ≤ 16) : Kept (Fl.new nb np) 0 0 [] := by
  have hv : pagesP (Fl.new nb np) = [] := pages_eq List.Pairwise.nil fun p => ⟨fun h => (by cases h), fun h => (by obtain ⟨i, _, h⟩ := h; unfold validAt pageAt Fl.new at h; cases h)⟩
  have hinv : PgInv (Fl.new nb np) := by
    intro i _ s hs
    unfold pageAt Fl.new at hs
    cases hs
  exact ⟨Fl.new_ok (by omega) h2, h1.1, hinv, ⟨[], by rw [hv]; exact says_nil⟩, fun p hp => by rw [hv] at hp; cases hp⟩
theorem Kept.congr {F G : Fl} {B first : Nat} {recs : List (List UInt8)} (h : Kept F B first recs) (ok : G.Ok) (hb : G.blk = F.blk) (hn : G.nb = F.nb) (hk : G.np = F.np) : Kept G B first recs := by
  have hp : ∀ i, pageAt G i = pageAt F i := fun i => by unfold pageAt; rw [hb, hk]
  have e : pagesP G = pagesP F := pages_congr hn hk fun i _ => validAt_congr hn hk (hp i)
  refine ⟨ok, by rw [hn]; exact h.nb, fun i hi s hs => ?_, by rw [e]; exact h.says, by rw [e]; exact h.lt⟩
  rw [hn, hk] at hi ⊢
  exact h.inv i hi s (by rw [← hp]; exact hs)
theorem Live.congr {F G : Fl} {S : St} (h : Live F S) (ok : G.Ok) (hb : G.blk = F.blk) (hn : G.nb = F.nb) (hk : G.np = F.np) (hd : G.down = false) : Live G S := by
  have hp : ∀ i, pageAt G i = pageAt F i := fun i => by unfold pageAt; rw [hb, hk]
  have e : pagesP G = pagesP F := pages_congr hn hk fun i _ => validAt_congr hn hk (hp i)
  refine ⟨ok, by rw [hn]; exact h.nb, hd, fun i hi s hs => ?_, by rw [e]; exact h.says, by rw [e]; exact h.lt, by rw [e, hk]; exact h.near⟩
  rw [hn, hk] at hi ⊢
  exact h.inv i hi s (by rw [← hp]; exact hs)
end Go.Proofs.YtlefilfdomjkeaaGreatDoor
