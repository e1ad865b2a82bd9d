/- Plain laws of a store: one page is written. -/
import Derived.Test.YtlefilfdomjkeaaGreatDoorStPages
namespace Go.Proofs.YtlefilfdomjkeaaGreatDoor
open Go

/-- Some pages ahead of a limit are gone, the last one is not. -/
def Shrunk (lim : Nat) (L L' : List Pg) : Prop := ∃ k : Pg → Bool, L' = L.filter k ∧ (∀ p ∈ L, k p = false → p.pos < lim) ∧ ∀ p, L.getLast? = some p → k p = true
theorem Shrunk.refl (lim : Nat) (L : List Pg) : Shrunk lim L L := ⟨fun _ => true, (List.filter_eq_self.2 fun _ _ => rfl).symm, fun _ _ h => (by cases h), fun _ _ => rfl⟩
theorem filter_last {L : List Pg} {k : Pg → Bool} (h : ∀ p, L.getLast? = some p → k p = true) : (L.filter k).getLast? = L.getLast? := by
  cases hL : L.getLast? with
  | none => rw [List.getLast?_eq_none_iff.1 hL]; rfl
  | some q =>
    obtain ⟨l', hl'⟩ := List.getLast?_eq_some_iff.1 hL
    rw [hl', List.filter_append, List.filter_cons, if_pos (h q hL)]
    simp
theorem Shrunk.last {lim : Nat} {L L' : List Pg} (h : Shrunk lim L L') : L'.getLast? = L.getLast? := by
  obtain ⟨k, rfl, _, h2⟩ := h
  exact filter_last h2
theorem Shrunk.sub {lim : Nat} {L L' : List Pg} (h : Shrunk lim L L') : ∀ p ∈ L', p ∈ L := by
  obtain ⟨k, rfl, _, _⟩ := h
  exact fun p hp => (List.mem_filter.1 hp).1
theorem Shrunk.trans {lim : Nat} {A B C : List Pg} (h1 : Shrunk lim A B) (h2 : Shrunk lim B C) : Shrunk lim A C := by
  have hl := h1.last
  obtain ⟨k, rfl, a1, a2⟩ := h1
  obtain ⟨k', rfl, b1, b2⟩ := h2
  refine ⟨fun p => k' p && k p, by rw [List.filter_filter], fun p hp h => ?_, fun p hp => ?_⟩
  · cases hk : k p with
    | false => exact a1 p hp hk
    | true =>
      have h : (k' p && k p) = false := h
      rw [hk, Bool.and_true] at h
      exact b1 p (List.mem_filter.2 ⟨hp, hk⟩) h
  · show (k' p && k p) = true
    rw [a2 p hp, b2 p (hl.trans hp)]; rfl
/-- What is ahead of pages behind the limit alone shrinks. -/
theorem Shrunk.cut {lim : Nat} {L att C : List Pg} (h : Shrunk lim (L ++ att) C) (ha : ∀ p ∈ att, lim ≤ p.pos) (hl : ∀ p, L.getLast? = some p → p ∈ C) : ∃ L', C = L' ++ att ∧ Shrunk lim L L' := by
  obtain ⟨k, rfl, a1, a2⟩ := h
  have e : att.filter k = att := by
    rw [List.filter_eq_self]
    intro p hp
    cases hk : k p with
    | true => rfl
    | false => have := a1 p (List.mem_append_right _ hp) hk; have := ha p hp; omega
  refine ⟨L.filter k, by rw [List.filter_append, e], k, rfl, fun p hp => a1 p (List.mem_append_left _ hp), fun p hp => ?_⟩
  exact (List.mem_filter.1 (hl p hp)).2

/-- While pages are written: att has come behind what there was. -/
structure Wr (L0 : List Pg) (lim : Nat) (nb np : Nat) (F : Fl) (next : Nat) (att : List Pg) : Prop where
  ok : F.Ok
  hnb : F.nb = nb
  hnp : F.np = np
  inv : PgInv F
  pages : ∃ L', Shrunk lim L0 L' ∧ pagesP F = L' ++ att
  lt : ∀ p ∈ pagesP F, p.pos < next
  near : ∀ p, (pagesP F).getLast? = some p → next / np * np ≤ p.pos + np
  ge : ∀ p ∈ att, lim ≤ p.pos

theorem Erased.pages {F G : Fl} {b : Nat} {e : Int} (hk : 0 < F.np) (h : Erased F G b e) : ∃ m, pagesP G = (pagesP F).filter (fun p => !decide (p.pos / F.np % F.nb = b ∧ m ≤ p.pos % F.np)) := by
  obtain ⟨m, hm⟩ := h.at_
  refine ⟨m, pages_eq ((pages_sorted F).sublist List.filter_sublist) fun p => ?_⟩
  rw [List.mem_filter, mem_pages]
  constructor
  · rintro ⟨hp, hc⟩
    obtain ⟨h1, h2⟩ := hp.at_
    refine ⟨_, by rw [h.nb, h.np]; exact h2, ?_⟩
    rw [validAt_congr h.nb h.np (F := F)]
    · exact h1
    · rw [hm, if_neg]
      rw [pos_div hk, pos_mod hk]
      intro hx
      rw [decide_eq_true hx] at hc
      cases hc
  · rintro ⟨i, hi, hv⟩
    rw [h.nb, h.np] at hi
    obtain ⟨s, hs, ho, hp, hi'⟩ := validAt_some hv
    rw [h.nb, h.np] at hi'
    have hc : ¬ (i / F.np = b ∧ m ≤ i % F.np) := fun hc => by rw [hm, if_pos hc] at hs; cases hs
    have he : pageAt G i = pageAt F i := by rw [hm, if_neg hc]
    refine ⟨⟨i, hi, by rw [← validAt_congr h.nb h.np he]; exact hv⟩, ?_⟩
    rw [← hi', pos_div hk, pos_mod hk] at hc
    rw [decide_eq_false hc]; rfl
theorem Erased.inv {F G : Fl} {b : Nat} {e : Int} (h : Erased F G b e) (hi : PgInv F) : PgInv G := by
  obtain ⟨m, hm⟩ := h.at_
  intro i hlt s hs
  rw [h.nb, h.np] at hlt ⊢
  rw [hm] at hs
  split at hs
  · cases hs
  · exact hi i hlt s hs
theorem Programmed.inv {F G : Fl} {p : Pg} {e : Int} (h : Programmed F G (p.pos % (F.nb * F.np)) (txtP p) e) (hp : p.Good) (hi : PgInv F) : PgInv G := by
  intro i hlt s hs
  rw [h.nb, h.np] at hlt ⊢
  by_cases hx : i = p.pos % (F.nb * F.np)
  · by_cases h0 : e = 0
    · obtain ⟨_, h1, _⟩ := h.done h0
      rw [hx, h1] at hs
      injection hs with hs
      subst hs
      exact ⟨p, hp, List.prefix_rfl, hx.symm⟩
    · by_cases h8 : e = 8
      · obtain ⟨_, _, t, ht, hpre⟩ := h.torn h8
        rw [hx, ht] at hs
        injection hs with hs
        subst hs
        exact ⟨p, hp, hpre, hx.symm⟩
      · rw [hx, (h.same h0 h8).1, ← hx] at hs
        exact hi i hlt s hs
  · rw [h.other i hx] at hs
    exact hi i hlt s hs
/-- One more page is there. -/
theorem pages_more {F G : Fl} {p : Pg} (hn : G.nb = F.nb) (hk : G.np = F.np) (hpos : 0 < F.nb * F.np) (ho : ∀ j, j ≠ p.pos % (F.nb * F.np) → pageAt G j = pageAt F j) (h0 : pageAt F (p.pos % (F.nb * F.np)) = none)
    (h1 : pageAt G (p.pos % (F.nb * F.np)) = some ⟨(txtP p).toArray⟩) (hp : p.Good) (hlt : ∀ q ∈ pagesP F, q.pos < p.pos) : pagesP G = pagesP F ++ [p] := by
  refine pages_eq (sorted_snoc (pages_sorted F) hlt) fun q => ?_
  have hv : validAt G (p.pos % (F.nb * F.np)) = some p := by
    unfold validAt
    rw [h1]
    dsimp only
    rw [if_pos ⟨ok_good hp, by rw [rd_good hp, hn, hk]⟩, rd_good hp]
  have hv0 : validAt F (p.pos % (F.nb * F.np)) = none := by unfold validAt; rw [h0]
  rw [List.mem_append, List.mem_singleton, mem_pages]
  constructor
  · rintro (⟨i, hi, h⟩ | rfl)
    · refine ⟨i, by rw [hn, hk]; exact hi, ?_⟩
      rw [validAt_congr hn hk (ho i fun e => by rw [e, hv0] at h; cases h)]
      exact h
    · exact ⟨_, by rw [hn, hk]; exact Nat.mod_lt _ hpos, hv⟩
  · rintro ⟨i, hi, h⟩
    rw [hn, hk] at hi
    by_cases e : i = p.pos % (F.nb * F.np)
    · rw [e, hv] at h
      injection h with h
      exact .inr h.symm
    · rw [validAt_congr hn hk (ho i e)] at h
      exact .inl ⟨i, hi, h⟩
theorem pages_same {F G : Fl} {i : Nat} (hn : G.nb = F.nb) (hk : G.np = F.np) (ho : ∀ j, j ≠ i → pageAt G j = pageAt F j) (hi : i < F.nb * F.np → validAt G i = validAt F i) : pagesP G = pagesP F :=
  pages_congr hn hk fun j hj => by
    by_cases e : j = i
    · subst e; exact hi hj
    · exact validAt_congr hn hk (ho j e)
/-- What a program makes of the pages. -/
theorem Programmed.pages {F G : Fl} {p : Pg} {e : Int} (h : Programmed F G (p.pos % (F.nb * F.np)) (txtP p) e) (hpos : 0 < F.nb * F.np) (hp : p.Good) (hlt : ∀ q ∈ pagesP F, q.pos < p.pos) :
    (e = 0 → pagesP G = pagesP F ++ [p]) ∧ (e = 8 → pagesP G = pagesP F ∨ pagesP G = pagesP F ++ [p]) ∧ (e ≠ 0 → e ≠ 8 → pagesP G = pagesP F) := by
  refine ⟨fun h0 => ?_, fun h8 => ?_, fun h0 h8 => ?_⟩
  · obtain ⟨a, b, _⟩ := h.done h0
    exact pages_more h.nb h.np hpos h.other a b hp hlt
  · obtain ⟨a, _, t, b, c⟩ := h.torn h8
    by_cases ho : rdOk t.data.toList
    · have e := rd_prefix hp c ho
      have et : t = ⟨(txtP p).toArray⟩ := by
        cases t with | mk d => simp only at e; rw [← e]
      rw [et] at b
      exact .inr (pages_more h.nb h.np hpos h.other a b hp hlt)
    · refine .inl (pages_same h.nb h.np h.other fun _ => ?_)
      unfold validAt
      rw [a, b]
      dsimp only
      rw [if_neg fun hc => ho hc.1]
  · exact pages_same h.nb h.np h.other fun _ => validAt_congr h.nb h.np (h.same h0 h8).1

theorem last_of_snoc {L : List Pg} {p : Pg} : (L ++ [p]).getLast? = some p := List.getLast?_concat
theorem next_block {k n : Nat} (hk : 0 < k) : (n + 1) / k * k ≤ n + k ∧ n < n / k * k + k := by
  have h1 := Nat.div_add_mod (n + 1) k
  have h2 := Nat.div_add_mod n k
  have h3 := Nat.mod_lt n hk
  rw [Nat.mul_comm] at h1 h2
  omega
/-- How one page is written. -/
structure Step (L0 : List Pg) (lim nb np : Nat) (S : St) (att : List Pg) (p : Pg) (G : Fl) (T : St) (e : Int) : Prop where
  good : e = 0 → Wr L0 lim nb np G (S.next + 1) (att ++ [p]) ∧ G.down = false ∧ T = { S with next := S.next + 1 }
  bad : e ≠ 0 → T = S ∧ (e = 8 ↔ G.down = true) ∧ (Wr L0 lim nb np G S.next att ∨ (e = 8 ∧ Wr L0 lim nb np G (S.next + 1) (att ++ [p])))
theorem prog_isOk {F : Fl} (h : F.Ok) (b g : Int) (s : ByteArray) : (F.program b g s).1.Ok := by
  unfold Fl.program
  split
  · exact h
  · split
    · exact h
    · split
      · exact h
      · split
        · exact Fl.setPage_ok (Fl.tick_ok h) _ _ _
        · split
          · rename_i h0; exact Fl.lost_ok h h0
          · exact Fl.setPage_ok (Fl.tick_ok h) _ _ _
theorem worn_ok {F : Fl} (h : F.Ok) {n : Nat} (hw : (F.blk n).wear < 1000) : (F.worn n).Ok := ⟨h.nb, h.np, h.lost, h.left, fun i hi => by
  rw [Fl.worn_wear]
  have := h.wear i hi
  split
  · rename_i e; subst e; omega
  · exact this⟩
theorem erase_ok' {F : Fl} (h : F.Ok) (b : Int) : (F.erase b).1.Ok := by
  unfold Fl.erase
  split
  · exact h
  · split
    · exact h
    · rename_i hw
      have e : (F.tick.blk b.toNat).wear < 1000 := by rw [F.tick_wear]; omega
      split
      · exact worn_ok (Fl.clear_ok (Fl.tick_ok h) _ _) (by rw [Fl.clear_wear]; exact e)
      · exact worn_ok (Fl.clear_ok (Fl.tick_ok h) _ _) (by rw [Fl.clear_wear]; exact e)
theorem mul_pos' {F : Fl} (ok : F.Ok) : 0 < F.nb * F.np := Nat.mul_pos (by have := ok.nb; omega) (by have := ok.np; omega)
theorem prog_step {L0 : List Pg} {lim nb np : Nat} {F : Fl} {S : St} {att : List Pg} {p : Pg} (h : Wr L0 lim nb np F S.next att) (hd : F.down = false) (hp : p.Good) (hpos : p.pos = S.next) (hge : lim ≤ S.next) :
    Step L0 lim nb np S att p (progP F S (txtP p)).1 (progP F S (txtP p)).2.1 (progP F S (txtP p)).2.2 := by
  have hk : 0 < F.np := by have := h.ok.np; omega
  have hnb : 0 < F.nb := by have := h.ok.nb; omega
  have P := program_does h.ok hd (b := S.next / F.np % F.nb) (g := S.next % F.np) (Nat.mod_lt _ hnb) (Nat.mod_lt _ hk) (txtP p)
  have ok' := prog_isOk h.ok (S.next / F.np % F.nb : Nat) (S.next % F.np : Nat) ⟨(txtP p).toArray⟩
  have hidx : S.next / F.np % F.nb * F.np + S.next % F.np = p.pos % (F.nb * F.np) := by rw [hpos]; exact (pos_idx hk).symm
  rw [hidx] at P
  have inv' := P.inv hp h.inv
  obtain ⟨g0, g8, g1⟩ := P.pages (mul_pos' h.ok) hp (fun q hq => by rw [hpos]; exact h.lt q hq)
  obtain ⟨G, hG⟩ : ∃ G, (F.program (S.next / F.np % F.nb : Nat) (S.next % F.np : Nat) ⟨(txtP p).toArray⟩).1 = G := ⟨_, rfl⟩
  obtain ⟨e, he⟩ : ∃ e, (F.program (S.next / F.np % F.nb : Nat) (S.next % F.np : Nat) ⟨(txtP p).toArray⟩).2 = e := ⟨_, rfl⟩
  unfold progP
  rw [hG, he] at P
  rw [hG] at ok' inv' g0 g8 g1
  rw [he] at g0 g8 g1
  rw [hG, he]
  obtain ⟨L', s1, s2⟩ := h.pages
  have more : pagesP G = pagesP F ++ [p] → Wr L0 lim nb np G (S.next + 1) (att ++ [p]) := fun hpg => by
    refine ⟨ok', P.nb.trans h.hnb, P.np.trans h.hnp, inv', ⟨L', s1, by rw [hpg, s2, List.append_assoc]⟩, fun q hq => ?_, fun q hq => ?_, fun q hq => ?_⟩
    · rw [hpg] at hq
      rcases List.mem_append.1 hq with hq | hq
      · have := h.lt q hq; omega
      · rw [List.mem_singleton.1 hq, hpos]; omega
    · rw [hpg, last_of_snoc] at hq
      injection hq with hq
      subst hq
      rw [hpos]
      exact (next_block (by rw [← h.hnp]; exact hk)).1
    · rcases List.mem_append.1 hq with hq | hq
      · exact h.ge q hq
      · rw [List.mem_singleton.1 hq, hpos]; exact hge
  have same : pagesP G = pagesP F → Wr L0 lim nb np G S.next att := fun hpg =>
    ⟨ok', P.nb.trans h.hnb, P.np.trans h.hnp, inv', ⟨L', s1, by rw [hpg, s2]⟩, fun q hq => h.lt q (by rw [← hpg]; exact hq), fun q hq => h.near q (by rw [← hpg]; exact hq), h.ge⟩
  by_cases h0 : e = 0
  · rw [if_pos h0]
    exact ⟨fun _ => ⟨more (g0 h0), (P.done h0).2.2.trans hd, rfl⟩, fun hx => absurd rfl hx⟩
  · rw [if_neg h0]
    refine ⟨fun hx => absurd hx h0, fun _ => ⟨rfl, ⟨fun h8 => (P.torn h8).2.1, fun hx => Classical.byContradiction fun h8 => ?_⟩, ?_⟩⟩
    · have := (P.same h0 h8).2
      rw [hd] at this
      exact absurd (hx.symm.trans this) (by decide)
    · by_cases h8 : e = 8
      · rcases g8 h8 with hg | hg
        · exact .inl (same hg)
        · exact .inr ⟨h8, more hg⟩
      · exact .inl (same (g1 h0 h8))
theorem erase_step {L0 : List Pg} {lim nb np : Nat} {F : Fl} {next : Nat} {att : List Pg} (h : Wr L0 lim nb np F next att) (hd : F.down = false) (hz : next % F.np = 0) (hfit : (next / np + 1) * np ≤ lim + nb * np)
    (hkeep : ∀ q, L0.getLast? = some q → (next / np + 1) * np ≤ q.pos + nb * np) {G : Fl} {e : Int} (ok' : G.Ok) (E : Erased F G (next / F.np % F.nb) e) : Wr L0 lim nb np G next att := by
  have hk : 0 < F.np := by have := h.ok.np; omega
  have hnb : 0 < F.nb := by have := h.ok.nb; omega
  obtain ⟨m, hm⟩ := E.pages hk
  obtain ⟨L', s1, s2⟩ := h.pages
  have gone : ∀ q ∈ pagesP F, (!decide (q.pos / F.np % F.nb = next / F.np % F.nb ∧ m ≤ q.pos % F.np)) = false → q.pos + nb * np < (next / np + 1) * np := by
    intro q hq hc
    have hc : q.pos / F.np % F.nb = next / F.np % F.nb ∧ m ≤ q.pos % F.np := by simpa using hc
    have hlt := h.lt q hq
    have e1 := hc.1
    rw [h.hnp, h.hnb] at e1
    rw [h.hnp] at hz hk
    rw [h.hnb] at hnb
    have d1 := Nat.div_add_mod next np
    have d2 := Nat.div_add_mod q.pos np
    have d3 := Nat.mod_lt q.pos hk
    have hYX : q.pos / np < next / np := Nat.lt_of_mul_lt_mul_left (a := np) (by omega)
    have c1 := Nat.div_add_mod (q.pos / np) nb
    have c2 := Nat.div_add_mod (next / np) nb
    have hq : q.pos / np / nb < next / np / nb := Nat.lt_of_mul_lt_mul_left (a := nb) (by omega)
    have hmul : nb * (q.pos / np / nb + 1) ≤ nb * (next / np / nb) := Nat.mul_le_mul_left _ hq
    rw [Nat.mul_add, Nat.mul_one] at hmul
    have hY : q.pos / np + nb ≤ next / np := by omega
    have hZ : np * (q.pos / np + nb) ≤ np * (next / np) := Nat.mul_le_mul_left _ hY
    rw [Nat.mul_add] at hZ
    rw [Nat.add_mul, Nat.one_mul, Nat.mul_comm nb np, Nat.mul_comm (next / np) np]
    omega
  have hlastL' := s1.last
  have hsh : Shrunk lim (L' ++ att) (pagesP G) := by
    refine ⟨_, by rw [hm, s2], fun q hq hc => ?_, fun q hq => ?_⟩
    · have := gone q (by rw [s2]; exact hq) hc
      omega
    · cases hc : (!decide (q.pos / F.np % F.nb = next / F.np % F.nb ∧ m ≤ q.pos % F.np)) with
      | true => rfl
      | false =>
        have hg := gone q (by rw [s2]; exact List.mem_of_getLast? hq) hc
        cases att with
        | nil =>
          rw [List.append_nil, hlastL'] at hq
          have := hkeep q hq
          omega
        | cons a att =>
          rw [List.getLast?_append] at hq
          cases hl : (a :: att).getLast? with
          | none => simp at hl
          | some x =>
            rw [hl] at hq
            injection hq with hq
            subst hq
            have := h.ge x (List.mem_of_getLast? hl)
            omega
  obtain ⟨L'', hL, hs⟩ := hsh.cut h.ge fun q hq => by
    rw [hm, List.mem_filter]
    refine ⟨by rw [s2]; exact List.mem_append_left _ (List.mem_of_getLast? hq), ?_⟩
    cases hc : (!decide (q.pos / F.np % F.nb = next / F.np % F.nb ∧ m ≤ q.pos % F.np)) with
    | true => rfl
    | false =>
      have hg := gone q (by rw [s2]; exact List.mem_append_left _ (List.mem_of_getLast? hq)) hc
      rw [hlastL'] at hq
      have := hkeep q hq
      omega
  have hlast : (pagesP G).getLast? = (pagesP F).getLast? := by rw [s2]; exact hsh.last
  exact ⟨ok', E.nb.trans h.hnb, E.np.trans h.hnp, E.inv h.inv, ⟨L'', s1.trans hs, hL⟩, fun q hq => h.lt q (by rw [hm] at hq; exact (List.mem_filter.1 hq).1), fun q hq => h.near q (by rw [← hlast]; exact hq), h.ge⟩
theorem write_step {L0 : List Pg} {lim nb np : Nat} {F : Fl} {S : St} {att : List Pg} {p : Pg} (h : Wr L0 lim nb np F S.next att) (hd : F.down = false) (hp : p.Good) (hpos : p.pos = S.next) (hge : lim ≤ S.next)
    (hfit : (S.next / np + 1) * np ≤ lim + nb * np) (hkeep : ∀ q, L0.getLast? = some q → (S.next / np + 1) * np ≤ q.pos + nb * np) :
    Step L0 lim nb np S att p (writeP F S (txtP p)).1 (writeP F S (txtP p)).2.1 (writeP F S (txtP p)).2.2 := by
  unfold writeP
  split
  · rename_i hc
    have hnb : 0 < F.nb := by have := h.ok.nb; omega
    have E := erase_does h.ok hd (b := S.next / F.np % F.nb) (Nat.mod_lt _ hnb)
    have ok' := erase_ok' h.ok (S.next / F.np % F.nb : Nat)
    have W := erase_step h hd hc.1 hfit hkeep ok' E
    split
    · rename_i h0
      exact prog_step W ((E.whole h0).2.trans hd) hp hpos hge
    · rename_i h0
      exact ⟨fun hx => absurd hx h0, fun _ => ⟨rfl, E.down, .inl W⟩⟩
  · exact prog_step h hd hp hpos hge
end Go.Proofs.YtlefilfdomjkeaaGreatDoor
