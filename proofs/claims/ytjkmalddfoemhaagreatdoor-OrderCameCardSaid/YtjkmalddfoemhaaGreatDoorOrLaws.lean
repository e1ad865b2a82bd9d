/- The sequence of the entries: the plain laws of OrderCame and OrderKnows. No program in sight. -/
import Derived.Test.YtjkmalddfoemhaaGreatDoorRm
import Derived.Test.YtjkmalddfoemhaaGreatDoorOrModel
namespace Go.Proofs.YtjkmalddfoemhaaGreatDoor
open Go
variable {rd : List UInt8 → En × Int} {R : Rg}

theorem entry_both {h g : Hs} (H : His rd R h) (G : His rd R g) (s : SameM h g) (m : Int) : entryM h m = entryM g m := by
  have q := s m
  cases e1 : idxF h m with
  | none =>
    rw [e1] at q
    have e2 : idxF g m = none := by
      cases e2 : idxF g m with
      | none => rfl
      | some j => rw [e2] at q; exact absurd (q.2 rfl) (by decide)
    unfold entryM; rw [e1, e2]
  | some i =>
    rw [e1] at q
    obtain ⟨j, e2⟩ := Option.isSome_iff_exists.1 (q.1 rfl)
    have h1 : (idxF h m).isSome := by rw [e1]; rfl
    have h2 : (idxF g m).isSome := by rw [e2]; rfl
    have k := ent_both H G h1 h2
    rw [← ent_entry, ← ent_entry] at k
    obtain ⟨hi, a⟩ := entry_at e1
    obtain ⟨hj, b⟩ := entry_at e2
    rw [a, b] at k ⊢
    exact congrArg (·, true) k
theorem see_both {h g : Hs} (H : His rd R h) (G : His rd R g) (s : SameM h g) (ms : List Int) : seeF h ms = seeF g ms := by
  have e : entryM h = entryM g := funext fun m => entry_both H G s m
  have hv : ∀ x, VoteP h x ↔ VoteP g x := fun x => by unfold VoteP; rw [e]
  have : actF h = actF g := by
    funext m
    simp only [actF, valueF, hv, e]
  unfold seeF
  rw [this]
theorem put_both {h g : Hs} (H : His rd R h) (G : His rd R g) (s : SameM h g) (out ms : List Int) : putF h out ms = putF g out ms := by
  unfold putF
  rw [s.sorted H G]
theorem seqTo_both {h g : Hs} (H : His rd R h) (G : His rd R g) (s : SameM h g) (days : List (Int × Int)) (k : Nat) : seqTo h days k = seqTo g days k := by
  have : (fun out (d : Int × Int) => putF h out (pastF h d.1)) = fun out d => putF g out (pastF g d.1) := by
    funext out d
    rw [put_both H G s, s.past H G]
  unfold seqTo
  rw [this]
theorem seq_both {h g : Hs} (H : His rd R h) (G : His rd R g) (s : SameM h g) (days : List (Int × Int)) : seqF h days = seqF g days ∧ endsF h days = endsF g days := by
  constructor
  · unfold seqF
    rw [seqTo_both H G s, put_both H G s, s.marks H G]
  · unfold endsF endsTo
    have : (fun d : Nat => ((seqTo h days (d + 1)).length : Int)) = fun d => ((seqTo g days (d + 1)).length : Int) := by
      funext d
      rw [seqTo_both H G s]
    rw [this]
theorem days_both {h g : Hs} (H : His rd R h) (G : His rd R g) (s : SameM h g) {st : Stp} {l k : List (Int × Int)} (a : DaysIs st (seeF h (marksF h)) l) (b : DaysIs st (seeF g (marksF g)) k) : l = k := by
  rw [see_both H G s, s.marks H G] at a
  exact days_unique a b

def backL (h : Hs) : List Sg := (marksF h).reverse.map fun m => (signedM h m).1
theorem backL_len (h : Hs) : (backL h).length = h.length := by unfold backL; rw [List.length_map, List.length_reverse, marksF_len]
theorem backL_get {h : Hs} {j : Nat} (hj : j < (backL h).length) (hk : (marksF h).length - 1 - j < (marksF h).length) : (backL h)[j] = (signedM h (marksF h)[(marksF h).length - 1 - j]).1 := by
  have hj' : j < ((marksF h).reverse.map fun m => (signedM h m).1).length := hj
  have e : ((marksF h).reverse.map fun m => (signedM h m).1)[j]'hj' = (signedM h (marksF h)[(marksF h).length - 1 - j]).1 := by rw [List.getElem_map, List.getElem_reverse]
  exact e
theorem signed_has {h : Hs} {m : Int} (hm : (idxF h m).isSome) : ∃ i, ∃ (hi : i < h.length), idxF h m = some i ∧ (signedM h m).1 = h[i].sg ∧ (signedM h m).2 = true := by
  obtain ⟨i, e⟩ := Option.isSome_iff_exists.1 hm
  obtain ⟨hi, _⟩ := idx_some e
  refine ⟨i, hi, e, ?_⟩
  unfold signedM
  rw [e]
  dsimp only
  rw [List.getElem?_eq_getElem hi]
  exact ⟨rfl, rfl⟩
theorem back_from {h : Hs} (H : His rd R h) : From (backL h) h := fun n hn => by
  obtain ⟨i, hi, rfl⟩ := List.getElem_of_mem hn
  have e := idx_of H.nodup hi
  unfold backL
  rw [List.mem_map]
  refine ⟨h[i].mark, ?_, ?_⟩
  · rw [List.mem_reverse, mem_marksF, e]; rfl
  · obtain ⟨j, hj, e2, e3, _⟩ := signed_has (h := h) (m := h[i].mark) (by rw [e]; rfl)
    rw [e] at e2
    injection e2 with e2
    subst e2
    exact e3
theorem back_in {h : Hs} : ∀ s ∈ backL h, (idxF h s.mark).isSome := fun s hs => by
  unfold backL at hs
  obtain ⟨m, hm, rfl⟩ := List.mem_map.1 hs
  rw [List.mem_reverse, mem_marksF] at hm
  obtain ⟨i, hi, e, e2, _⟩ := signed_has hm
  obtain ⟨_, e3⟩ := idx_some e
  rw [e2]
  show (idxF h h[i].mark).isSome
  rw [e3, e]; rfl
theorem add_from {h g : Hs} {s : Sg} (hs : (idxF h s.mark).isSome) (q : SubM g h) : SubM (addF rd R g s).1 h := fun m hm => by
  rcases add_grow (rd := rd) (R := R) g s with e | ⟨n, e, en⟩
  · rw [e] at hm; exact q m hm
  · rw [e, idx_snoc] at hm
    cases c : idxF g m with
    | some i => exact q m (by rw [c]; rfl)
    | none =>
      rw [c] at hm
      by_cases d : n.mark = m
      · rw [← d]
        show (idxF h n.sg.mark).isSome
        rw [en]; exact hs
      · rw [if_neg d] at hm; cases hm
theorem addTo_sub {h g : Hs} (q : SubM g h) {l : List Sg} (hl : ∀ s ∈ l, (idxF h s.mark).isSome) : ∀ k, SubM (addTo rd R g l k) h
  | 0 => q
  | k + 1 => by
    by_cases hk : k < l.length
    · rw [addTo_succ hk]
      exact add_from (hl _ (List.getElem_mem hk)) (addTo_sub q hl k)
    · have : addTo rd R g l (k + 1) = addTo rd R g l k := by unfold addTo; rw [List.take_of_length_le (by omega), List.take_of_length_le (by omega)]
      rw [this]
      exact addTo_sub q hl k
theorem sub_same {g h : Hs} (G : His rd R g) (q : SubM g h) (hl : h.length ≤ g.length) : SameM g h := fun m => by
  refine ⟨q m, fun hm => ?_⟩
  rw [mem_marks] at hm ⊢
  by_cases c : m ∈ g.map Nd.mark
  · exact c
  · have := nodup_sub_len (l1 := m :: g.map Nd.mark) (l2 := h.map Nd.mark) (List.nodup_cons.2 ⟨c, G.nodup⟩) fun x hx => by
      rcases List.mem_cons.1 hx with e | e
      · rw [e]; exact hm
      · exact mem_marks.1 (q x (mem_marks.2 e))
    rw [List.length_cons, List.length_map, List.length_map] at this
    omega
theorem back_round {h g : Hs} (H : His rd R h) (G : His rd R g) (hR : R.length ≤ 4000) : g.length + 1 ≤ (addAll rd R g (backL h)).length ∨ h.length ≤ g.length := by
  by_cases c : g.length + 1 ≤ (addAll rd R g (backL h)).length
  · exact .inl c
  · refine .inr ?_
    have h1 := all_grow (rd := rd) (R := R) (backL h) g
    obtain ⟨_, fx⟩ := all_fix (rd := rd) (R := R) (backL h) g (by omega)
    have := nodup_sub_len (l1 := h.map Nd.mark) (l2 := g.map Nd.mark) H.nodup fun x hx => by
      obtain ⟨i, e⟩ := Option.isSome_iff_exists.1 (mem_marks.2 hx)
      exact mem_marks.1 (fix_sub H G hR (back_from H) fx i e)
    rwa [List.length_map, List.length_map] at this

theorem kn_bef {h : Hs} (H : His rd R h) {a b : Int} (q : Kn h a b) : BefM h a b := by
  obtain ⟨i, j, ha, hb, hp⟩ := q
  obtain ⟨hi, _⟩ := idx_some ha
  obtain ⟨hj, _⟩ := idx_some hb
  have hl := H.kn_level ha j hb ⟨i, j, ha, hb, hp⟩
  rw [nlevel hi, nlevel hj] at hl
  exact ⟨i, j, hi, hj, ha, hb, .inl hl⟩
theorem mem_put {h : Hs} (H : His rd R h) (out ms : List Int) (x : Int) : x ∈ putF h out ms ↔ x ∈ out ∨ (x ∈ ms ∧ (idxF h x).isSome) := by
  rw [← putTo_all (Nat.le_refl _), mem_putTo, List.take_length, (sorted_ok H ms).2]
theorem put_nodup {h : Hs} (H : His rd R h) {out : List Int} (ms : List Int) (ho : out.Nodup) : (putF h out ms).Nodup := by
  unfold putF
  refine List.nodup_append.2 ⟨ho, (sorted_nodup H ms).sublist List.filter_sublist, fun a ha b hb e => ?_⟩
  subst e
  simpa [ha] using (List.mem_filter.1 hb).2
theorem past_has {h : Hs} (H : His rd R h) {m x : Int} (hx : x ∈ pastF h m) : (idxF h x).isSome := (kn_has ((mem_past H m x).1 hx)).1
theorem mem_seqTo {h : Hs} (H : His rd R h) (days : List (Int × Int)) : ∀ k, k ≤ days.length → ∀ x, x ∈ seqTo h days k ↔ ∃ d ∈ days.take k, x ∈ pastF h d.1
  | 0, _, x => by rw [seqTo_zero]; simp
  | k + 1, hk, x => by
    have hk' : k < days.length := by omega
    rw [seqTo_succ hk', mem_put H, mem_seqTo H days k (by omega) x, List.take_succ_eq_append_getElem hk']
    constructor
    · rintro (⟨d, hd, hx⟩ | ⟨hx, _⟩)
      · exact ⟨d, List.mem_append.2 (.inl hd), hx⟩
      · exact ⟨_, List.mem_append.2 (.inr (List.mem_singleton.2 rfl)), hx⟩
    · rintro ⟨d, hd, hx⟩
      rcases List.mem_append.1 hd with c | c
      · exact .inl ⟨d, c, hx⟩
      · rw [List.mem_singleton.1 c] at hx
        exact .inr ⟨hx, past_has H hx⟩
theorem seqTo_nodup {h : Hs} (H : His rd R h) (days : List (Int × Int)) : ∀ k, k ≤ days.length → (seqTo h days k).Nodup
  | 0, _ => List.nodup_nil
  | k + 1, hk => by rw [seqTo_succ (by omega)]; exact put_nodup H _ (seqTo_nodup H days k (by omega))
theorem mem_seq {h : Hs} (H : His rd R h) (days : List (Int × Int)) (x : Int) : x ∈ seqF h days ↔ (idxF h x).isSome := by
  unfold seqF
  rw [mem_put H, mem_seqTo H days _ (Nat.le_refl _)]
  constructor
  · rintro (⟨d, _, hx⟩ | ⟨_, hx⟩)
    · exact past_has H hx
    · exact hx
  · exact fun hx => .inr ⟨(mem_marksF h x).2 hx, hx⟩
def After (h : Hs) (l : List Int) : Prop := ∀ i (hi : i < l.length), ∀ p ∈ pastF h l[i], p ∈ l.take i
theorem After.put {h : Hs} (H : His rd R h) {out ms : List Int} (ho : After h out) (hc : ∀ y ∈ ms, ∀ p ∈ pastF h y, p ∈ ms) : After h (putF h out ms) := by
  intro i hi p hp
  unfold putF at hi hp ⊢
  by_cases c : i < out.length
  · rw [List.getElem_append_left c] at hp
    rw [List.take_append_of_le_length (by omega)]
    exact ho i c p hp
  · rw [List.getElem_append_right (by omega)] at hp
    rw [List.take_append, List.take_of_length_le (by omega), List.mem_append]
    obtain ⟨j, hj⟩ : ∃ j, i - out.length = j := ⟨_, rfl⟩
    have hjl : j < ((sortedF h ms).filter fun m => decide (m ∉ out)).length := by rw [List.length_append] at hi; omega
    have hp : p ∈ pastF h ((sortedF h ms).filter fun m => decide (m ∉ out))[j] := by subst hj; exact hp
    rw [hj]
    by_cases d : p ∈ out
    · exact .inl d
    · refine .inr ?_
      obtain ⟨F, hF⟩ : ∃ F, ((sortedF h ms).filter fun m => decide (m ∉ out)) = F := ⟨_, rfl⟩
      have hpw : F.Pairwise (BefM h) := by rw [← hF]; exact (sorted_ok H ms).1.filter _
      have hmem : ∀ x, x ∈ F ↔ (x ∈ ms ∧ (idxF h x).isSome) ∧ x ∉ out := fun x => by rw [← hF, List.mem_filter, (sorted_ok H ms).2]; simp
      have hp : p ∈ pastF h (F[j]'(by rw [← hF]; exact hjl)) := by subst hF; exact hp
      rw [hF] at hjl ⊢
      have hy := (hmem F[j]).1 (List.getElem_mem _)
      obtain ⟨j2, hj2, e⟩ := List.getElem_of_mem ((hmem p).2 ⟨⟨hc _ hy.1.1 p hp, past_has H hp⟩, d⟩)
      have hb := kn_bef H ((mem_past H _ p).1 hp)
      refine List.mem_take_iff_getElem.2 ⟨j2, ?_, e⟩
      have : j2 < j := by
        rcases Nat.lt_trichotomy j2 j with z | z | z
        · exact z
        · subst z; rw [e] at hb; exact absurd hb (befM_irrefl _)
        · have := List.pairwise_iff_getElem.1 hpw j j2 hjl hj2 z
          rw [e] at this
          exact absurd hb (befM_asymm _ _ this)
      omega
theorem past_closed {h : Hs} (H : His rd R h) (m : Int) : ∀ y ∈ pastF h m, ∀ p ∈ pastF h y, p ∈ pastF h m := fun y hy p hp =>
  (mem_past H m p).2 (kn_tr H ((mem_past H y p).1 hp) ((mem_past H m y).1 hy))
theorem After.seqTo {h : Hs} (H : His rd R h) (days : List (Int × Int)) : ∀ k, k ≤ days.length → After h (seqTo h days k)
  | 0, _ => fun i hi => absurd hi (Nat.not_lt_zero _)
  | k + 1, hk => by rw [seqTo_succ (by omega)]; exact (After.seqTo H days k (by omega)).put H (past_closed H _)
theorem After.seq {h : Hs} (H : His rd R h) (days : List (Int × Int)) : After h (seqF h days) :=
  (After.seqTo H days _ (Nat.le_refl _)).put H fun _ _ p hp => (mem_marksF h p).2 (past_has H hp)
end Go.Proofs.YtjkmalddfoemhaaGreatDoor
