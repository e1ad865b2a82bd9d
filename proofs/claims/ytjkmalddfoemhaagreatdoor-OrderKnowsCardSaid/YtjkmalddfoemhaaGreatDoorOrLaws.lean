/- The sequence of the entries: the plain laws of OrderCame and OrderKnows. No program in sight. -/
import Derived.Test.YtjkmalddfoemhaaGreatDoorRm
import Derived.Test.YtjkmalddfoemhaaGreatDoorOrModel
namespace Go.Proofs.YtjkmalddfoemhaaGreatDoor
open Go
variable {rd : List UInt8 → En × Int} {R : Rg}

theorem kn_bef {h : Hs} (H : His rd R h) {a b : Int} (q : Kn h a b) : BefM h a b := by
  obtain ⟨i, j, ha, hb, hp⟩ := q
  obtain ⟨hi, _⟩ := idx_some ha
  obtain ⟨hj, _⟩ := idx_some hb
  have hl := H.kn_level ha j hb ⟨i, j, ha, hb, hp⟩
  rw [nlevel hi, nlevel hj] at hl
  exact ⟨i, j, hi, hj, ha, hb, .inl hl⟩
theorem mem_put {h : Hs} (H : His rd R h) (out ms : List Int) (x : Int) : x ∈ putF h out ms ↔ x ∈ out ∨ (x ∈ ms ∧ (idxF h x).isSome) := by
  rw [← putTo_all (Nat.le_refl _), mem_putTo, List.take_length, (sorted_ok H ms).2]
theorem put_nodup {h : Hs} (H : His rd R h) {out : List Int} (ms : List Int) (ho : out.Nodup) : (putF h out ms).Nodup := by
  unfold putF
  refine List.nodup_append.2 ⟨ho, (sorted_nodup H ms).sublist List.filter_sublist, fun a ha b hb e => ?_⟩
  subst e
  simpa [ha] using (List.mem_filter.1 hb).2
theorem past_has {h : Hs} (H : His rd R h) {m x : Int} (hx : x ∈ pastF h m) : (idxF h x).isSome := (kn_has ((mem_past H m x).1 hx)).1
theorem mem_seqTo {h : Hs} (H : His rd R h) (days : List (Int × Int)) : ∀ k, k ≤ days.length → ∀ x, x ∈ seqTo h days k ↔ ∃ d ∈ days.take k, x ∈ pastF h d.1
  | 0, _, x => by rw [seqTo_zero]; simp
  | k + 1, hk, x => by
    have hk' : k < days.length := by omega
    rw [seqTo_succ hk', mem_put H, mem_seqTo H days k (by omega) x, List.take_succ_eq_append_getElem hk']
    constructor
    · rintro (⟨d, hd, hx⟩ | ⟨hx, _⟩)
      · exact ⟨d, List.mem_append.2 (.inl hd), hx⟩
      · exact ⟨_, List.mem_append.2 (.inr (List.mem_singleton.2 rfl)), hx⟩
    · rintro ⟨d, hd, hx⟩
      rcases List.mem_append.1 hd with c | c
      · exact .inl ⟨d, c, hx⟩
      · rw [List.mem_singleton.1 c] at hx
        exact .inr ⟨hx, past_has H hx⟩
theorem seqTo_nodup {h : Hs} (H : His rd R h) (days : List (Int × Int)) : ∀ k, k ≤ days.length → (seqTo h days k).Nodup
  | 0, _ => List.nodup_nil
  | k + 1, hk => by rw [seqTo_succ (by omega)]; exact put_nodup H _ (seqTo_nodup H days k (by omega))
theorem seq_nodup {h : Hs} (H : His rd R h) (days : List (Int × Int)) : (seqF h days).Nodup := put_nodup H _ (seqTo_nodup H days _ (Nat.le_refl _))
theorem mem_seq {h : Hs} (H : His rd R h) (days : List (Int × Int)) (x : Int) : x ∈ seqF h days ↔ (idxF h x).isSome := by
  unfold seqF
  rw [mem_put H, mem_seqTo H days _ (Nat.le_refl _)]
  constructor
  · rintro (⟨d, _, hx⟩ | ⟨_, hx⟩)
    · exact past_has H hx
    · exact hx
  · exact fun hx => .inr ⟨(mem_marksF h x).2 hx, hx⟩
theorem seq_len {h : Hs} (H : His rd R h) (days : List (Int × Int)) : (seqF h days).length = h.length := by
  rw [← marksF_len h]
  exact Nat.le_antisymm (nodup_sub_len (seq_nodup H days) fun x hx => (mem_marksF h x).2 ((mem_seq H days x).1 hx)) (nodup_sub_len (marks_nodup H) fun x hx => (mem_seq H days x).2 ((mem_marksF h x).1 hx))
def After (h : Hs) (l : List Int) : Prop := ∀ i (hi : i < l.length), ∀ p ∈ pastF h l[i], p ∈ l.take i
theorem After.put {h : Hs} (H : His rd R h) {out ms : List Int} (ho : After h out) (hc : ∀ y ∈ ms, ∀ p ∈ pastF h y, p ∈ ms) : After h (putF h out ms) := by
  intro i hi p hp
  unfold putF at hi hp ⊢
  by_cases c : i < out.length
  · rw [List.getElem_append_left c] at hp
    rw [List.take_append_of_le_length (by omega)]
    exact ho i c p hp
  · rw [List.getElem_append_right (by omega)] at hp
    rw [List.take_append, List.take_of_length_le (by omega), List.mem_append]
    obtain ⟨j, hj⟩ : ∃ j, i - out.length = j := ⟨_, rfl⟩
    have hjl : j < ((sortedF h ms).filter fun m => decide (m ∉ out)).length := by rw [List.length_append] at hi; omega
    have hp : p ∈ pastF h ((sortedF h ms).filter fun m => decide (m ∉ out))[j] := by subst hj; exact hp
    rw [hj]
    by_cases d : p ∈ out
    · exact .inl d
    · refine .inr ?_
      obtain ⟨F, hF⟩ : ∃ F, ((sortedF h ms).filter fun m => decide (m ∉ out)) = F := ⟨_, rfl⟩
      have hpw : F.Pairwise (BefM h) := by rw [← hF]; exact (sorted_ok H ms).1.filter _
      have hmem : ∀ x, x ∈ F ↔ (x ∈ ms ∧ (idxF h x).isSome) ∧ x ∉ out := fun x => by rw [← hF, List.mem_filter, (sorted_ok H ms).2]; simp
      have hp : p ∈ pastF h (F[j]'(by rw [← hF]; exact hjl)) := by subst hF; exact hp
      rw [hF] at hjl ⊢
      have hy := (hmem F[j]).1 (List.getElem_mem _)
      obtain ⟨j2, hj2, e⟩ := List.getElem_of_mem ((hmem p).2 ⟨⟨hc _ hy.1.1 p hp, past_has H hp⟩, d⟩)
      have hb := kn_bef H ((mem_past H _ p).1 hp)
      refine List.mem_take_iff_getElem.2 ⟨j2, ?_, e⟩
      have : j2 < j := by
        rcases Nat.lt_trichotomy j2 j with z | z | z
        · exact z
        · subst z; rw [e] at hb; exact absurd hb (befM_irrefl _)
        · have := List.pairwise_iff_getElem.1 hpw j j2 hjl hj2 z
          rw [e] at this
          exact absurd hb (befM_asymm _ _ this)
      omega
theorem past_closed {h : Hs} (H : His rd R h) (m : Int) : ∀ y ∈ pastF h m, ∀ p ∈ pastF h y, p ∈ pastF h m := fun y hy p hp =>
  (mem_past H m p).2 (kn_tr H ((mem_past H y p).1 hp) ((mem_past H m y).1 hy))
theorem After.seqTo {h : Hs} (H : His rd R h) (days : List (Int × Int)) : ∀ k, k ≤ days.length → After h (seqTo h days k)
  | 0, _ => fun i hi => absurd hi (Nat.not_lt_zero _)
  | k + 1, hk => by rw [seqTo_succ (by omega)]; exact (After.seqTo H days k (by omega)).put H (past_closed H _)
theorem After.seq {h : Hs} (H : His rd R h) (days : List (Int × Int)) : After h (seqF h days) :=
  (After.seqTo H days _ (Nat.le_refl _)).put H fun _ _ p hp => (mem_marksF h p).2 (past_has H hp)
theorem seqTo_pre {h : Hs} (days : List (Int × Int)) : ∀ {k n : Nat}, k ≤ n → n ≤ days.length → ∃ t, seqTo h days n = seqTo h days k ++ t
  | k, 0, hk, _ => by obtain rfl : k = 0 := by omega
                      exact ⟨[], by simp⟩
  | k, n + 1, hk, hn => by
    by_cases c : k = n + 1
    · subst c; exact ⟨[], by simp⟩
    · obtain ⟨t, e⟩ := seqTo_pre (h := h) days (k := k) (n := n) (by omega) (by omega)
      rw [seqTo_succ (by omega), e]
      unfold putF
      exact ⟨_, List.append_assoc _ _ _⟩
theorem seq_pre {h : Hs} (days : List (Int × Int)) {k : Nat} (hk : k ≤ days.length) : ∃ t, seqF h days = seqTo h days k ++ t := by
  obtain ⟨t, e⟩ := seqTo_pre (h := h) days hk (Nat.le_refl _)
  unfold seqF
  rw [e]
  unfold putF
  exact ⟨_, List.append_assoc _ _ _⟩
def atL (l : List Int) (n : Int) : Int := match l.findIdx? (· == n) with
  | some i => i
  | none => -1
theorem atL_none {l : List Int} {n : Int} (h : n ∉ l) : atL l n = -1 := by
  unfold atL
  rw [List.findIdx?_eq_none_iff.2 fun x hx => by simp only [beq_eq_false_iff_ne, ne_eq]; exact fun e => h (by rw [← e]; exact hx)]
theorem atL_is {l : List Int} (hn : l.Nodup) {i : Nat} (hi : i < l.length) : atL l l[i] = i := by
  unfold atL
  rw [List.findIdx?_eq_some_iff_getElem.2 ⟨hi, by simp, fun j hj => by
    simp only [beq_iff_eq]
    intro e
    have := (List.getElem_inj hn).1 e
    omega⟩]
theorem atL_mem {l : List Int} (hn : l.Nodup) {n : Int} {k : Nat} (hk : n ∈ l.take k) : 0 ≤ atL l n ∧ atL l n < k := by
  obtain ⟨i, hi, rfl⟩ := List.mem_take_iff_getElem.1 hk
  rw [atL_is hn (by omega)]
  omega
theorem seq_before {h : Hs} (H : His rd R h) (days : List (Int × Int)) {i : Nat} (hi : i < (seqF h days).length) {p : Int} (hp : p ∈ pastF h (seqF h days)[i]) : 0 ≤ atL (seqF h days) p ∧ atL (seqF h days) p < i :=
  atL_mem (seq_nodup H days) (After.seq H days i hi p hp)
theorem ends_ok {h : Hs} (H : His rd R h) (days : List (Int × Int)) {d : Nat} (hd : d < days.length) (he : d < (endsF h days).length) : (endsF h days)[d] = ((seqTo h days (d + 1)).length : Int) ∧ (seqTo h days (d + 1)).length ≤ (seqF h days).length ∧
    (∀ (h0 : 0 < d), (endsF h days)[d - 1]'(by omega) ≤ (endsF h days)[d]) ∧ ∀ p ∈ pastF h days[d].1, atL (seqF h days) p < (endsF h days)[d] := by
  have e := endsTo_get h days he
  obtain ⟨t, ht⟩ := seq_pre (h := h) days (k := d + 1) (by omega)
  refine ⟨e, by rw [ht, List.length_append]; omega, fun h0 => ?_, fun p hp => ?_⟩
  · have e1 := endsTo_get h days (k := days.length) (d := d - 1) (by rw [endsTo_len]; omega)
    obtain ⟨u, hu⟩ := seqTo_pre (h := h) days (k := d - 1 + 1) (n := d + 1) (by omega) (by omega)
    unfold endsF
    rw [e, e1, hu, List.length_append]
    omega
  · have hin : p ∈ (seqF h days).take (seqTo h days (d + 1)).length := by
      rw [ht, List.take_left']
      · exact (mem_seqTo H days (d + 1) (by omega) p).2 ⟨days[d], by rw [List.take_succ_eq_append_getElem hd]; exact List.mem_append.2 (.inr (List.mem_singleton.2 rfl)), hp⟩
      · rfl
    have := (atL_mem (seq_nodup H days) hin).2
    unfold endsF
    rw [e]
    exact this
theorem known_len {h : Hs} (H : His rd R h) (days : List (Int × Int)) {k : Nat} (hk : k ≤ days.length) {l : List Int} (hn : l.Nodup) (hm : ∀ x, x ∈ l ↔ ∃ d ∈ days.take k, x ∈ pastF h d.1) : l.length = (seqTo h days k).length :=
  Nat.le_antisymm (nodup_sub_len hn fun x hx => (mem_seqTo H days k hk x).2 ((hm x).1 hx)) (nodup_sub_len (seqTo_nodup H days k hk) fun x hx => (hm x).2 ((mem_seqTo H days k hk x).1 hx))
end Go.Proofs.YtjkmalddfoemhaaGreatDoor
