/- The reference's ways with spans come to the same normal forms. No program in sight. -/
import Derived.Test.YtalhmpggpjbeaaaGreatDoorJ1
namespace Go.Proofs.YtalhmpggpjbeaaaGreatDoor
open Go

/-! ## put -/
def putB : List Sp → Sp → List Sp
  | [], s => [s]
  | t :: r, s => if t.mark = s.mark ∧ t.fr ≤ s.to then putB r ⟨s.mark, min s.fr t.fr, max s.to t.to⟩ else s :: t :: r
def putA : List Sp → Sp → List Sp
  | [], s => [s]
  | t :: r, s => if t.mark < s.mark ∨ (t.mark = s.mark ∧ t.to < s.fr) then t :: putA r s else putB (t :: r) s
def normR (l : List Sp) : List Sp := l.foldl (fun out s => if s.Ok then putA out s else out) []
theorem nrm_one {s : Sp} (h : s.Ok) : Nrm [s] := ⟨fun t ht => by rw [List.mem_singleton.1 ht]; exact h, List.pairwise_singleton _ _⟩
theorem nrm_cons {s : Sp} {l : List Sp} (h : s.Ok) (hl : Nrm l) (hg : ∀ t ∈ l, s.hi < t.lo) : Nrm (s :: l) := by
  refine ⟨fun t ht => ?_, List.pairwise_cons.2 ⟨hg, hl.gap⟩⟩
  rcases List.mem_cons.1 ht with rfl | ht
  · exact h
  · exact hl.ok t ht
theorem putB_spec : ∀ {l : List Sp} {s : Sp}, Nrm l → s.Ok → (∀ t ∈ l, s.lo ≤ t.hi) →
    Nrm (putB l s) ∧ (∀ z, HasZ (putB l s) z ↔ HasZ l z ∨ (s.lo ≤ z ∧ z < s.hi)) ∧ ∀ b, b < s.lo → (∀ t ∈ l, b < t.lo) → ∀ u ∈ putB l s, b < u.lo
  | [], s, _, hs, _ => ⟨nrm_one hs, fun z => by
      unfold putB
      rw [hasZ_cons]
      have := hasZ_nil z
      exact ⟨fun h => h.elim (fun h => .inr h.2) fun h => absurd h this, fun h => h.elim (fun h => absurd h this) fun h => .inl ⟨hs, h⟩⟩, fun b hb _ u hu => by
      unfold putB at hu
      rw [List.mem_singleton.1 hu]; exact hb⟩
  | t :: r, s, hl, hs, hh => by
    have ht := hl.ok t List.mem_cons_self
    have hth := hh t List.mem_cons_self
    unfold putB
    by_cases hc : t.mark = s.mark ∧ t.fr ≤ s.to
    · rw [if_pos hc]
      obtain ⟨c1, c2⟩ := hc
      have ho : (⟨s.mark, min s.fr t.fr, max s.to t.to⟩ : Sp).Ok := by unfold Sp.Ok at *; dsimp only; omega
      have hlo : (⟨s.mark, min s.fr t.fr, max s.to t.to⟩ : Sp).lo = min s.lo t.lo := by unfold Sp.lo; dsimp only; omega
      have hhi : (⟨s.mark, min s.fr t.fr, max s.to t.to⟩ : Sp).hi = max s.hi t.hi := by unfold Sp.hi; dsimp only; omega
      have htouch : t.lo ≤ s.hi := by unfold Sp.lo Sp.hi; omega
      obtain ⟨h1, h2, h3⟩ := putB_spec hl.tail ho fun u hu => by rw [hlo]; have := hh u (List.mem_cons_of_mem _ hu); omega
      refine ⟨h1, fun z => ?_, fun b hb hbl u hu => h3 b (by rw [hlo]; have := hbl t List.mem_cons_self; omega) (fun u hu => hbl u (List.mem_cons_of_mem _ hu)) u hu⟩
      rw [h2 z, hlo, hhi, hasZ_cons]
      constructor
      · rintro (h | h)
        · exact .inl (.inr h)
        · by_cases hz : s.lo ≤ z ∧ z < s.hi
          · exact .inr hz
          · exact .inl (.inl ⟨ht, by omega, by omega⟩)
      · rintro ((h | h) | h)
        · exact .inr (by omega)
        · exact .inl h
        · exact .inr (by omega)
    · rw [if_neg hc]
      have hgap : s.hi < t.lo := by
        have hs' := hs; have ht' := ht
        unfold Sp.Ok at hs' ht'
        unfold Sp.lo Sp.hi at *
        omega
      refine ⟨nrm_cons hs hl fun u hu => ?_, fun z => ?_, fun b hb hbl u hu => ?_⟩
      · rcases List.mem_cons.1 hu with rfl | hu
        · exact hgap
        · have := (List.pairwise_cons.1 hl.gap).1 u hu
          have := Sp.lohi ht
          omega
      · rw [hasZ_cons s]
        exact ⟨fun h => h.elim (fun h => .inr h.2) .inl, fun h => h.elim .inr fun h => .inl ⟨hs, h⟩⟩
      · rcases List.mem_cons.1 hu with rfl | hu
        · exact hb
        · exact hbl u hu
theorem spbefore_iff {t s : Sp} (ht : t.Ok) (hs : s.Ok) : (t.mark < s.mark ∨ (t.mark = s.mark ∧ t.to < s.fr)) ↔ t.hi < s.lo := by
  unfold Sp.Ok at *
  unfold Sp.lo Sp.hi
  omega
theorem putA_spec : ∀ {l : List Sp} {s : Sp}, Nrm l → s.Ok →
    Nrm (putA l s) ∧ (∀ z, HasZ (putA l s) z ↔ HasZ l z ∨ (s.lo ≤ z ∧ z < s.hi)) ∧ ∀ b, b < s.lo → (∀ t ∈ l, b < t.lo) → ∀ u ∈ putA l s, b < u.lo
  | [], s, hl, hs => putB_spec hl hs fun t ht => nomatch ht
  | t :: r, s, hl, hs => by
    have ht := hl.ok t List.mem_cons_self
    unfold putA
    by_cases hc : t.mark < s.mark ∨ (t.mark = s.mark ∧ t.to < s.fr)
    · rw [if_pos hc]
      have hgap := (spbefore_iff ht hs).1 hc
      obtain ⟨h1, h2, h3⟩ := putA_spec hl.tail hs
      refine ⟨nrm_cons ht h1 (h3 t.hi hgap fun u hu => (List.pairwise_cons.1 hl.gap).1 u hu), fun z => ?_, fun b hb hbl u hu => ?_⟩
      · rw [hasZ_cons, h2 z, hasZ_cons]
        constructor
        · rintro (h | h | h)
          · exact .inl (.inl h)
          · exact .inl (.inr h)
          · exact .inr h
        · rintro ((h | h) | h)
          · exact .inl h
          · exact .inr (.inl h)
          · exact .inr (.inr h)
      · rcases List.mem_cons.1 hu with rfl | hu
        · exact hbl _ List.mem_cons_self
        · exact h3 b hb (fun v hv => hbl v (List.mem_cons_of_mem _ hv)) u hu
    · rw [if_neg hc]
      have hh : s.lo ≤ t.hi := by have := mt (spbefore_iff ht hs).2 hc; omega
      refine putB_spec hl hs fun u hu => ?_
      rcases List.mem_cons.1 hu with rfl | hu
      · exact hh
      · have := (List.pairwise_cons.1 hl.gap).1 u hu
        have := Sp.lohi (hl.ok u (List.mem_cons_of_mem _ hu))
        omega
theorem fold_put : ∀ (l out : List Sp), Nrm out → Nrm (l.foldl (fun out s => if s.Ok then putA out s else out) out) ∧ ∀ z, HasZ (l.foldl (fun out s => if s.Ok then putA out s else out) out) z ↔ HasZ out z ∨ HasZ l z
  | [], out, ho => ⟨ho, fun z => ⟨.inl, fun h => h.elim id fun h => absurd h (hasZ_nil z)⟩⟩
  | s :: r, out, ho => by
    rw [List.foldl_cons]
    by_cases hs : s.Ok
    · rw [if_pos hs]
      obtain ⟨h1, h2, _⟩ := putA_spec ho hs
      obtain ⟨h3, h4⟩ := fold_put r _ h1
      refine ⟨h3, fun z => ?_⟩
      rw [h4 z, h2 z, hasZ_cons]
      constructor
      · rintro ((h | h) | h)
        · exact .inl h
        · exact .inr (.inl ⟨hs, h⟩)
        · exact .inr (.inr h)
      · rintro (h | h | h)
        · exact .inl (.inl h)
        · exact .inl (.inr h.2)
        · exact .inr h
    · rw [if_neg hs]
      obtain ⟨h3, h4⟩ := fold_put r out ho
      refine ⟨h3, fun z => ?_⟩
      rw [h4 z, hasZ_cons]
      constructor
      · rintro (h | h)
        · exact .inl h
        · exact .inr (.inr h)
      · rintro (h | h | h)
        · exact .inl h
        · exact absurd h.1 hs
        · exact .inr h
theorem normR_eq (l : List Sp) : normR l = normF l := by
  obtain ⟨h1, h2⟩ := fold_put l [] Nrm.nil
  refine nrm_unique h1 (norm_spec l).1 fun z => ?_
  have := h2 z
  rw [(norm_spec l).2 z]
  unfold normR
  rw [this]
  exact ⟨fun h => h.elim (fun h => absurd h (hasZ_nil z)) id, .inr⟩
end Go.Proofs.YtalhmpggpjbeaaaGreatDoor
namespace Go.Proofs.YtalhmpggpjbeaaaGreatDoor
open Go

/-- What is left of a span without those of a list. -/
def cutR : Sp → List Sp → List Sp
  | s, [] => if s.fr < s.to then [s] else []
  | s, y :: r => if y.mark ≠ s.mark ∨ y.to ≤ s.fr ∨ s.to ≤ y.fr then cutR s r else (if s.fr < y.fr then [⟨s.mark, s.fr, y.fr⟩] else []) ++ cutR ⟨s.mark, y.to, s.to⟩ r
def minusR (a b : List Sp) : List Sp := ((normR a).map fun x => cutR x (normR b)).flatten
def commonR (a b : List Sp) : List Sp := minusR a (minusR a b)
/-- A span of which nothing may be left. -/
structure Sp.Mk (s : Sp) : Prop where
  mark : 0 ≤ s.mark ∧ s.mark ≤ 1073741824
  fr : 0 ≤ s.fr ∧ s.fr ≤ 1048576
  to : s.to ≤ 1048576
theorem Sp.Ok.mk {s : Sp} (h : s.Ok) : s.Mk := by unfold Sp.Ok at h; exact ⟨by omega, by omega, by omega⟩
theorem nrm_app {a b : List Sp} (ha : Nrm a) (hb : Nrm b) (h : ∀ x ∈ a, ∀ y ∈ b, x.hi < y.lo) : Nrm (a ++ b) := by
  refine ⟨fun s hs => ?_, List.pairwise_append.2 ⟨ha.gap, hb.gap, h⟩⟩
  rcases List.mem_append.1 hs with hs | hs
  · exact ha.ok s hs
  · exact hb.ok s hs
theorem cutR_spec : ∀ {ys : List Sp} {s : Sp}, Nrm ys → s.Mk →
    Nrm (cutR s ys) ∧ (∀ z, HasZ (cutR s ys) z ↔ (s.lo ≤ z ∧ z < s.hi) ∧ ¬ HasZ ys z) ∧ ∀ u ∈ cutR s ys, s.lo ≤ u.lo ∧ u.hi ≤ s.hi
  | [], s, _, hs => by
    unfold cutR
    obtain ⟨h1, h2, h3⟩ := hs
    by_cases hc : s.fr < s.to
    · rw [if_pos hc]
      have ho : s.Ok := by unfold Sp.Ok; omega
      refine ⟨nrm_one ho, fun z => ?_, fun u hu => by rw [List.mem_singleton.1 hu]; exact ⟨Int.le_refl _, Int.le_refl _⟩⟩
      rw [hasZ_cons]
      exact ⟨fun h => h.elim (fun h => ⟨h.2, hasZ_nil z⟩) fun h => absurd h (hasZ_nil z), fun h => .inl ⟨ho, h.1⟩⟩
    · rw [if_neg hc]
      refine ⟨Nrm.nil, fun z => ⟨fun h => absurd h (hasZ_nil z), fun h => ?_⟩, fun u hu => nomatch hu⟩
      obtain ⟨⟨h4, h5⟩, _⟩ := h
      unfold Sp.lo at h4
      unfold Sp.hi at h5
      omega
  | y :: r, s, hy, hs => by
    have yo := hy.ok y List.mem_cons_self
    have yo' := yo
    have hs' := hs
    obtain ⟨s1, s2, s3⟩ := hs'
    unfold Sp.Ok at yo'
    unfold cutR
    by_cases hc : y.mark ≠ s.mark ∨ y.to ≤ s.fr ∨ s.to ≤ y.fr
    · rw [if_pos hc]
      obtain ⟨h1, h2, h3⟩ := cutR_spec hy.tail hs
      refine ⟨h1, fun z => ?_, h3⟩
      rw [h2 z, hasZ_cons]
      constructor
      · rintro ⟨⟨h4, h5⟩, h6⟩
        refine ⟨⟨h4, h5⟩, fun h => h.elim (fun h => ?_) h6⟩
        obtain ⟨_, h7, h8⟩ := h
        unfold Sp.lo at h4 h7
        unfold Sp.hi at h5 h8
        omega
      · rintro ⟨h4, h5⟩
        exact ⟨h4, fun h => h5 (.inr h)⟩
    · rw [if_neg hc]
      have hm : y.mark = s.mark := Classical.byContradiction fun h => hc (.inl h)
      have h4 : s.fr < y.to := by omega
      have h5 : y.fr < s.to := by omega
      have hmk : (⟨s.mark, y.to, s.to⟩ : Sp).Mk := ⟨s1, by dsimp only; omega, s3⟩
      obtain ⟨h1, h2, h3⟩ := cutR_spec hy.tail hmk
      have hlo2 : (⟨s.mark, y.to, s.to⟩ : Sp).lo = y.hi := by unfold Sp.lo Sp.hi; dsimp only; omega
      have hhi2 : (⟨s.mark, y.to, s.to⟩ : Sp).hi = s.hi := rfl
      have hyl : y.lo - s.lo = y.fr - s.fr ∧ s.hi - y.lo = s.to - y.fr ∧ y.hi - s.lo = y.to - s.fr := by unfold Sp.lo Sp.hi; omega
      rw [hlo2, hhi2] at h3
      have hz2 : ∀ z, HasZ (cutR ⟨s.mark, y.to, s.to⟩ r) z ↔ (y.hi ≤ z ∧ z < s.hi) ∧ ¬ HasZ r z := fun z => by rw [h2 z, hlo2, hhi2]
      have hlow := fun z (h : HasZ r z) => hy.low h
      by_cases hf : s.fr < y.fr
      · rw [if_pos hf]
        have ho : (⟨s.mark, s.fr, y.fr⟩ : Sp).Ok := by unfold Sp.Ok; dsimp only; omega
        have hl1 : (⟨s.mark, s.fr, y.fr⟩ : Sp).lo = s.lo := rfl
        have hh1 : (⟨s.mark, s.fr, y.fr⟩ : Sp).hi = y.lo := by unfold Sp.lo Sp.hi; dsimp only; omega
        refine ⟨nrm_app (nrm_one ho) h1 fun x hx u hu => ?_, fun z => ?_, fun u hu => ?_⟩
        · rw [List.mem_singleton.1 hx, hh1]
          have := (h3 u hu).1
          have := Sp.lohi yo
          omega
        · rw [hasZ_append, hz2 z, hasZ_cons, hasZ_cons, hl1, hh1]
          have hnil := hasZ_nil z
          have hyo := Sp.lohi yo
          constructor
          · rintro ((⟨_, h6, h7⟩ | h) | ⟨⟨h6, h7⟩, h8⟩)
            · refine ⟨⟨h6, by omega⟩, fun h => h.elim (fun h => by omega) fun h => by have := hlow z h; omega⟩
            · exact absurd h hnil
            · exact ⟨⟨by omega, h7⟩, fun h => h.elim (fun h => by omega) h8⟩
          · rintro ⟨⟨h6, h7⟩, h8⟩
            by_cases h9 : z < y.lo
            · exact .inl (.inl ⟨ho, h6, h9⟩)
            · refine .inr ⟨⟨?_, h7⟩, fun h => h8 (.inr h)⟩
              by_cases h10 : z < y.hi
              · exact absurd (.inl ⟨yo, by omega, h10⟩) h8
              · omega
        · rcases List.mem_append.1 hu with hu | hu
          · rw [List.mem_singleton.1 hu, hl1, hh1]; omega
          · have := h3 u hu
            have := Sp.lohi yo
            omega
      · rw [if_neg hf, List.nil_append]
        refine ⟨h1, fun z => ?_, fun u hu => ?_⟩
        · rw [hz2 z, hasZ_cons]
          have hyo := Sp.lohi yo
          constructor
          · rintro ⟨⟨h6, h7⟩, h8⟩
            exact ⟨⟨by omega, h7⟩, fun h => h.elim (fun h => by omega) h8⟩
          · rintro ⟨⟨h6, h7⟩, h8⟩
            refine ⟨⟨?_, h7⟩, fun h => h8 (.inr h)⟩
            by_cases h10 : z < y.hi
            · exact absurd (.inl ⟨yo, by omega, h10⟩) h8
            · omega
        · have := h3 u hu
          omega
theorem flat_cut {ys : List Sp} (hy : Nrm ys) : ∀ {xs : List Sp}, Nrm xs → Nrm (xs.map fun x => cutR x ys).flatten ∧ (∀ z, HasZ (xs.map fun x => cutR x ys).flatten z ↔ HasZ xs z ∧ ¬ HasZ ys z) ∧ ∀ b, (∀ x ∈ xs, b < x.lo) → ∀ u ∈ (xs.map fun x => cutR x ys).flatten, b < u.lo
  | [], _ => ⟨Nrm.nil, fun z => ⟨fun h => absurd h (hasZ_nil z), fun h => absurd h.1 (hasZ_nil z)⟩, fun b _ u hu => nomatch hu⟩
  | x :: r, hx => by
    have xo := hx.ok x List.mem_cons_self
    obtain ⟨h1, h2, h3⟩ := cutR_spec hy xo.mk
    obtain ⟨h4, h5, h6⟩ := flat_cut hy hx.tail
    rw [List.map_cons, List.flatten_cons]
    refine ⟨nrm_app h1 h4 fun p hp q hq => ?_, fun z => ?_, fun b hb u hu => ?_⟩
    · have := (h3 p hp).2
      have := h6 x.hi (fun t ht => (List.pairwise_cons.1 hx.gap).1 t ht) q hq
      omega
    · rw [hasZ_append, h2 z, h5 z, hasZ_cons]
      constructor
      · rintro (⟨h7, h8⟩ | ⟨h7, h8⟩)
        · exact ⟨.inl ⟨xo, h7⟩, h8⟩
        · exact ⟨.inr h7, h8⟩
      · rintro ⟨h7 | h7, h8⟩
        · exact .inl ⟨h7.2, h8⟩
        · exact .inr ⟨h7, h8⟩
    · rcases List.mem_append.1 hu with hu | hu
      · have := (h3 u hu).1
        have := hb x List.mem_cons_self
        omega
      · exact h6 b (fun t ht => hb t (List.mem_cons_of_mem _ ht)) u hu
theorem minusR_spec (a b : List Sp) : Nrm (minusR a b) ∧ ∀ z, HasZ (minusR a b) z ↔ HasZ a z ∧ ¬ HasZ b z := by
  unfold minusR
  rw [normR_eq, normR_eq]
  obtain ⟨h1, h2, _⟩ := flat_cut (norm_spec b).1 (norm_spec a).1
  refine ⟨h1, fun z => ?_⟩
  rw [h2 z, (norm_spec a).2 z, (norm_spec b).2 z]
theorem minusR_eq (a b : List Sp) : minusR a b = minusF a b :=
  nrm_unique (minusR_spec a b).1 (minus_spec a b).1 fun z => by rw [(minusR_spec a b).2 z, (minus_spec a b).2 z]
theorem commonR_eq (a b : List Sp) : commonR a b = commonF a b :=
  nrm_unique (minusR_spec _ _).1 (norm_spec _).1 fun z => by
    have h1 := (minusR_spec a (minusR a b)).2 z
    rw [(minusR_spec a b).2 z] at h1
    have h2 := common_has a b z
    unfold commonR
    rw [h1]
    refine Iff.trans ?_ h2.symm
    constructor
    · rintro ⟨h3, h4⟩
      exact ⟨h3, Classical.byContradiction fun h5 => h4 ⟨h3, h5⟩⟩
    · rintro ⟨h3, h4⟩
      exact ⟨h3, fun h5 => h5.2 h4⟩
/-! ## Take -/
def takeR : List Sp → Int → List Sp × List Sp
  | [], _ => ([], [])
  | s :: r, n =>
    if s.to - s.fr ≤ n then (s :: (takeR r (n - (s.to - s.fr))).1, (takeR r (n - (s.to - s.fr))).2)
    else if 0 < n then ([⟨s.mark, s.fr, s.fr + n⟩], ⟨s.mark, s.fr + n, s.to⟩ :: r) else ([], s :: r)
theorem takeP_rest {l : List Sp} (h : Nrm l) (z : Int) : HasZ (takeP l 0).2 z ↔ HasZ l z := by
  obtain ⟨c, h1, h2⟩ := takeP_spec 0 h
  rw [h2 z]
  refine ⟨fun h => h.1, fun hz => ⟨hz, ?_⟩⟩
  by_cases hc : c ≤ z
  · exact hc
  · exact absurd ((h1 z).2 ⟨hz, by omega⟩) (takeP_zero h z)
theorem takeR_spec : ∀ {l : List Sp} (n : Int), Nrm l →
    (Nrm (takeR l n).1 ∧ Nrm (takeR l n).2) ∧ (∀ z, HasZ (takeR l n).1 z ↔ HasZ (takeP l n).1 z) ∧ (∀ z, HasZ (takeR l n).2 z ↔ HasZ (takeP l n).2 z) ∧ ∀ b, (∀ t ∈ l, b < t.lo) → (∀ u ∈ (takeR l n).1, b < u.lo)
  | [], n, _ => ⟨⟨Nrm.nil, Nrm.nil⟩, fun z => Iff.rfl, fun z => Iff.rfl, fun b _ u hu => nomatch hu⟩
  | s :: r, n, h => by
    have hs := h.ok s List.mem_cons_self
    have hs' := hs
    unfold Sp.Ok at hs'
    have hl : s.hi - s.lo = s.to - s.fr := by unfold Sp.hi Sp.lo; omega
    unfold takeR takeP
    dsimp only
    by_cases hk : s.to - s.fr ≤ n
    · rw [if_pos hk]
      have e1 : min (max n 0) (s.to - s.fr) = s.to - s.fr := by omega
      have e2 : max n 0 - (s.to - s.fr) = n - (s.to - s.fr) := by omega
      rw [e1, e2]
      obtain ⟨⟨h1, h2⟩, h3, h4, h5⟩ := takeR_spec (n - (s.to - s.fr)) h.tail
      refine ⟨⟨nrm_cons hs h1 (h5 s.hi fun t ht => (List.pairwise_cons.1 h.gap).1 t ht), h2⟩, fun z => ?_, fun z => ?_, fun b hb u hu => ?_⟩
      · dsimp only
        rw [hasZ_cons, hasZ_cons, h3 z, head_has hs (by omega) (Int.le_refl _)]
        constructor
        · rintro (h6 | h6)
          · exact .inl ⟨h6.2.1, by omega⟩
          · exact .inr h6
        · rintro (h6 | h6)
          · exact .inl ⟨hs, h6.1, by omega⟩
          · exact .inr h6
      · dsimp only
        rw [hasZ_cons, h4 z, tail_has hs (by omega) (Int.le_refl _)]
        constructor
        · intro h6; exact .inr h6
        · rintro (h6 | h6)
          · omega
          · exact h6
      · rcases List.mem_cons.1 hu with rfl | hu
        · exact hb _ List.mem_cons_self
        · exact h5 b (fun t ht => hb t (List.mem_cons_of_mem _ ht)) u hu
    · rw [if_neg hk]
      have e1 : min (max n 0) (s.to - s.fr) = max n 0 := by omega
      rw [e1, show max n 0 - max n 0 = 0 by omega]
      by_cases hn : 0 < n
      · rw [if_pos hn, show max n 0 = n by omega]
        have ho1 : (⟨s.mark, s.fr, s.fr + n⟩ : Sp).Ok := by unfold Sp.Ok; dsimp only; omega
        have ho2 : (⟨s.mark, s.fr + n, s.to⟩ : Sp).Ok := by unfold Sp.Ok; dsimp only; omega
        refine ⟨⟨nrm_one ho1, nrm_cons ho2 h.tail fun t ht => (List.pairwise_cons.1 h.gap).1 t ht⟩, fun z => ?_, fun z => ?_, fun b hb u hu => ?_⟩
        · dsimp only
          rw [hasZ_cons, hasZ_cons]
          exact ⟨fun h6 => h6.elim .inl fun h6 => absurd h6 (hasZ_nil z), fun h6 => h6.elim .inl fun h6 => absurd h6 (takeP_zero h.tail z)⟩
        · dsimp only
          rw [hasZ_cons, hasZ_cons, takeP_rest h.tail z]
        · rw [List.mem_singleton.1 hu]
          exact hb s List.mem_cons_self
      · rw [if_neg hn, show max n 0 = 0 by omega]
        refine ⟨⟨Nrm.nil, h⟩, fun z => ?_, fun z => ?_, fun b hb u hu => nomatch hu⟩
        · dsimp only
          rw [hasZ_cons, head_has hs (Int.le_refl _) (by omega)]
          constructor
          · intro h6; exact absurd h6 (hasZ_nil z)
          · rintro (h6 | h6)
            · omega
            · exact absurd h6 (takeP_zero h.tail z)
        · dsimp only
          rw [hasZ_cons, hasZ_cons, takeP_rest h.tail z, tail_has hs (Int.le_refl _) (by omega)]
          constructor
          · rintro (h6 | h6)
            · exact .inl ⟨by omega, h6.2.2⟩
            · exact .inr h6
          · rintro (h6 | h6)
            · exact .inl ⟨hs, by omega, h6.2⟩
            · exact .inr h6
theorem takeR_eq (l : List Sp) (n : Int) : takeR (normR l) n = takeC l n := by
  rw [normR_eq]
  obtain ⟨⟨h1, h2⟩, h3, h4, _⟩ := takeR_spec n (norm_spec l).1
  have e1 : (takeR (normF l) n).1 = (takeC l n).1 := nrm_unique h1 (take_nrm l n).1 fun z => by rw [h3 z]; unfold takeC; exact ((norm_spec _).2 z).symm
  have e2 : (takeR (normF l) n).2 = (takeC l n).2 := nrm_unique h2 (take_nrm l n).2 fun z => by rw [h4 z]; unfold takeC; exact ((norm_spec _).2 z).symm
  exact Prod.ext e1 e2
end Go.Proofs.YtalhmpggpjbeaaaGreatDoor
namespace Go.Proofs.YtalhmpggpjbeaaaGreatDoor
open Go

def toP (n most : Int) : Prop := 0 ≤ n ∧ n ≤ most
instance (n m : Int) : Decidable (toP n m) := by unfold toP; exact inferInstance
def ascTo (l : List Int) (most : Int) : Prop := (∀ x ∈ l, toP x most) ∧ ascP l
instance (l : List Int) (m : Int) : Decidable (ascTo l m) := by unfold ascTo; exact inferInstance
def refR (e : En) : Prop := if e.ref = -1 then 114 ∉ useF e.kind ∨ e.kind = 7 ∨ e.kind = 8 ∨ e.kind = 18 ∨ e.kind = 19 else toP e.ref 1073741824
instance (e : En) : Decidable (refR e) := by unfold refR; exact inferInstance
def nR (e : En) : Prop :=
  if e.kind = 3 ∨ e.kind = 4 then 1 ≤ e.n ∧ e.n ≤ 1048576
  else if e.kind = 8 then (e.n = -1 ∧ e.ref ≠ -1) ∨ (e.ref = -1 ∧ toP e.n 1099511627776)
  else if e.kind = 9 then toP e.n 1099511627776
  else if e.kind = 10 then 1 ≤ e.n ∧ e.n ≤ 1099511627776
  else if e.kind = 12 then toP e.n 1
  else if e.kind = 15 then toP e.n 199 ∧ e.n ≠ e.who
  else toP e.n 1048576
instance (e : En) : Decidable (nR e) := by
  unfold nR
  repeat (first | exact inferInstance | split)
def mR (e : En) : Prop := if e.kind = 16 then toP e.m 1073741824 ∧ e.m ≠ e.circle else toP e.m 1048576
instance (e : En) : Decidable (mR e) := by unfold mR; exact inferInstance
structure RightR (e : En) : Prop where
  author : toP e.author 199
  seq : toP e.seq 1048575
  day : toP e.day 1048576
  kind : toP e.kind 20
  plain : plainP e
  knows : e.knows.length ≤ 40 ∧ ascTo e.knows 1073741824
  circle : toP e.circle 1073741824
  who : toP e.who 199
  text : e.text.length ≤ 2000
  keys : 107 ∈ useF e.kind → 1 ≤ e.keys.length ∧ e.keys.length ≤ 60 ∧ ascTo e.keys 199
  spans : 115 ∈ useF e.kind → 1 ≤ e.spans.length ∧ e.spans.length ≤ 40 ∧ nrmP e.spans
  ref : refR e
  n : nR e
  m : mR e
theorem headD_mem {l : List Int} (h : l ≠ []) : l.headD 0 ∈ l := by
  cases l with
  | nil => exact absurd rfl h
  | cons a r => exact List.mem_cons_self
theorem lastD_mem {l : List Int} (h : l ≠ []) : l.getLastD 0 ∈ l := by
  cases l with
  | nil => exact absurd rfl h
  | cons a r => rw [List.getLastD_cons]; exact List.getLastD_mem_cons
theorem ascTo_iff {l : List Int} {most : Int} (h : l ≠ []) : ascTo l most ↔ ascP l ∧ toP (l.headD 0) most ∧ toP (l.getLastD 0) most := by
  unfold ascTo
  constructor
  · rintro ⟨h1, h2⟩
    exact ⟨h2, h1 _ (headD_mem h), h1 _ (lastD_mem h)⟩
  · rintro ⟨h1, h2, h3⟩
    refine ⟨fun x hx => ?_, h1⟩
    have := asc_between h1 x hx
    unfold toP at *
    omega
theorem kinds {k : Int} (h : 0 ≤ k ∧ k < 21) : k = 0 ∨ k = 1 ∨ k = 2 ∨ k = 3 ∨ k = 4 ∨ k = 5 ∨ k = 6 ∨ k = 7 ∨ k = 8 ∨ k = 9 ∨ k = 10 ∨ k = 11 ∨ k = 12 ∨ k = 13 ∨ k = 14 ∨ k = 15 ∨ k = 16 ∨ k = 17 ∨ k = 18 ∨ k = 19 ∨ k = 20 := by omega
theorem key_use {k : Int} (h : 0 ≤ k ∧ k < 21) : (107 : UInt8) ∈ useF k ↔ (k = 0 ∨ k = 17) := by
  rcases kinds h with rfl | rfl | rfl | rfl | rfl | rfl | rfl | rfl | rfl | rfl | rfl | rfl | rfl | rfl | rfl | rfl | rfl | rfl | rfl | rfl | rfl <;> decide
theorem span_use {k : Int} (h : 0 ≤ k ∧ k < 21) : (115 : UInt8) ∈ useF k ↔ (k = 5 ∨ k = 6 ∨ k = 7) := by
  rcases kinds h with rfl | rfl | rfl | rfl | rfl | rfl | rfl | rfl | rfl | rfl | rfl | rfl | rfl | rfl | rfl | rfl | rfl | rfl | rfl | rfl | rfl <;> decide
theorem ref_use {k : Int} (h : 0 ≤ k ∧ k < 21) : (114 : UInt8) ∈ useF k ↔ (k = 4 ∨ k = 7 ∨ k = 8 ∨ k = 9 ∨ k = 11 ∨ k = 12 ∨ k = 13 ∨ k = 18 ∨ k = 19 ∨ k = 20) := by
  rcases kinds h with rfl | rfl | rfl | rfl | rfl | rfl | rfl | rfl | rfl | rfl | rfl | rfl | rfl | rfl | rfl | rfl | rfl | rfl | rfl | rfl | rfl <;> decide
theorem n_use {k : Int} (h : 0 ≤ k ∧ k < 21) : (110 : UInt8) ∈ useF k ↔ (k = 3 ∨ k = 4 ∨ k = 8 ∨ k = 9 ∨ k = 10 ∨ k = 12 ∨ k = 15 ∨ k = 18 ∨ k = 19 ∨ k = 20) := by
  rcases kinds h with rfl | rfl | rfl | rfl | rfl | rfl | rfl | rfl | rfl | rfl | rfl | rfl | rfl | rfl | rfl | rfl | rfl | rfl | rfl | rfl | rfl <;> decide
theorem m_use {k : Int} (h : 0 ≤ k ∧ k < 21) : (109 : UInt8) ∈ useF k ↔ (k = 3 ∨ k = 6 ∨ k = 7 ∨ k = 8 ∨ k = 10 ∨ k = 16 ∨ k = 18 ∨ k = 19 ∨ k = 20) := by
  rcases kinds h with rfl | rfl | rfl | rfl | rfl | rfl | rfl | rfl | rfl | rfl | rfl | rfl | rfl | rfl | rfl | rfl | rfl | rfl | rfl | rfl | rfl <;> decide
theorem nums_iff {e : En} (hk : 0 ≤ e.kind ∧ e.kind < 21) (hp : plainP e) : numbersP e ↔ refR e ∧ nR e ∧ mR e := by
  obtain ⟨_, _, p3, p4, p5, _⟩ := hp
  rw [n_use hk] at p3
  rw [m_use hk] at p4
  rw [ref_use hk] at p5
  unfold numbersP refR nR mR
  rw [ref_use hk]
  unfold toP markP dayP keyP coinsP
  obtain ⟨au, sq, dy, kn, kind, ci, who, n, m, ref, ks, sp, tx⟩ := e
  dsimp only at *
  rcases kinds hk with rfl | rfl | rfl | rfl | rfl | rfl | rfl | rfl | rfl | rfl | rfl | rfl | rfl | rfl | rfl | rfl | rfl | rfl | rfl | rfl | rfl <;> simp at p3 p4 p5 ⊢ <;> (try subst p3) <;> (try subst p4) <;> (try subst p5) <;> (try simp) <;> (try split) <;> omega
theorem rightR_iff (e : En) : RightR e ↔ RightE e := by
  constructor
  · intro h
    have hk : 0 ≤ e.kind ∧ e.kind < 21 := by have := h.kind; unfold toP at this; omega
    refine ⟨?_, ?_, h.day, hk, h.plain, ⟨h.knows.1, h.knows.2.2, fun hne => ?_⟩, fun h5 => ?_, fun h5 => ?_, h.text, h.circle, ?_, (nums_iff hk h.plain).2 ⟨h.ref, h.n, h.m⟩⟩
    · have := h.author; unfold toP at this; unfold keyP; omega
    · have := h.seq; unfold toP at this; omega
    · obtain ⟨_, h1, h2⟩ := (ascTo_iff hne).1 h.knows.2
      exact ⟨h1, h2⟩
    · obtain ⟨h1, h2, h3⟩ := h.spans ((span_use hk).2 h5)
      exact ⟨List.length_pos_iff.1 h1, h2, h3⟩
    · obtain ⟨h1, h2, h3⟩ := h.keys ((key_use hk).2 h5)
      have hne := List.length_pos_iff.1 h1
      obtain ⟨h4, h6, h7⟩ := (ascTo_iff hne).1 h3
      unfold toP at h6 h7
      refine ⟨hne, h2, h4, ?_, ?_⟩ <;> unfold keyP <;> omega
    · have := h.who; unfold toP at this; unfold keyP; omega
  · intro h
    have hk := h.kind
    obtain ⟨g1, g2, g3⟩ := (nums_iff hk h.plain).1 h.numbers
    refine ⟨?_, ?_, h.day, ?_, h.plain, ⟨h.knows.1, ?_⟩, h.circle, ?_, h.text, fun h5 => ?_, fun h5 => ?_, g1, g2, g3⟩
    · have := h.author; unfold keyP at this; unfold toP; omega
    · have := h.seq; unfold toP; omega
    · unfold toP; omega
    · by_cases hne : e.knows = []
      · rw [hne]; exact ⟨fun x hx => (nomatch hx), trivial⟩
      · obtain ⟨h1, h2⟩ := h.knows.2.2 hne
        exact (ascTo_iff hne).2 ⟨h.knows.2.1, h1, h2⟩
    · have := h.who; unfold keyP at this; unfold toP; omega
    · obtain ⟨h1, h2, h3, h4, h6⟩ := h.keys ((key_use hk).1 h5)
      unfold keyP at h4 h6
      exact ⟨List.length_pos_iff.2 h1, h2, (ascTo_iff h1).2 ⟨h3, by unfold toP; omega, by unfold toP; omega⟩⟩
    · obtain ⟨h1, h2, h3⟩ := h.spans ((span_use hk).1 h5)
      exact ⟨List.length_pos_iff.2 h1, h2, h3⟩
end Go.Proofs.YtalhmpggpjbeaaaGreatDoor
