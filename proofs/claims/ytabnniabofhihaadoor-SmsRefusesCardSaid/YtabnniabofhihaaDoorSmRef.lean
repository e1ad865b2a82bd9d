/- What a box refuses changes nothing; what it takes it takes again: the plain law. -/
import Derived.Test.YtabnniabofhihaaDoorSmDel
import Derived.Lib.SlKeysI
namespace Go.Proofs.YtabnniabofhihaaDoor
open Go

/-- The messages' numbers, in their order. -/
def idsF (bx : Bx) : List Int := (bx.map Prod.fst).mergeSort leI
theorem idsF_len (bx : Bx) : (idsF bx).length = bx.length := by unfold idsF; rw [List.length_mergeSort, List.length_map]
theorem idsF_perm (bx : Bx) : (idsF bx).Perm (bx.map Prod.fst) := List.mergeSort_perm _ _
theorem idsF_wf {bx : Bx} (h : BxOk bx) : ∀ x ∈ idsF bx, 0 ≤ x ∧ x ≤ maxMark := fun x hx => by
  obtain ⟨p, hp, rfl⟩ := List.mem_map.1 ((idsF_perm bx).mem_iff.1 hx)
  exact ⟨(h.ms p hp).1, (h.ms p hp).2.1⟩
/-- The number that Part gives. -/
def pidF (s : Bs) : Int := match partF s with | some p => p.id | none => 0
def pcntF (s : Bs) : Int := match partF s with | some p => p.count | none => 0
def perrF (s : Bs) : Int := match partF s with | some _ => 0 | none => 2
theorem takeF_err (bx : Bx) (s : Bs) : (takeF bx s).1 = 2 ↔ perrF s = 2 := by
  unfold takeF perrF
  cases partF s with
  | none => simp
  | some p =>
    dsimp only
    cases bx.lookup p.id with
    | none => dsimp only; split <;> simp
    | some m => dsimp only; split <;> simp
theorem takeF_same {bx : Bx} {s : Bs} (h : (takeF bx s).1 ≠ 0) : (takeF bx s).2 = bx := by
  unfold takeF at h ⊢
  cases hp : partF s with
  | none => rfl
  | some p =>
    rw [hp] at h
    dsimp only at h ⊢
    cases hl : bx.lookup p.id with
    | none =>
      rw [hl] at h
      dsimp only at h ⊢
      split at h
      · rename_i h2; rw [if_pos h2]
      · exact absurd rfl h
    | some m =>
      rw [hl] at h
      dsimp only at h ⊢
      split at h
      · rename_i h2; rw [if_pos h2]
      · exact absurd rfl h
/-- The message of a part that was taken. -/
theorem takeF_ms {bx : Bx} {s : Bs} (h : (takeF bx s).1 = 0) : ∃ p m, partF s = some p ∧ pidF s = p.id ∧ pcntF s = p.count ∧ (takeF bx s).2.lookup p.id = some m ∧ (m.count : Int) = p.count ∧ m.parts.lookup p.index = some p.bytes ∧ 0 ≤ p.index ∧ p.index < p.count ∧
    ((bx.lookup p.id = none) ∨ ∃ m0, bx.lookup p.id = some m0 ∧ (takeF bx s).2 = setM bx p.id (addPart m0 p.index p.bytes) ∧ m = addPart m0 p.index p.bytes ∧ (m0.parts.lookup p.index).getD p.bytes = p.bytes) := by
  cases hp : partF s with
  | none => unfold takeF at h; rw [hp] at h; cases h
  | some p =>
    obtain ⟨⟨_, h2, _⟩, _, h3⟩ := partF_some hp
    unfold takeF at h ⊢
    rw [hp] at h ⊢
    dsimp only at h ⊢
    cases hl : bx.lookup p.id with
    | none =>
      rw [hl] at h
      dsimp only at h ⊢
      split at h
      · cases h
      · rename_i hf
        rw [if_neg hf]
        refine ⟨p, ⟨p.count.toNat, [(p.index, p.bytes)]⟩, rfl, by unfold pidF; rw [hp], by unfold pcntF; rw [hp], by rw [lookup_put, if_pos rfl], by dsimp only; omega, by simp, h3, h2, .inl hl⟩
    | some m0 =>
      rw [hl] at h
      dsimp only at h ⊢
      split at h
      · cases h
      · rename_i hf
        rw [if_neg hf]
        have hc : (m0.count : Int) = p.count := Classical.byContradiction fun e => hf (.inl e)
        have hb : (m0.parts.lookup p.index).getD p.bytes = p.bytes := Classical.byContradiction fun e => hf (.inr e)
        refine ⟨p, addPart m0 p.index p.bytes, rfl, by unfold pidF; rw [hp], by unfold pcntF; rw [hp], by rw [lookup_set _ _ _ _ (by rw [hl]; rfl), if_pos rfl], hc, ?_, h3, h2, .inr ⟨m0, hl, rfl, rfl, hb⟩⟩
        unfold addPart
        dsimp only
        rw [lookup_put, if_pos rfl]
theorem takeF_again {bx : Bx} {s : Bs} (h : (takeF bx s).1 = 0) : (takeF (takeF bx s).2 s).1 = 0 ∧ missF (takeF (takeF bx s).2 s).2 (pidF s) = missF (takeF bx s).2 (pidF s) ∧ (missF (takeF bx s).2 (pidF s)).2 = 0 ∧ ((missF (takeF bx s).2 (pidF s)).1.length : Int) < pcntF s := by
  obtain ⟨p, m, hp, hid, hcnt, hm, hc, hb, hi, hic, _⟩ := takeF_ms h
  generalize (takeF bx s).2 = b1 at *
  have ht : takeF b1 s = (0, setM b1 p.id (addPart m p.index p.bytes)) := by
    unfold takeF
    rw [hp]
    dsimp only
    rw [hm]
    dsimp only
    rw [if_neg]
    rintro (h1 | h1)
    · exact h1 hc
    · rw [hb] at h1; exact h1 rfl
  have hmiss : missF b1 (pidF s) = (missL m, 0) := by unfold missF; rw [hid, hm]
  have hnot : p.index ∉ missL m := fun hx => by
    have := ((missL_iff m p.index).1 hx).2.2
    rw [hb] at this; cases this
  have hadd : missL (addPart m p.index p.bytes) = missL m := by
    unfold missL addPart
    dsimp only
    refine List.filter_congr fun x hx => ?_
    rw [lookup_put]
    by_cases hxi : x = p.index
    · rw [if_pos hxi, hxi, hb]
    · rw [if_neg hxi]
  rw [ht, hmiss]
  refine ⟨rfl, ?_, rfl, ?_⟩
  · unfold missF
    rw [hid]
    dsimp only
    rw [lookup_set _ _ _ _ (by rw [hm]; rfl), if_pos rfl]
    dsimp only
    rw [hadd]
  · rw [hcnt]
    have hall : missL m ≠ (List.range m.count).map fun i : Nat => (i : Int) := fun e => hnot (by rw [e]; exact List.mem_map.2 ⟨p.index.toNat, List.mem_range.2 (by omega), by omega⟩)
    have hle : (missL m).length ≤ m.count := by have := missTo_len m m.count; rwa [missTo_all] at this
    have hne : (missL m).length ≠ m.count := fun e => hall (by
      have hr : ((List.range m.count).map fun i : Nat => (i : Int)).length = m.count := by simp
      unfold missL at e ⊢
      exact List.filter_eq_self.2 (List.length_filter_eq_length_iff.1 (e.trans hr.symm)))
    dsimp only
    omega
theorem allB_congr {m m' : Ms} {n : Nat} (h : ∀ i : Nat, i < n → m.parts.lookup (i : Int) = m'.parts.lookup (i : Int)) : allB m n = allB m' n := by
  unfold allB
  congr 1
  refine List.map_congr_left fun i hi => ?_
  rw [h i (List.mem_range.1 hi)]
/-- A message that is done stays as it is. -/
theorem takeF_done {bx : Bx} {s : Bs} (ho : BxOk bx) (hd : (doneX bx (pidF s)).2 = true) : doneX (takeF bx s).2 (pidF s) = doneX bx (pidF s) := by
  by_cases h : (takeF bx s).1 = 0
  · obtain ⟨p, m, hp, hid, hcnt, hm, hc, hb, hi, hic, hor⟩ := takeF_ms h
    rw [hid] at hd ⊢
    rcases hor with hn | ⟨m0, hl, ht, rfl, hg⟩
    · unfold doneX at hd; rw [hn] at hd; cases hd
    · have hmo := ms_of ho hl
      have hc' : (m0.count : Int) = p.count := hc
      have hfull : ¬ m0.parts.length < m0.count := by
        intro hf
        unfold doneX at hd; rw [hl] at hd; dsimp only at hd; rw [if_pos hf] at hd; cases hd
      have hsome : m0.parts.lookup p.index = some p.bytes := by
        cases hx : m0.parts.lookup p.index with
        | some b => rw [hx] at hg; rw [← hg]; rfl
        | none => exact absurd (pigeon' m0 hmo p.index ⟨hi, by omega⟩ hx) (by omega)
      have hlen : (addPart m0 p.index p.bytes).parts.length = m0.parts.length := by
        unfold addPart; dsimp only; rw [len_put hmo.nodup, hsome]; rfl
      unfold doneX
      rw [hm, hl]
      dsimp only
      rw [hlen, if_neg (show ¬ m0.parts.length < (addPart m0 p.index p.bytes).count from hfull), if_neg hfull]
      have : allB (addPart m0 p.index p.bytes) (addPart m0 p.index p.bytes).count = allB m0 m0.count := by
        show allB (addPart m0 p.index p.bytes) m0.count = _
        refine allB_congr fun i _ => ?_
        unfold addPart
        dsimp only
        rw [lookup_put]
        by_cases hxi : (i : Int) = p.index
        · rw [if_pos hxi, hxi, hsome]
        · rw [if_neg hxi]
      rw [this]
  · rw [takeF_same h]
theorem delM_ok {bx : Bx} (h : BxOk bx) (x : Int) : BxOk (delM bx x) :=
  ⟨nodup_del h.nodup x, Nat.le_trans (List.length_filter_le _ _) h.few, fun p hp => h.ms p (List.mem_filter.1 hp).1⟩
/-- After i of the messages have been forgotten. -/
structure Forg (ids : List Int) (n i : Nat) (bx : Bx) : Prop where
  ok : BxOk bx
  len : bx.length + i = n
  left : ∀ j (h : j < ids.length), i ≤ j → (bx.lookup ids[j]).isSome
theorem Forg.start {bx : Bx} (h : BxOk bx) : Forg (idsF bx) bx.length 0 bx :=
  ⟨h, rfl, fun j hj _ => by
    have hm := (idsF_perm bx).mem_iff.1 (List.getElem_mem hj)
    cases hl : bx.lookup (idsF bx)[j] with
    | some m => rfl
    | none => exact absurd hm (lookup_none_iff.1 hl)⟩
theorem Forg.step {ids : List Int} {n i : Nat} {bx : Bx} (h : Forg ids n i bx) (hn : ids.Nodup) (hi : i < ids.length) : Forg ids n (i + 1) (delM bx ids[i]) ∧ missF (delM bx ids[i]) ids[i] = ([], 4) := by
  have h1 := len_del h.ok.nodup ids[i]
  rw [if_pos (h.left i hi (Nat.le_refl _))] at h1
  refine ⟨⟨delM_ok h.ok _, by have := h.len; omega, fun j hj hij => ?_⟩, ?_⟩
  · rw [lookup_del, if_neg fun e => List.pairwise_iff_getElem.1 hn i j hi hj (by omega) e.symm]
    exact h.left j hj (by omega)
  · unfold missF
    rw [lookup_del, if_pos rfl]
theorem idsF_nodup {bx : Bx} (h : BxOk bx) : (idsF bx).Nodup := (idsF_perm bx).nodup_iff.2 h.nodup
end Go.Proofs.YtabnniabofhihaaDoor
