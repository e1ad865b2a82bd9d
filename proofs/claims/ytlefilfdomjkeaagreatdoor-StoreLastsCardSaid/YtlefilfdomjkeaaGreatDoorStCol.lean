/- Plain bounds of what is put together of the pages of a store. -/
import Derived.Test.YtlefilfdomjkeaaGreatDoorStLive
namespace Go.Proofs.YtlefilfdomjkeaaGreatDoor
open Go

theorem Pg.Good.bytes {p : Pg} (h : p.Good) : p.bytes.length ≤ 64 := by
  have := h.form.2.2
  unfold roomP at this
  split at this <;> omega
structure CsOk (k : Nat) (c : Cs) : Prop where
  num : -1 ≤ c.number ∧ c.number ≤ 1000000
  at_ : c.at_ ≤ 1000000
  text : c.text.length ≤ 64 * k
  recs : c.recs.length ≤ k
  same : c.ats.length = c.recs.length
  ats : ∀ a ∈ c.ats, a ≤ 1000000
  txt : ∀ r ∈ c.recs, r.length ≤ 64 * k
theorem CsOk.wide {k : Nat} {c : Cs} (h : CsOk k c) : CsOk (k + 1) c :=
  ⟨h.num, h.at_, by have := h.text; omega, by have := h.recs; omega, h.same, h.ats, fun r hr => by have := h.txt r hr; omega⟩
theorem CsOk.fin {k first : Nat} {c : Cs} {p : Pg} (h : CsOk (k + 1) c) (hr : c.recs.length ≤ k) : CsOk (k + 1) (finC first c p) := by
  unfold finC
  split
  · split
    · refine ⟨⟨by show (-1 : Int) ≤ -1; omega, by show (-1 : Int) ≤ 1000000; omega⟩, h.at_, h.text, by simp; omega, by simp [h.same], fun a ha => ?_, fun r hr => ?_⟩
      · rcases List.mem_append.1 ha with ha | ha
        · exact h.ats a ha
        · rw [List.mem_singleton.1 ha]; exact h.at_
      · rcases List.mem_append.1 hr with ha | ha
        · exact h.txt r ha
        · rw [List.mem_singleton.1 ha]; exact h.text
    · exact ⟨⟨by show (-1 : Int) ≤ -1; omega, by show (-1 : Int) ≤ 1000000; omega⟩, h.at_, h.text, h.recs, h.same, h.ats, h.txt⟩
  · exact h
theorem CsOk.step {k first : Nat} {c : Cs} {p : Pg} (h : CsOk k c) (hp : p.Good) : CsOk (k + 1) (stepC first c p) := by
  have hb := hp.bytes
  have hn := hp.number
  unfold stepC
  split
  · exact CsOk.fin ⟨⟨by show -1 ≤ (p.number : Int); omega, by show (p.number : Int) ≤ 1000000; omega⟩, hp.pos, by show p.bytes.length ≤ _; omega, h.wide.recs, h.same, h.ats, h.wide.txt⟩ h.recs
  · split
    · exact CsOk.fin ⟨h.num, h.at_, by show (c.text ++ p.bytes).length ≤ _; have := h.text; rw [List.length_append]; omega, h.wide.recs, h.same, h.ats, h.wide.txt⟩ h.recs
    · exact h.wide
theorem csOk_zero : CsOk 0 ⟨-1, 0, [], [], []⟩ := ⟨⟨by decide, by decide⟩, Nat.zero_le _, Nat.zero_le _, Nat.zero_le _, rfl, (fun _ h => nomatch h), fun _ h => nomatch h⟩
/-- What is put together of the first pages. -/
def cumC (first : Nat) (L : List Pg) (k : Nat) : Cs := (L.take k).foldl (stepC first) ⟨-1, 0, [], [], []⟩
theorem cumC_zero (first : Nat) (L : List Pg) : cumC first L 0 = ⟨-1, 0, [], [], []⟩ := rfl
theorem cumC_succ {first : Nat} {L : List Pg} {k : Nat} (h : k < L.length) : cumC first L (k + 1) = stepC first (cumC first L k) L[k] := by
  unfold cumC
  rw [List.take_succ_eq_append_getElem h, List.foldl_append]
  rfl
theorem cumC_all {first : Nat} {L : List Pg} {k : Nat} (h : L.length ≤ k) : cumC first L k = collP first L := by
  unfold cumC collP
  rw [List.take_of_length_le h]
theorem cumC_ok {first : Nat} {L : List Pg} (hL : ∀ p ∈ L, p.Good) : ∀ k, k ≤ L.length → CsOk k (cumC first L k)
  | 0, _ => csOk_zero
  | k + 1, h => by
    rw [cumC_succ (by omega)]
    exact (cumC_ok hL k (by omega)).step (hL _ (List.getElem_mem _))
/-- The ways of a step. -/
theorem stepC_new {first : Nat} {c : Cs} {p : Pg} (h1 : p.kind = 0) (h2 : p.offset = 0) : stepC first c p = finC first { c with number := p.number, at_ := p.pos, text := p.bytes } p := by
  unfold stepC; rw [if_pos ⟨h1, h2⟩]
theorem stepC_on {first : Nat} {c : Cs} {p : Pg} (h1 : p.kind = 0) (h2 : p.offset ≠ 0) (h3 : (p.number : Int) = c.number) (h4 : p.offset = c.text.length) : stepC first c p = finC first { c with text := c.text ++ p.bytes } p := by
  unfold stepC; rw [if_neg (fun h => h2 h.2), if_pos ⟨h1, h3, h4⟩]
theorem stepC_kind {first : Nat} {c : Cs} {p : Pg} (h1 : p.kind ≠ 0) : stepC first c p = c := by
  unfold stepC; rw [if_neg (fun h => h1 h.1), if_neg (fun h => h1 h.1)]
theorem stepC_number {first : Nat} {c : Cs} {p : Pg} (h2 : p.offset ≠ 0) (h3 : ¬ (p.number : Int) = c.number) : stepC first c p = c := by
  unfold stepC; rw [if_neg (fun h => h2 h.2), if_neg (fun h => h3 h.2.1)]
theorem stepC_offset {first : Nat} {c : Cs} {p : Pg} (h2 : p.offset ≠ 0) (h3 : ¬ p.offset = c.text.length) : stepC first c p = c := by
  unfold stepC; rw [if_neg (fun h => h2 h.2), if_neg (fun h => h3 h.2.2)]
theorem finC_more {first : Nat} {c : Cs} {p : Pg} (h : ¬ c.text.length = p.offset + p.rest) : finC first c p = c := by unfold finC; rw [if_neg h]
theorem finC_lost {first : Nat} {c : Cs} {p : Pg} (h : c.text.length = p.offset + p.rest) (h2 : ¬ c.number = ((first + c.recs.length : Nat) : Int)) : finC first c p = { c with number := -1 } := by unfold finC; rw [if_pos h, if_neg h2]
theorem finC_done {first : Nat} {c : Cs} {p : Pg} (h : c.text.length = p.offset + p.rest) (h2 : c.number = ((first + c.recs.length : Nat) : Int)) : finC first c p = ⟨-1, c.at_, c.text, c.recs ++ [c.text], c.ats ++ [c.at_]⟩ := by unfold finC; rw [if_pos h, if_pos h2]
end Go.Proofs.YtlefilfdomjkeaaGreatDoor
