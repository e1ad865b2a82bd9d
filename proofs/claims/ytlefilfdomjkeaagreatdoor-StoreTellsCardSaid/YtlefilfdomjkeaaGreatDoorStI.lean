/- Plain bounds of what is put together of the pages of a store. -/
/- Two rows of a store, which are appended to one after the other. -/
import Derived.Test.YtlefilfdomjkeaaGreatDoorStLive
import Derived.Test.YtlefilfdomjkeaaGreatDoorStH
import Derived.Test.YtlefilfdomjkeaaGreatDoorFm
namespace Go.Proofs.YtlefilfdomjkeaaGreatDoor
open Go

theorem Pg.Good.bytes {p : Pg} (h : p.Good) : p.bytes.length ≤ 64 := by
  have := h.form.2.2
  unfold roomP at this
  split at this <;> omega
structure CsOk (k : Nat) (c : Cs) : Prop where
  num : -1 ≤ c.number ∧ c.number ≤ 1000000
  at_ : c.at_ ≤ 1000000
  text : c.text.length ≤ 64 * k
  recs : c.recs.length ≤ k
  same : c.ats.length = c.recs.length
  ats : ∀ a ∈ c.ats, a ≤ 1000000
  txt : ∀ r ∈ c.recs, r.length ≤ 64 * k
theorem CsOk.wide {k : Nat} {c : Cs} (h : CsOk k c) : CsOk (k + 1) c :=
  ⟨h.num, h.at_, by have := h.text; omega, by have := h.recs; omega, h.same, h.ats, fun r hr => by have := h.txt r hr; omega⟩
theorem CsOk.fin {k first : Nat} {c : Cs} {p : Pg} (h : CsOk (k + 1) c) (hr : c.recs.length ≤ k) : CsOk (k + 1) (finC first c p) := by
  unfold finC
  split
  · split
    · refine ⟨⟨by show (-1 : Int) ≤ -1; omega, by show (-1 : Int) ≤ 1000000; omega⟩, h.at_, h.text, by simp; omega, by simp [h.same], fun a ha => ?_, fun r hr => ?_⟩
      · rcases List.mem_append.1 ha with ha | ha
        · exact h.ats a ha
        · rw [List.mem_singleton.1 ha]; exact h.at_
      · rcases List.mem_append.1 hr with ha | ha
        · exact h.txt r ha
        · rw [List.mem_singleton.1 ha]; exact h.text
    · exact ⟨⟨by show (-1 : Int) ≤ -1; omega, by show (-1 : Int) ≤ 1000000; omega⟩, h.at_, h.text, h.recs, h.same, h.ats, h.txt⟩
  · exact h
theorem CsOk.step {k first : Nat} {c : Cs} {p : Pg} (h : CsOk k c) (hp : p.Good) : CsOk (k + 1) (stepC first c p) := by
  have hb := hp.bytes
  have hn := hp.number
  unfold stepC
  split
  · exact CsOk.fin ⟨⟨by show -1 ≤ (p.number : Int); omega, by show (p.number : Int) ≤ 1000000; omega⟩, hp.pos, by show p.bytes.length ≤ _; omega, h.wide.recs, h.same, h.ats, h.wide.txt⟩ h.recs
  · split
    · exact CsOk.fin ⟨h.num, h.at_, by show (c.text ++ p.bytes).length ≤ _; have := h.text; rw [List.length_append]; omega, h.wide.recs, h.same, h.ats, h.wide.txt⟩ h.recs
    · exact h.wide
theorem csOk_zero : CsOk 0 ⟨-1, 0, [], [], []⟩ := ⟨⟨by decide, by decide⟩, Nat.zero_le _, Nat.zero_le _, Nat.zero_le _, rfl, (fun _ h => nomatch h), fun _ h => nomatch h⟩
/-- What is put together of the first pages. -/
def cumC (first : Nat) (L : List Pg) (k : Nat) : Cs := (L.take k).foldl (stepC first) ⟨-1, 0, [], [], []⟩
theorem cumC_zero (first : Nat) (L : List Pg) : cumC first L 0 = ⟨-1, 0, [], [], []⟩ := rfl
theorem cumC_succ {first : Nat} {L : List Pg} {k : Nat} (h : k < L.length) : cumC first L (k + 1) = stepC first (cumC first L k) L[k] := by
  unfold cumC
  rw [List.take_succ_eq_append_getElem h, List.foldl_append]
  rfl
theorem cumC_all {first : Nat} {L : List Pg} {k : Nat} (h : L.length ≤ k) : cumC first L k = collP first L := by
  unfold cumC collP
  rw [List.take_of_length_le h]
theorem cumC_ok {first : Nat} {L : List Pg} (hL : ∀ p ∈ L, p.Good) : ∀ k, k ≤ L.length → CsOk k (cumC first L k)
  | 0, _ => csOk_zero
  | k + 1, h => by
    rw [cumC_succ (by omega)]
    exact (cumC_ok hL k (by omega)).step (hL _ (List.getElem_mem _))
/-- The ways of a step. -/
theorem stepC_new {first : Nat} {c : Cs} {p : Pg} (h1 : p.kind = 0) (h2 : p.offset = 0) : stepC first c p = finC first { c with number := p.number, at_ := p.pos, text := p.bytes } p := by
  unfold stepC; rw [if_pos ⟨h1, h2⟩]
theorem stepC_on {first : Nat} {c : Cs} {p : Pg} (h1 : p.kind = 0) (h2 : p.offset ≠ 0) (h3 : (p.number : Int) = c.number) (h4 : p.offset = c.text.length) : stepC first c p = finC first { c with text := c.text ++ p.bytes } p := by
  unfold stepC; rw [if_neg (fun h => h2 h.2), if_pos ⟨h1, h3, h4⟩]
theorem stepC_kind {first : Nat} {c : Cs} {p : Pg} (h1 : p.kind ≠ 0) : stepC first c p = c := by
  unfold stepC; rw [if_neg (fun h => h1 h.1), if_neg (fun h => h1 h.1)]
theorem stepC_number {first : Nat} {c : Cs} {p : Pg} (h2 : p.offset ≠ 0) (h3 : ¬ (p.number : Int) = c.number) : stepC first c p = c := by
  unfold stepC; rw [if_neg (fun h => h2 h.2), if_neg (fun h => h3 h.2.1)]
theorem stepC_offset {first : Nat} {c : Cs} {p : Pg} (h2 : p.offset ≠ 0) (h3 : ¬ p.offset = c.text.length) : stepC first c p = c := by
  unfold stepC; rw [if_neg (fun h => h2 h.2), if_neg (fun h => h3 h.2.2)]
theorem finC_more {first : Nat} {c : Cs} {p : Pg} (h : ¬ c.text.length = p.offset + p.rest) : finC first c p = c := by unfold finC; rw [if_neg h]
theorem finC_lost {first : Nat} {c : Cs} {p : Pg} (h : c.text.length = p.offset + p.rest) (h2 : ¬ c.number = ((first + c.recs.length : Nat) : Int)) : finC first c p = { c with number := -1 } := by unfold finC; rw [if_pos h, if_neg h2]
theorem finC_done {first : Nat} {c : Cs} {p : Pg} (h : c.text.length = p.offset + p.rest) (h2 : c.number = ((first + c.recs.length : Nat) : Int)) : finC first c p = ⟨-1, c.at_, c.text, c.recs ++ [c.text], c.ats ++ [c.at_]⟩ := by unfold finC; rw [if_pos h, if_pos h2]
end Go.Proofs.YtlefilfdomjkeaaGreatDoor
namespace Go.Proofs.YtlefilfdomjkeaaGreatDoor
open Go.RowKit Go.Deep

/-- From w, where the store was, rows have come: v1 has l1, v2 has l2; the store's own cells, and its flash, are as they were. -/
structure RowsOf (O : Nat → Prop) (w : World) (x p q : Nat) (F : Fl) (v1 : Value) (l1 : List (List UInt8)) (v2 : Value) (l2 : List Nat) (w' : World) : Prop where
  sto : Sto O w w'
  hx : w'.heap[x]? = w.heap[x]?
  fl : FlashAt w' p q F
  o1 : OwnS w' v1 l1
  n1 : ∀ g, v1.ownBlock = some g → O g ∨ w.heap.size ≤ g
  o2 : OwnN w' v2 l2
  n2 : ∀ g, v2.ownBlock = some g → O g ∨ w.heap.size ≤ g
section
variable {w : World} {O : Nat → Prop} {x p q : Nat} {F : Fl} {S : St} {vr va : Value}
theorem StoreAt.rowsOf (h : StoreAt w O x p q F S vr va) : RowsOf O w x p q F vr S.recs va S.ats w :=
  ⟨Sto.refl _ _, rfl, h.flash, h.recs, fun g hg => .inl (h.ovr g hg), h.ats, fun g hg => .inl (h.ova g hg)⟩
theorem StoreAt.cells_of (h : StoreAt w O x p q F S vr va) {w' : World} (e : w'.heap[x]? = w.heap[x]?) : w'.cell? ⟨x, 5, none⟩ = some vr ∧ w'.cell? ⟨x, 6, none⟩ = some va :=
  ⟨cell_kept h.cells.1.2.2.2.2.2.1 e, cell_kept h.cells.1.2.2.2.2.2.2 e⟩
variable {v1 v2 : Value} {l1 : List (List UInt8)} {l2 : List Nat} {w' : World}
theorem RowsOf.upd0 (h : RowsOf O w x p q F v1 l1 v2 l2 w') (hxl : x < w.heap.size) {w2 : World} (u : Upd (fun _ => False) w' w2) : RowsOf O w x p q F v1 l1 v2 l2 w2 :=
  ⟨h.sto.then0 u, (u.block x (Nat.lt_of_lt_of_le hxl h.sto.size) id).trans h.hx, h.fl.upd u id id (fun _ h => h.elim), Own1.upd h.o1 u fun _ _ => id, h.n1, Own1.upd h.o2 u fun _ _ => id, h.n2⟩
theorem own_grown {v : Value} {T : Nat → Prop} (hn : ∀ g, v.ownBlock = some g → O g ∨ w.heap.size ≤ g) (sto : Sto O w w') {w2 : World} (u : Upd (fun k => v.ownBlock = some k ∧ Big w' k) w' w2) : Sto O w w2 :=
  sto.trans (O' := fun k => v.ownBlock = some k) (u.mono fun _ hk => ⟨hk.1, hk.2.noStr⟩) fun i hi => hn i hi
/-- A string is appended. -/
theorem RowsOf.app1 (h : RowsOf O w x p q F v1 l1 v2 l2 w') (hxl : w.heap[x]? = some (.cells (stC p F S vr va) 72 (0, 0))) (t : List UInt8) (hl : l1.length + 1 ≤ 1000000) (ty : TypeId) {b : Nat} {fr : Nat × Nat} (hb : w'.heap[b]? = some (.cells #[strV t] 9 fr)) :
    ∃ a' c' w2, (Builtin.append_ #[50, 50] ty #[v1, .slice (some ⟨b, 0, none⟩) 1 1]).run Tryz.prog w' = .ok (.slice a' (l1.length + 1) c') w2 ∧ RowsOf O w x p q F (.slice a' (l1.length + 1) c') (l1 ++ [t]) v2 l2 w2 ∧ ∀ (k : Nat) (c : Array Value), w'.heap[k]? = some (.cells c 3 (0, 0)) → w2.heap[k]? = some (.cells c 3 (0, 0)) := by
  obtain ⟨v', w2, r, o, u, n⟩ := Own1.app elemS h.o1 (strV t) rfl hl (by decide) ty hb
  obtain ⟨a', c', rfl, _, _⟩ := o.fits
  have hx' : w'.heap[x]? = some (.cells (stC p F S vr va) 72 (0, 0)) := h.hx.trans hxl
  obtain ⟨cap, f1⟩ := h.fl.head
  obtain ⟨cs, f2, _⟩ := h.fl.rows
  refine ⟨a', c', w2, r, ⟨own_grown (T := fun _ => False) h.n1 h.sto u, (u.block x (heap_lt hx') fun e => own_ne h.o1 hx' (by decide) x e.1 rfl).trans h.hx, h.fl.upd u (fun e => own_ne h.o1 f1 (by decide) p e.1 rfl) (fun e => own_ne h.o1 f2 (by decide) q e.1 rfl) (fun k hk => hk.2.noStr), ?_, ?_, ?_, h.n2⟩, ?_⟩
  · unfold OwnS; rw [List.length_append, List.map_append]; exact o
  · intro g hg
    rcases n with n | ⟨g', n, hs⟩
    · exact h.n1 g (by rw [← n]; exact hg)
    · rw [hg] at n; injection n with n; subst n; exact .inr (Nat.le_trans h.sto.size hs)
  · refine Own1.upd h.o2 u fun g hg e => ?_
    rcases ownsRow_fits h.o2.own with ⟨rfl, _⟩ | ⟨g', cap', rfl, _⟩
    · cases hg
    · injection hg with hg
      subst hg
      obtain ⟨_, ⟨e0, _⟩ | ⟨g2, c2, cur, e0, _, hb2, _⟩⟩ := h.o2.own
      · injection e0 with e0 _ _; cases e0
      · injection e0 with e0 _ _
        injection e0 with e0
        injection e0 with e0 _ _
        subst e0
        exact own_ne h.o1 hb2 (by decide) _ e.1 rfl
  · intro k c hk
    exact (u.block k (heap_lt hk) fun e => own_ne h.o1 hk (by decide) k e.1 rfl).trans hk
/-- A number is appended. -/
theorem RowsOf.app2 (h : RowsOf O w x p q F v1 l1 v2 l2 w') (hxl : w.heap[x]? = some (.cells (stC p F S vr va) 72 (0, 0))) (t : Nat) (hl : l2.length + 1 ≤ 1000000) (ty : TypeId) {b : Nat} {fr : Nat × Nat} (hb : w'.heap[b]? = some (.cells #[natV t] 3 fr)) :
    ∃ a' c' w2, (Builtin.append_ #[51, 51] ty #[v2, .slice (some ⟨b, 0, none⟩) 1 1]).run Tryz.prog w' = .ok (.slice a' (l2.length + 1) c') w2 ∧ RowsOf O w x p q F v1 l1 (.slice a' (l2.length + 1) c') (l2 ++ [t]) w2 := by
  obtain ⟨v', w2, r, o, u, n⟩ := Own1.app elemI h.o2 (natV t) rfl hl (by decide) ty hb
  obtain ⟨a', c', rfl, _, _⟩ := o.fits
  have hx' : w'.heap[x]? = some (.cells (stC p F S vr va) 72 (0, 0)) := h.hx.trans hxl
  obtain ⟨cap, f1⟩ := h.fl.head
  obtain ⟨cs, f2, _⟩ := h.fl.rows
  refine ⟨a', c', w2, r, ⟨own_grown (T := fun _ => False) h.n2 h.sto u, (u.block x (heap_lt hx') fun e => own_ne h.o2 hx' (by decide) x e.1 rfl).trans h.hx, h.fl.upd u (fun e => own_ne h.o2 f1 (by decide) p e.1 rfl) (fun e => own_ne h.o2 f2 (by decide) q e.1 rfl) (fun k hk => hk.2.noStr), ?_, h.n1, ?_, ?_⟩⟩
  · refine Own1.upd h.o1 u fun g hg e => ?_
    rcases ownsRow_fits h.o1.own with ⟨rfl, _⟩ | ⟨g', cap', rfl, _⟩
    · cases hg
    · injection hg with hg
      subst hg
      obtain ⟨_, ⟨e0, _⟩ | ⟨g2, c2, cur, e0, _, hb2, _⟩⟩ := h.o1.own
      · injection e0 with e0 _ _; cases e0
      · injection e0 with e0 _ _
        injection e0 with e0
        injection e0 with e0 _ _
        subst e0
        exact own_ne h.o2 hb2 (by decide) _ e.1 rfl
  · unfold OwnN; rw [List.length_append, List.map_append]; exact o
  · intro g hg
    rcases n with n | ⟨g', n, hs⟩
    · exact h.n2 g (by rw [← n]; exact hg)
    · rw [hg] at n; injection n with n; subst n; exact .inr (Nat.le_trans h.sto.size hs)
/-- Both rows are stored. -/
theorem RowsOf.stored (h : RowsOf O w x p q F v1 l1 v2 l2 w') (st : StoreAt w O x p q F S vr va) :
    (∃ O', StoreAt ((w'.setCell ⟨x, 5, none⟩ v1).setCell ⟨x, 6, none⟩ v2) O' x p q F { S with recs := l1, ats := l2 } v1 v2 ∧ ∀ k, O' k → O k ∨ w.heap.size ≤ k) ∧ Sto O w ((w'.setCell ⟨x, 5, none⟩ v1).setCell ⟨x, 6, none⟩ v2) :=
  StoreAt.rows st h.sto h.hx h.fl h.o1 h.n1 h.o2 h.n2
end
end Go.Proofs.YtlefilfdomjkeaaGreatDoor
