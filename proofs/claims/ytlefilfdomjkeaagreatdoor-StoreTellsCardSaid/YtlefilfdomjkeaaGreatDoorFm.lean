/- Maps that are keyed by ints, as lists of keys and values. -/
import Derived.Test.YtlefilfdomjkeaaGreatDoorFw
import Derived.Maps.OwnSet
import Derived.Maps.Views
namespace Go.Proofs.YtlefilfdomjkeaaGreatDoor
open Go.RowKit Go.ChangeShapes Go.WideShapes Go.Deep
open Go.Maps (Keyed int_keyed keyOf_int_mk)

/-- An element reads as itself. -/
def RV : Value → Option (DataW Value × List MemPlace) := fun v => some (.held v, [])

/-- Block b is a map that holds just the keys and the values of l. -/
def MapIs (P : Program) (k : TypeId) (w : World) (b : Nat) (l : List (Int × Value)) : Prop :=
  (l.map Prod.fst).Nodup ∧ ∃ D : DataW Value, w.ownsMap P k RV b l.length D ∧ Maps.size D = l.length ∧
    (∀ x v, l.lookup x = some v → Maps.has D (.int .i64 x) = true ∧ ∀ z, D.atKey (.int .i64 x) z = .held v) ∧ ∀ x, l.lookup x = none → Maps.has D (.int .i64 x) = false

def delM {α : Type} (l : List (Int × α)) (x : Int) : List (Int × α) := l.filter fun p => p.1 != x
def putM {α : Type} (l : List (Int × α)) (x : Int) (v : α) : List (Int × α) := (x, v) :: delM l x

theorem lookup_none_iff {α : Type} {l : List (Int × α)} {x : Int} : l.lookup x = none ↔ x ∉ l.map Prod.fst := by
  induction l with
  | nil => simp
  | cons p r ih =>
    obtain ⟨a, b⟩ := p
    by_cases h : x = a
    · subst h; simp
    · rw [List.lookup_cons, beq_eq_false_iff_ne.2 h, List.map_cons, List.mem_cons, ih]
      simp [h]
theorem lookup_mem {α : Type} {l : List (Int × α)} {x : Int} {v : α} (h : l.lookup x = some v) : (x, v) ∈ l := by
  induction l with
  | nil => cases h
  | cons p r ih =>
    obtain ⟨a, b⟩ := p
    by_cases hx : x = a
    · subst hx
      rw [List.lookup_cons, beq_self_eq_true] at h
      injection h with h
      subst h
      exact List.mem_cons_self
    · rw [List.lookup_cons, beq_eq_false_iff_ne.2 hx] at h
      exact List.mem_cons_of_mem _ (ih h)
theorem mem_lookup {α : Type} {l : List (Int × α)} {x : Int} {v : α} (hn : (l.map Prod.fst).Nodup) (h : (x, v) ∈ l) : l.lookup x = some v := by
  induction l with
  | nil => cases h
  | cons p r ih =>
    obtain ⟨a, b⟩ := p
    rw [List.map_cons, List.nodup_cons] at hn
    rcases List.mem_cons.1 h with h | h
    · cases h; simp
    · have hx : x ≠ a := fun e => hn.1 (by rw [← e]; exact List.mem_map.2 ⟨_, h, rfl⟩)
      rw [List.lookup_cons, beq_eq_false_iff_ne.2 hx]
      exact ih hn.2 h
theorem lookup_del {α : Type} (l : List (Int × α)) (x y : Int) : (delM l x).lookup y = if y = x then none else l.lookup y := by
  unfold delM
  induction l with
  | nil => simp
  | cons p r ih =>
    obtain ⟨a, b⟩ := p
    by_cases hax : a = x
    · subst hax
      rw [List.filter_cons_of_neg (by simp), ih]
      by_cases hy : y = a
      · rw [if_pos hy, if_pos hy]
      · rw [if_neg hy, if_neg hy, List.lookup_cons, beq_eq_false_iff_ne.2 hy]
    · rw [List.filter_cons_of_pos (by simp [hax]), List.lookup_cons, List.lookup_cons, ih]
      by_cases hya : y = a
      · subst hya; simp [hax]
      · rw [beq_eq_false_iff_ne.2 hya]
theorem lookup_put {α : Type} (l : List (Int × α)) (x y : Int) (v : α) : (putM l x v).lookup y = if y = x then some v else l.lookup y := by
  unfold putM
  rw [List.lookup_cons, lookup_del]
  by_cases h : y = x
  · subst h; simp
  · rw [beq_eq_false_iff_ne.2 h, if_neg h]; simp [h]
theorem nodup_del {α : Type} {l : List (Int × α)} (h : (l.map Prod.fst).Nodup) (x : Int) : ((delM l x).map Prod.fst).Nodup :=
  h.sublist (List.filter_sublist.map _)
theorem nodup_put {α : Type} {l : List (Int × α)} (h : (l.map Prod.fst).Nodup) (x : Int) (v : α) : ((putM l x v).map Prod.fst).Nodup := by
  unfold putM
  rw [List.map_cons, List.nodup_cons]
  refine ⟨?_, nodup_del h x⟩
  rw [← lookup_none_iff, lookup_del, if_pos rfl]
theorem len_del {α : Type} {l : List (Int × α)} (h : (l.map Prod.fst).Nodup) (x : Int) : (delM l x).length + (if (l.lookup x).isSome then 1 else 0) = l.length := by
  unfold delM
  induction l with
  | nil => rfl
  | cons p r ih =>
    obtain ⟨a, b⟩ := p
    rw [List.map_cons, List.nodup_cons] at h
    have ih := ih h.2
    by_cases hax : a = x
    · subst hax
      rw [List.filter_cons_of_neg (by simp), List.lookup_cons, beq_self_eq_true]
      rw [lookup_none_iff.2 h.1] at ih
      simp at ih ⊢
      omega
    · rw [List.filter_cons_of_pos (by simp [hax]), List.lookup_cons, beq_eq_false_iff_ne.2 (Ne.symm hax), List.length_cons, List.length_cons]
      dsimp only
      omega
theorem len_put {α : Type} {l : List (Int × α)} (h : (l.map Prod.fst).Nodup) (x : Int) (v : α) : (putM l x v).length = if (l.lookup x).isSome then l.length else l.length + 1 := by
  have := len_del h x
  unfold putM
  rw [List.length_cons]
  split at this <;> rename_i hs <;> simp [hs] <;> omega

section
variable {P : Program} {k e t : TypeId} {w : World} {b : Nat} {l : List (Int × Value)}

theorem owns_size {R : Value → Option (DataW Value × List MemPlace)} {n : Nat} {D : DataW Value} (h : w.ownsMap P k R b n D) : w.ownsMap P k R b (Maps.size D) D := by
  obtain ⟨es, clock, hb, F, _, hD⟩ := h
  have e1 : Maps.size D = es.size := by rw [hD]; simp [Maps.size, length_sorted]
  exact ⟨es, clock, hb, F, by rw [e1]; exact Nat.le_refl _, hD⟩
theorem MapIs.lt (h : MapIs P k w b l) : b < w.heap.size := h.2.elim fun _ h => h.1.lt
theorem MapIs.upd {S : Nat → Prop} {w' : World} (h : MapIs P k w b l) (u : Upd S w w') (hb : ¬ S b) : MapIs P k w' b l := by
  obtain ⟨hn, D, ho, r⟩ := h
  have hlt := ho.lt
  obtain ⟨es, clock, hb', F, hs, hD⟩ := ho
  exact ⟨hn, D, ⟨es, clock, (u.block b hlt hb).trans hb', F, hs, hD⟩, r⟩
theorem MapIs.kept {w' : World} (h : MapIs P k w b l) (e : w'.heap[b]? = w.heap[b]?) : MapIs P k w' b l := by
  obtain ⟨hn, D, ho, r⟩ := h
  obtain ⟨es, clock, hb', F, hs, hD⟩ := ho
  exact ⟨hn, D, ⟨es, clock, e.trans hb', F, hs, hD⟩, r⟩
theorem MapIs.made (w : World) : MapIs P k (w.alloc (.map #[] 0)) w.heap.size [] :=
  ⟨List.nodup_nil, .map [], World.ownsMap_made w P k RV, rfl, fun x v h => (nomatch (h : (none : Option Value) = some v)), fun x _ => rfl⟩

theorem MapIs.get (h : MapIs P k w b l) (hk : P.underlying k = some (.int .i64)) (ht : P.underlying t = some (.map k e)) {z : Value} (hz : (zeroValue e).run P w = .ok z w) {x : Int} (hx : (Lit.int .i64 x).wf = true) :
    (Instr.lookup t (.map (some b)) (.int .i64 x) false).run P w = .ok ((l.lookup x).getD z) w := by
  obtain ⟨_, D, ho, _, h1, h2⟩ := h
  obtain ⟨v, ps, hrun, hv⟩ := ho.lookup (int_keyed hk) ht hz (zd := .held z) rfl (keyOf_int_mk hk hx)
  rw [hrun]
  injection hv with hv
  injection hv with hv _
  cases hl : l.lookup x with
  | none =>
    rw [Maps.atKey_of_not_has (h2 x hl)] at hv
    injection hv with hv
    rw [hv]; rfl
  | some y =>
    rw [(h1 x y hl).2] at hv
    injection hv with hv
    rw [hv]; rfl
theorem MapIs.getOk (h : MapIs P k w b l) (hk : P.underlying k = some (.int .i64)) (ht : P.underlying t = some (.map k e)) {z : Value} (hz : (zeroValue e).run P w = .ok z w) {x : Int} (hx : (Lit.int .i64 x).wf = true) :
    (Instr.lookup t (.map (some b)) (.int .i64 x) true).run P w = .ok (.tuple #[(l.lookup x).getD z, .bool (l.lookup x).isSome]) w := by
  obtain ⟨_, D, ho, _, h1, h2⟩ := h
  obtain ⟨v, ps, hrun, hv⟩ := ho.look_ok (int_keyed hk) ht hz (zd := .held z) rfl (keyOf_int_mk hk hx)
  rw [hrun]
  injection hv with hv
  injection hv with hv _
  cases hl : l.lookup x with
  | none =>
    rw [Maps.atKey_of_not_has (h2 x hl)] at hv
    injection hv with hv
    rw [hv, h2 x hl]; rfl
  | some y =>
    rw [(h1 x y hl).2] at hv
    injection hv with hv
    rw [hv, (h1 x y hl).1]; rfl
theorem MapIs.len (h : MapIs P k w b l) (ht : P.underlying t = some (.map k e)) (ty : TypeId) : (Builtin.len_ #[t] ty #[.map (some b)]).run P w = .ok (.int .i64 l.length) w := by
  obtain ⟨_, D, ho, hs, _⟩ := h
  rw [ho.len ht ty, hs]
theorem MapIs.put (h : MapIs P k w b l) (hk : P.underlying k = some (.int .i64)) (ht : P.underlying t = some (.map k e)) (hn : l.length < maxLen) {x : Int} (hx : (Lit.int .i64 x).wf = true) (v : Value) :
    ∃ w', (Instr.mapUpdate t (.map (some b)) (.int .i64 x) v).run P w = .ok () w' ∧ MapIs P k w' b (putM l x v) ∧ Upd (· = b) w w' := by
  obtain ⟨hnd, D, ho, hs, h1, h2⟩ := h
  have K := int_keyed hk
  have hkey := keyOf_int_mk hk hx
  obtain ⟨w', hrun, ho', ht'⟩ := ho.store K ht hn (d := .held v) (ps := []) (val := v) hkey rfl
  have hasx : Maps.has D (.int .i64 x) = (l.lookup x).isSome := by
    cases hl : l.lookup x with
    | none => rw [h2 x hl]; rfl
    | some y => rw [(h1 x y hl).1]; rfl
  have hs' : Maps.size (D.put (.int .i64 x) (.held v)) = (putM l x v).length := by
    rw [Maps.size_put (ho.tidy K), len_put hnd, hasx, hs]
  refine ⟨w', hrun, ⟨nodup_put hnd x v, _, by rw [← hs']; exact owns_size ho', hs', fun y u hy => ?_, fun y hy => ?_⟩, (Upd.refl (· = b) w).grown ht'.grown fun i hi => .inl (by injection hi with hi; exact hi.symm)⟩
  · rw [lookup_put] at hy
    by_cases hyx : y = x
    · subst hyx
      rw [if_pos rfl] at hy
      injection hy with hy
      subst hy
      exact ⟨Maps.has_put_same ho.isMap (K.key hkey) _, fun z => Maps.atKey_put_same ho.isMap (K.key hkey) _ z⟩
    · rw [if_neg hyx] at hy
      have hne : Lit.int .i64 y ≠ Lit.int .i64 x := fun e => hyx (by injection e)
      exact ⟨by rw [Maps.has_put_other hne]; exact (h1 y u hy).1, fun z => by rw [Maps.atKey_put_other hne]; exact (h1 y u hy).2 z⟩
  · rw [lookup_put] at hy
    by_cases hyx : y = x
    · rw [if_pos hyx] at hy; cases hy
    · rw [if_neg hyx] at hy
      have hne : Lit.int .i64 y ≠ Lit.int .i64 x := fun e => hyx (by injection e)
      rw [Maps.has_put_other hne]; exact h2 y hy
theorem MapIs.del (h : MapIs P k w b l) (hk : P.underlying k = some (.int .i64)) (ht : P.underlying t = some (.map k e)) {x : Int} (hx : (Lit.int .i64 x).wf = true) (ty : TypeId) :
    ∃ w', (Builtin.delete_ #[t, k] ty #[.map (some b), .int .i64 x]).run P w = .ok (.tuple #[]) w' ∧ MapIs P k w' b (delM l x) ∧ Upd (· = b) w w' := by
  obtain ⟨hnd, D, ho, hs, h1, h2⟩ := h
  have K := int_keyed hk
  have hkey := keyOf_int_mk hk hx
  obtain ⟨w', hrun, ho', ht'⟩ := ho.drop K ht hkey ty
  have hasx : Maps.has D (.int .i64 x) = (l.lookup x).isSome := by
    cases hl : l.lookup x with
    | none => rw [h2 x hl]; rfl
    | some y => rw [(h1 x y hl).1]; rfl
  have hs' : Maps.size (D.del (.int .i64 x)) = (delM l x).length := by
    have h3 := Maps.size_del (k := .int .i64 x) (ho.tidy K)
    have h4 := len_del hnd x
    rw [hasx] at h3
    split at h4 <;> rename_i hc <;> simp [hc] at h3 <;> omega
  refine ⟨w', hrun, ⟨nodup_del hnd x, _, by rw [← hs']; exact owns_size ho', hs', fun y u hy => ?_, fun y hy => ?_⟩, (Upd.refl (· = b) w).grown ht'.grown fun i hi => .inl (by injection hi with hi; exact hi.symm)⟩
  · rw [lookup_del] at hy
    by_cases hyx : y = x
    · rw [if_pos hyx] at hy; cases hy
    · rw [if_neg hyx] at hy
      have hne : Lit.int .i64 y ≠ Lit.int .i64 x := fun e => hyx (by injection e)
      exact ⟨by rw [Maps.has_del_other hne]; exact (h1 y u hy).1, fun z => by rw [Maps.atKey_del_other hne]; exact (h1 y u hy).2 z⟩
  · rw [lookup_del] at hy
    by_cases hyx : y = x
    · subst hyx; exact Maps.has_del_same
    · rw [if_neg hyx] at hy
      have hne : Lit.int .i64 y ≠ Lit.int .i64 x := fun e => hyx (by injection e)
      rw [Maps.has_del_other hne]; exact h2 y hy
end
end Go.Proofs.YtlefilfdomjkeaaGreatDoor
