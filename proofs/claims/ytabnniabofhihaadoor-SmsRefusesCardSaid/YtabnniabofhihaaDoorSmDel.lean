/- What a box says of messages whose parts come in any order: the plain law. -/
import Derived.Test.YtabnniabofhihaaDoorSmGot
namespace Go.Proofs.YtabnniabofhihaaDoor
open Go

/-- The numbers of those that have not come, of the first k. -/
def falseTo (bl : List Bool) (k : Nat) : List Int := ((List.range k).map fun i : Nat => (i : Int)).filter fun i => !(bl[i.toNat]?.getD true)
def falses (bl : List Bool) : List Int := falseTo bl bl.length
theorem falseTo_len (bl : List Bool) (k : Nat) : (falseTo bl k).length ≤ k := by
  unfold falseTo; exact Nat.le_trans (List.length_filter_le _ _) (by simp)
theorem falseTo_mem {bl : List Bool} {k : Nat} {x : Int} (h : x ∈ falseTo bl k) : 0 ≤ x ∧ x < k := by
  obtain ⟨h1, _⟩ := List.mem_filter.1 h
  obtain ⟨i, hi, rfl⟩ := List.mem_map.1 h1
  have := List.mem_range.1 hi
  omega
theorem falseTo_yes {bl : List Bool} {k : Nat} (h : k < bl.length) (hb : bl[k] = true) : falseTo bl (k + 1) = falseTo bl k := by
  unfold falseTo
  rw [List.range_succ, List.map_append, List.filter_append]
  simp [h, hb]
theorem falseTo_no {bl : List Bool} {k : Nat} (h : k < bl.length) (hb : bl[k] = false) : falseTo bl (k + 1) = falseTo bl k ++ [(k : Int)] := by
  unfold falseTo
  rw [List.range_succ, List.map_append, List.filter_append]
  simp [h, hb]
theorem falses_set (bl : List Bool) (n : Nat) : falses (bl.set n true) = (falses bl).filter fun x => decide (x ≠ (n : Int)) := by
  unfold falses falseTo
  rw [List.length_set, List.filter_filter]
  refine List.filter_congr fun x hx => ?_
  obtain ⟨i, hi, rfl⟩ := List.mem_map.1 hx
  have hi := List.mem_range.1 hi
  rw [Int.toNat_natCast, List.getElem?_set]
  by_cases h : n = i
  · subst h; simp [hi]
  · have h2 : ¬ (i : Int) = (n : Int) := by omega
    rw [if_neg h, decide_eq_true h2, Bool.true_and]
theorem falses_iff (bl : List Bool) : (falses bl).length = bl.length ↔ ∀ i (h : i < bl.length), bl[i] = false := by
  have hr : ((List.range bl.length).map fun i : Nat => (i : Int)).length = bl.length := by simp
  unfold falses falseTo
  constructor
  · intro h i hi
    have h2 := List.length_filter_eq_length_iff.1 (h.trans hr.symm) (i : Int) (List.mem_map.2 ⟨i, List.mem_range.2 hi, rfl⟩)
    rw [Int.toNat_natCast, List.getElem?_eq_getElem hi] at h2
    simpa using h2
  · intro h
    refine (List.length_filter_eq_length_iff.2 fun x hx => ?_).trans hr
    obtain ⟨i, hi, rfl⟩ := List.mem_map.1 hx
    have hi := List.mem_range.1 hi
    rw [Int.toNat_natCast, List.getElem?_eq_getElem hi, Option.getD_some, h i hi]
    rfl
theorem falses_all {bl : List Bool} (h : (falses bl).length = bl.length) : falses bl = (List.range bl.length).map fun i : Nat => (i : Int) := by
  have hr : ((List.range bl.length).map fun i : Nat => (i : Int)).length = bl.length := by simp
  unfold falses falseTo at h ⊢
  exact List.filter_eq_self.2 (List.length_filter_eq_length_iff.1 (h.trans hr.symm))
theorem falses_lt {bl : List Bool} {n : Nat} (h : n < bl.length) : (falses (bl.set n true)).length ≠ bl.length := by
  intro e
  have := (falses_iff (bl.set n true)).1 (by rw [List.length_set]; exact e) n (by rw [List.length_set]; exact h)
  simp at this
theorem falses_new (c : Nat) : (falses (List.replicate c false)).length = c := by
  have := (falses_iff (List.replicate c false)).2 fun i h => by simp
  rw [List.length_replicate] at this
  exact this

def upC {α : Type} (g : Nat → α) (k : Nat) (x : α) : Nat → α := fun j => if j = k then x else g j
/-- A box of N messages: of message k there are c k parts, those of f k, and cm k tells which have come. -/
structure BoxSt (bx : Bx) (N : Nat) (c : Nat → Nat) (f : Nat → Nat → Bs) (cm : Nat → List Bool) : Prop where
  keys : ∀ x m, bx.lookup x = some m → 0 ≤ x ∧ x < N
  len : ∀ k, k < N → (cm k).length = c k
  free : ∀ k : Nat, k < N → (falses (cm k)).length = (cm k).length → bx.lookup (k : Int) = none
  part : ∀ k : Nat, k < N → (falses (cm k)).length ≠ (cm k).length → ∃ m, Got bx (k : Int) (c k) (f k) m ∧ missL m = falses (cm k)
theorem BoxSt.start (N : Nat) (c : Nat → Nat) (f : Nat → Nat → Bs) : BoxSt [] N c f fun k => List.replicate (c k) false :=
  ⟨fun x m h => (nomatch (h : (none : Option Ms) = some m)), fun k _ => by simp, fun k _ _ => rfl, fun k _ h => absurd (by rw [falses_new, List.length_replicate]) h⟩
theorem Got.other {bx bx' : Bx} {id : Int} {c : Nat} {f : Nat → Bs} {m : Ms} (h : Got bx id c f m) (e : bx'.lookup id = bx.lookup id) : Got bx' id c f m := ⟨e.trans h.look, h.count, h.part⟩
theorem missL_one (c n : Nat) (b : Bs) : missL ⟨c, [((n : Int), b)]⟩ = ((List.range c).map fun i : Nat => (i : Int)).filter fun x => decide (x ≠ (n : Int)) := by
  unfold missL
  refine List.filter_congr fun x _ => ?_
  dsimp only
  rw [List.lookup_cons]
  by_cases h : x = (n : Int)
  · subst h; simp
  · rw [beq_eq_false_iff_ne.2 h]; simp [h]
theorem BoxSt.take {bx : Bx} {N : Nat} {c : Nat → Nat} {f : Nat → Nat → Bs} {cm : Nat → List Bool} (h : BoxSt bx N c f cm) (ho : BxOk bx) (hN : N ≤ 4) {k n : Nat} (hk : k < N) (hn : n < c k) {s : Bs} (hp : partF s = some ⟨(k : Int), (n : Nat), (c k : Nat), f k n⟩) :
    (takeF bx s).1 = 0 ∧ BoxSt (takeF bx s).2 N c f (upC cm k ((cm k).set n true)) := by
  have hlen := h.len k hk
  have hne := falses_lt (bl := cm k) (n := n) (by omega)
  by_cases hall : (falses (cm k)).length = (cm k).length
  · have hnone := h.free k hk hall
    have hbl : bx.length ≤ N := by
      have := pigeon N (bx.map Prod.fst) ho.nodup fun x hx => by
        obtain ⟨p, hp, rfl⟩ := List.mem_map.1 hx
        exact h.keys p.1 p.2 (mem_lookup ho.nodup hp)
      rwa [List.length_map] at this
    have ht : takeF bx s = (0, putM bx (k : Int) ⟨c k, [((n : Nat), f k n)]⟩) := by
      unfold takeF
      rw [hp]
      dsimp only
      rw [hnone]
      dsimp only
      rw [if_neg (by omega), Int.toNat_natCast]
    rw [ht]
    refine ⟨rfl, fun x m hx => ?_, fun j hj => ?_, fun j hj hf => ?_, fun j hj hf => ?_⟩
    · dsimp only at hx
      rw [lookup_put] at hx
      split at hx
      · omega
      · exact h.keys x m hx
    · unfold upC
      split
      · rename_i e; subst e; rw [List.length_set]; exact hlen
      · exact h.len j hj
    · dsimp only
      unfold upC at hf
      split at hf
      · rename_i e; subst e; rw [List.length_set] at hf; exact absurd hf hne
      · rw [lookup_put, if_neg (by omega)]; exact h.free j hj hf
    · dsimp only
      unfold upC at hf ⊢
      split at hf
      · rename_i e
        subst e
        rw [if_pos rfl]
        refine ⟨⟨c j, [((n : Nat), f j n)]⟩, ⟨by rw [lookup_put, if_pos rfl], rfl, fun i b hb => ?_⟩, ?_⟩
        · have hb : (if (i : Int) == (n : Int) then some (f j n) else none) = some b := by
            rw [← hb]
            dsimp only
            rw [List.lookup_cons]
            cases ((i : Int) == (n : Int)) <;> rfl
          split at hb
          · rename_i h
            have : i = n := by
              have := eq_of_beq h
              omega
            injection hb with hb
            rw [← hb, this]
          · cases hb
        · rw [missL_one, falses_set, falses_all hall, hlen]
      · rename_i e
        rw [if_neg e]
        obtain ⟨m, h1, h2⟩ := h.part j hj hf
        exact ⟨m, h1.other (by rw [lookup_put, if_neg (by omega)]), h2⟩
  · obtain ⟨m, hg, hm⟩ := h.part k hk hall
    obtain ⟨ht, hg'⟩ := take_got hg hp
    rw [ht]
    have hls : (bx.lookup (k : Int)).isSome := by rw [hg.look]; rfl
    refine ⟨rfl, fun x m hx => ?_, fun j hj => ?_, fun j hj hf => ?_, fun j hj hf => ?_⟩
    · dsimp only at hx
      rw [lookup_set _ _ _ _ hls] at hx
      split at hx
      · omega
      · exact h.keys x m hx
    · unfold upC
      split
      · rename_i e; subst e; rw [List.length_set]; exact hlen
      · exact h.len j hj
    · dsimp only
      unfold upC at hf
      split at hf
      · rename_i e; subst e; rw [List.length_set] at hf; exact absurd hf hne
      · rw [lookup_set _ _ _ _ hls, if_neg (by omega)]; exact h.free j hj hf
    · dsimp only
      unfold upC at hf ⊢
      split at hf
      · rename_i e
        subst e
        rw [if_pos rfl]
        exact ⟨_, hg', by rw [missL_add, hm, falses_set]⟩
      · rename_i e
        rw [if_neg e]
        obtain ⟨m, h1, h2⟩ := h.part j hj hf
        exact ⟨m, h1.other (by rw [lookup_set _ _ _ _ hls, if_neg (by omega)]), h2⟩
/-- What has to be said of a message. -/
def Said (bx : Bx) (id : Int) (msg : Bs) (bl : List Bool) : Prop :=
  ((falses bl).length = bl.length ∧ missF bx id = ([], 4) ∧ doneX bx id = ([], false)) ∨
    ((falses bl).length ≠ bl.length ∧ missF bx id = (falses bl, 0) ∧ doneX bx id = if falses bl = [] then (msg, true) else ([], false))
theorem BoxSt.said {bx : Bx} {N : Nat} {c : Nat → Nat} {f : Nat → Nat → Bs} {cm : Nat → List Bool} (h : BoxSt bx N c f cm) (ho : BxOk bx) {k : Nat} (hk : k < N) {msg : Bs} (hm : ((List.range (c k)).map (f k)).flatten = msg) : Said bx (k : Int) msg (cm k) := by
  by_cases hall : (falses (cm k)).length = (cm k).length
  · refine .inl ⟨hall, ?_, ?_⟩
    · unfold missF; rw [h.free k hk hall]
    · unfold doneX; rw [h.free k hk hall]
  · obtain ⟨m, hg, hmm⟩ := h.part k hk hall
    refine .inr ⟨hall, ?_, ?_⟩
    · rw [missF_got hg, hmm]
    · rw [done_got hg (ms_of ho hg.look), hmm, hm]
end Go.Proofs.YtabnniabofhihaaDoor
