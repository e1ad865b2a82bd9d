/- What is asked for, and what a request gives: plain lists. -/
import Derived.Test.YtabnniabofhihaaDoorSmResume
import Derived.Test.YtabnniabofhihaaDoorSmAsk
namespace Go.Proofs.YtabnniabofhihaaDoor
open Go

/-- The numbers that are asked for. -/
def askR (id : Int) (l : List Int) : List Int → List Int
  | [] => l
  | x :: r =>
    if (numE id ++ numsE (l ++ [x, (runTo x r).1 + 1])).length > 140 then l
    else askR id (l ++ [x, (runTo x r).1 + 1]) (runTo x r).2
termination_by ms => ms.length
decreasing_by exact Nat.lt_succ_of_le (runTo_len x r)
theorem askL_eq (id : Int) : ∀ (k : Nat) (ms l : List Int), ms.length ≤ k → askL id l (numE id ++ numsE l) ms = numE id ++ numsE (askR id l ms)
  | _, [], l, _ => by rw [askL, askR]
  | 0, x :: r, l, h => by simp at h
  | k + 1, x :: r, l, h => by
    rw [askL, askR]
    split
    · rfl
    · exact askL_eq id k _ _ (by have := runTo_len x r; simp at h; omega)
/-- Numbers that go up by one. -/
def span (x : Int) : Nat → List Int
  | 0 => []
  | k + 1 => x :: span (x + 1) k
theorem runTo_span : ∀ (r : List Int) (x : Int), ∃ k : Nat, (runTo x r).1 = x + (k : Int) ∧ x :: r = span x (k + 1) ++ (runTo x r).2
  | [], x => ⟨0, by simp [runTo], rfl⟩
  | y :: r, x => by
    unfold runTo
    split
    · rename_i hy
      subst hy
      obtain ⟨k, h1, h2⟩ := runTo_span r (x + 1)
      refine ⟨k + 1, by rw [h1]; omega, ?_⟩
      rw [h2]; rfl
    · exact ⟨0, by simp, rfl⟩
/-- Ascending. -/
def Asc (l : List Int) : Prop := l.Pairwise (· < ·)
theorem drop_span {α : Type} (parts : List α) : ∀ (k : Nat) (x : Nat), x + k ≤ parts.length → (parts.drop x).take k = ((List.range k).map fun i => parts[x + i]?).filterMap id
  | 0, x, _ => by simp
  | k + 1, x, h => by
    rw [List.drop_eq_getElem_cons (by omega), List.take_succ_cons, drop_span parts k (x + 1) (by omega), List.range_succ_eq_map, List.map_cons, List.map_map]
    rw [List.filterMap_cons]
    simp only [Nat.add_zero, List.getElem?_eq_getElem (show x < parts.length by omega), id]
    congr 1
    congr 1
    refine List.map_congr_left fun i _ => ?_
    simp only [Function.comp]
    congr 1
    omega
def pick {α : Type} (parts : List α) (ms : List Int) : List α := ms.filterMap fun i => parts[i.toNat]?
theorem pick_append {α : Type} (parts : List α) (a b : List Int) : pick parts (a ++ b) = pick parts a ++ pick parts b := List.filterMap_append
theorem pick_span {α : Type} (parts : List α) : ∀ (k x : Nat), x + k ≤ parts.length → pick parts (span (x : Int) k) = (parts.drop x).take k
  | 0, x, _ => by simp [pick, span]
  | k + 1, x, h => by
    have h1 := pick_span parts k (x + 1) (by omega)
    unfold pick at h1 ⊢
    rw [span, List.filterMap_cons]
    have e : ((x : Int) + 1) = ((x + 1 : Nat) : Int) := by omega
    rw [Int.toNat_natCast, List.getElem?_eq_getElem (show x < parts.length by omega)]
    dsimp only
    rw [e, h1, List.drop_eq_getElem_cons (show x < parts.length by omega), List.take_succ_cons]
/-- What is asked for are the first of the missing ones. -/
theorem askR_sel {α : Type} (parts : List α) (id : Int) : ∀ (k : Nat) (ms l : List Int), ms.length ≤ k → l.length % 2 = 0 → (∀ x ∈ ms, 0 ≤ x ∧ x < parts.length) →
    ∃ n : Nat, sel parts (askR id l ms) = sel parts l ++ pick parts (ms.take n)
  | _, [], l, _, _, _ => ⟨0, by rw [askR]; simp [pick]⟩
  | 0, x :: r, l, h, _, _ => by simp at h
  | k + 1, x :: r, l, h, hl, hm => by
    rw [askR]
    split
    · exact ⟨0, by simp [pick]⟩
    · obtain ⟨j, h1, h2⟩ := runTo_span r x
      have hlen := runTo_len x r
      obtain ⟨n, hn⟩ := askR_sel parts id k (runTo x r).2 (l ++ [x, (runTo x r).1 + 1]) (by simp at h; omega) (by rw [List.length_append]; simp; omega) fun y hy => hm y (by rw [h2]; exact List.mem_append_right _ hy)
      refine ⟨j + 1 + n, ?_⟩
      have hx := hm x List.mem_cons_self
      obtain ⟨xn, rfl⟩ := Int.eq_ofNat_of_zero_le hx.1
      have hsl : (span (xn : Int) (j + 1)).length = j + 1 := by
        have : ∀ (k : Nat) (x : Int), (span x k).length = k := by
          intro k
          induction k with
          | zero => intro x; rfl
          | succ k ih => intro x; rw [span, List.length_cons, ih]
        exact this _ _
      have hlast : xn + (j + 1) ≤ parts.length := by
        have hmem : ((xn : Int) + j) ∈ span (xn : Int) (j + 1) := by
          have : ∀ (k : Nat) (x : Int), x + (k : Int) ∈ span x (k + 1) := by
            intro k
            induction k with
            | zero => intro x; simp [span]
            | succ k ih =>
              intro x
              rw [span]
              refine List.mem_cons_of_mem _ ?_
              have := ih (x + 1)
              rw [show x + ((k + 1 : Nat) : Int) = x + 1 + k by omega]
              exact this
          exact this j xn
        have := hm _ (by rw [h2]; exact List.mem_append_left _ hmem)
        omega
      have e3 : (span (xn : Int) (j + 1)).take (j + 1 + n) = span (xn : Int) (j + 1) := List.take_of_length_le (by rw [hsl]; omega)
      rw [hn, sel_snoc parts _ _ (l.length / 2) l (by omega), h2, List.take_append, hsl, Nat.add_sub_cancel_left, e3, pick_append, pick_span parts (j + 1) xn hlast, h1, List.append_assoc]
      rw [show ((xn : Int) + j + 1).toNat - (xn : Int).toNat = j + 1 by omega, Int.toNat_natCast]
theorem runTo_rest : ∀ (r : List Int) (x : Int), Asc (x :: r) → ∀ z ∈ (runTo x r).2, (runTo x r).1 + 1 < z
  | [], x, _, z, hz => by unfold runTo at hz; exact nomatch hz
  | y :: r, x, h, z, hz => by
    unfold Asc at h
    rw [List.pairwise_cons] at h
    unfold runTo at hz ⊢
    split at hz
    · rename_i hy
      rw [if_pos hy]
      exact runTo_rest r y h.2 z hz
    · rename_i hy
      rw [if_neg hy]
      dsimp only
      have h1 := h.1 y List.mem_cons_self
      rcases List.mem_cons.1 hz with rfl | hz
      · omega
      · have := (List.pairwise_cons.1 h.2).1 z hz
        omega
theorem runTo_asc : ∀ (r : List Int) (x : Int), Asc (x :: r) → Asc (runTo x r).2 ∧ x ≤ (runTo x r).1
  | [], x, _ => ⟨List.Pairwise.nil, Int.le_refl _⟩
  | y :: r, x, h => by
    unfold Asc at h
    rw [List.pairwise_cons] at h
    unfold runTo
    split
    · rename_i hy
      have := runTo_asc r y h.2
      exact ⟨this.1, by omega⟩
    · exact ⟨h.2, Int.le_refl _⟩
theorem runTo_mem : ∀ (r : List Int) (x : Int), (runTo x r).1 ∈ x :: r
  | [], x => List.mem_cons_self
  | y :: r, x => by
    unfold runTo
    split
    · exact List.mem_cons_of_mem _ (runTo_mem r y)
    · exact List.mem_cons_self
theorem runTo_sub : ∀ (r : List Int) (x : Int), ∀ z ∈ (runTo x r).2, z ∈ r
  | [], x, z, hz => by unfold runTo at hz; exact nomatch hz
  | y :: r, x, z, hz => by
    unfold runTo at hz
    split at hz
    · exact List.mem_cons_of_mem _ (runTo_sub r y z hz)
    · exact hz
/-- What a request's numbers keep. -/
structure AskOk (B id : Int) (l : List Int) : Prop where
  even : l.length % 2 = 0
  asc : Asc l
  range : ∀ x ∈ l, 0 ≤ x ∧ x ≤ B
  short : (numE id ++ numsE l).length ≤ 140
theorem askR_ok (B id : Int) : ∀ (k : Nat) (ms l : List Int), ms.length ≤ k → AskOk B id l → Asc ms → (∀ x ∈ ms, 0 ≤ x ∧ x < B) → (∀ z ∈ l, ∀ x ∈ ms, z < x) → AskOk B id (askR id l ms) ∧ (l ≠ [] → askR id l ms ≠ [])
  | _, [], l, _, h, _, _, _ => by rw [askR]; exact ⟨h, fun h => h⟩
  | 0, x :: r, l, h, _, _, _, _ => by simp at h
  | k + 1, x :: r, l, h, ho, ha, hm, hs => by
    rw [askR]
    split
    · exact ⟨ho, fun h => h⟩
    · rename_i hlen
      have h1 := runTo_len x r
      obtain ⟨h2, h3⟩ := runTo_asc r x ha
      have h4 := runTo_rest r x ha
      have h5 := hm _ (runTo_mem r x)
      have h6 := hm x List.mem_cons_self
      have hok : AskOk B id (l ++ [x, (runTo x r).1 + 1]) := by
        refine ⟨by rw [List.length_append]; have := ho.even; simp; omega, ?_, fun z hz => ?_, by omega⟩
        · unfold Asc
          rw [List.pairwise_append]
          refine ⟨ho.asc, ?_, fun z hz y hy => ?_⟩
          · rw [List.pairwise_cons]
            refine ⟨fun y hy => ?_, List.pairwise_singleton _ _⟩
            obtain rfl := List.mem_singleton.1 hy
            omega
          · have := hs z hz x List.mem_cons_self
            simp only [List.mem_cons, List.not_mem_nil, or_false] at hy
            rcases hy with rfl | rfl <;> omega
        · rcases List.mem_append.1 hz with hz | hz
          · exact ho.range z hz
          · simp only [List.mem_cons, List.not_mem_nil, or_false] at hz
            rcases hz with rfl | rfl <;> omega
      obtain ⟨g1, g2⟩ := askR_ok B id k (runTo x r).2 (l ++ [x, (runTo x r).1 + 1]) (by simp at h; omega) hok h2 (fun z hz => hm z (List.mem_cons_of_mem _ (runTo_sub r x z hz))) fun z hz y hy => by
        have hy1 := h4 y hy
        rcases List.mem_append.1 hz with hz | hz
        · exact hs z hz y (List.mem_cons_of_mem _ (runTo_sub r x y hy))
        · simp only [List.mem_cons, List.not_mem_nil, or_false] at hz
          rcases hz with rfl | rfl <;> omega
      exact ⟨g1, fun _ => g2 (by simp)⟩
/-- A request that keeps this is read back. -/
theorem request_back {B id : Int} {l : List Int} (hB : B ≤ 2500) (hid : 0 ≤ id ∧ id ≤ maxMark) (h : AskOk B id l) (hne : l ≠ []) (hl : l.length ≤ 140) : requestF (numE id ++ numsE l) = some (id, l) := by
  have hm := maxMark_eq
  have h1 : numF ⟨numE id ++ numsE l, false⟩ = (id, ⟨numsE l, false⟩) := numF_mk (by unfold I64; omega) hid.1 _ _
  have h2 : numsF ⟨numsE l, false⟩ = (l, ⟨[], false⟩) := by
    have := numsF_mk (l := l) (by unfold I64; omega) (fun x hx => by have := h.range x hx; unfold I64; omega) []
    rw [List.append_nil] at this
    exact this
  unfold requestF
  rw [h1]
  dsimp only
  rw [h2]
  dsimp only
  rw [if_pos]
  refine ⟨rfl, rfl, h.short, hid.2, hne, h.even, ?_, (upB_iff l).2 fun j hj => List.pairwise_iff_getElem.1 h.asc j (j + 1) _ _ (by omega), rfl⟩
  obtain ⟨m, hmm⟩ : ∃ m, l.length = m + 1 := ⟨l.length - 1, by have := List.length_pos_iff.2 hne; omega⟩
  rw [last_at hmm]
  exact Int.le_trans (h.range _ (List.getElem_mem _)).2 hB
end Go.Proofs.YtabnniabofhihaaDoor
