/- A message whose parts come, in the plain model. -/
import Derived.Test.YtabnniabofhihaaDoorSmPlain
namespace Go.Proofs.YtabnniabofhihaaDoor
open Go

theorem sub_len {α : Type} [DecidableEq α] : ∀ {a b : List α}, a.Nodup → (∀ x ∈ a, x ∈ b) → a.length ≤ b.length
  | [], _, _, _ => Nat.zero_le _
  | x :: r, b, hn, hs => by
    rw [List.nodup_cons] at hn
    have h1 := sub_len (a := r) (b := b.erase x) hn.2 fun y hy => by
      have hne : y ≠ x := fun e => hn.1 (e ▸ hy)
      exact (List.mem_erase_of_ne hne).2 (hs y (List.mem_cons_of_mem _ hy))
    have hx := hs x List.mem_cons_self
    rw [List.length_erase_of_mem hx] at h1
    have := List.length_pos_of_mem hx
    rw [List.length_cons]
    omega
/-- Message id of a box: c parts, those that have come are f's. -/
structure Got (bx : Bx) (id : Int) (c : Nat) (f : Nat → Bs) (m : Ms) : Prop where
  look : bx.lookup id = some m
  count : m.count = c
  part : ∀ (i : Nat) b, m.parts.lookup (i : Int) = some b → b = f i
theorem missF_got {bx : Bx} {id : Int} {c : Nat} {f : Nat → Bs} {m : Ms} (h : Got bx id c f m) : missF bx id = (missL m, 0) := by
  unfold missF; rw [h.look]
/-- A part that comes. -/
theorem take_got {bx : Bx} {id : Int} {c : Nat} {f : Nat → Bs} {m : Ms} {s : Bs} {i : Nat} (h : Got bx id c f m) (hp : partF s = some ⟨id, (i : Nat), (c : Nat), f i⟩) :
    takeF bx s = (0, setM bx id (addPart m i (f i))) ∧ Got (setM bx id (addPart m i (f i))) id c f (addPart m i (f i)) := by
  constructor
  · unfold takeF
    rw [hp]
    dsimp only
    rw [h.look]
    dsimp only
    rw [if_neg]
    rintro (h1 | h1)
    · exact h1 (by rw [h.count])
    · cases hx : m.parts.lookup (i : Int) with
      | none => rw [hx] at h1; exact h1 rfl
      | some b => rw [hx] at h1; exact h1 (h.part i b hx)
  · refine ⟨by rw [lookup_set _ _ _ _ (by rw [h.look]; rfl), if_pos rfl], h.count, fun j b hb => ?_⟩
    unfold addPart at hb
    dsimp only at hb
    rw [lookup_put] at hb
    split at hb
    · rename_i hji
      injection hb with hb
      rw [← hb]
      congr 1
      omega
    · exact h.part j b hb
theorem missL_iff (m : Ms) (x : Int) : x ∈ missL m ↔ 0 ≤ x ∧ x < m.count ∧ m.parts.lookup x = none := by
  unfold missL
  rw [List.mem_filter, Option.isNone_iff_eq_none]
  constructor
  · rintro ⟨h1, h2⟩
    obtain ⟨i, hi, rfl⟩ := List.mem_map.1 h1
    have := List.mem_range.1 hi
    exact ⟨by omega, by omega, h2⟩
  · rintro ⟨h1, h2, h3⟩
    exact ⟨List.mem_map.2 ⟨x.toNat, List.mem_range.2 (by omega), by omega⟩, h3⟩
theorem missL_asc (m : Ms) : Asc (missL m) := by
  unfold missL Asc
  refine List.Pairwise.filter _ ?_
  rw [List.pairwise_map]
  exact (List.pairwise_lt_range (n := m.count)).imp fun h => by omega
theorem missL_add (m : Ms) (i : Nat) (b : Bs) : missL (addPart m i b) = (missL m).filter fun x => decide (x ≠ (i : Int)) := by
  unfold missL addPart
  dsimp only
  rw [List.filter_filter]
  refine List.filter_congr fun x _ => ?_
  rw [lookup_put]
  by_cases hx : x = (i : Int)
  · simp [hx]
  · simp [hx]
theorem pigeon' (m : Ms) (h : MsOk m) (x : Int) (hx : 0 ≤ x ∧ x < m.count) (hn : m.parts.lookup x = none) : m.parts.length + 1 ≤ m.count := by
  have h1 := pigeon m.count (x :: m.parts.map Prod.fst) (List.nodup_cons.2 ⟨lookup_none_iff.1 hn, h.nodup⟩) fun y hy => by
    rcases List.mem_cons.1 hy with rfl | hy
    · exact hx
    · obtain ⟨p, hp, rfl⟩ := List.mem_map.1 hy
      exact ⟨(h.part p hp).1, (h.part p hp).2.1⟩
  rwa [List.length_cons, List.length_map] at h1
/-- A message is done if nothing is missing. -/
theorem done_got {bx : Bx} {id : Int} {c : Nat} {f : Nat → Bs} {m : Ms} (h : Got bx id c f m) (ho : MsOk m) :
    doneX bx id = if missL m = [] then (((List.range c).map f).flatten, true) else ([], false) := by
  unfold doneX
  rw [h.look]
  dsimp only
  by_cases he : missL m = []
  · rw [if_pos he]
    have hall : ∀ i, i < m.count → (m.parts.lookup (i : Int)).isSome := fun i hi => by
      cases hx : m.parts.lookup (i : Int) with
      | some b => rfl
      | none =>
        have := (missL_iff m i).2 ⟨by omega, by omega, hx⟩
        rw [he] at this
        exact nomatch this
    have hlen : m.count ≤ m.parts.length := by
      have := sub_len (a := (List.range m.count).map fun i : Nat => (i : Int)) (b := m.parts.map Prod.fst) (by
        have := (List.pairwise_lt_range (n := m.count))
        unfold List.Nodup
        rw [List.pairwise_map]
        exact this.imp fun h => by omega) fun x hx => by
          obtain ⟨i, hi, rfl⟩ := List.mem_map.1 hx
          have h1 := hall i (List.mem_range.1 hi)
          cases hx : m.parts.lookup (i : Int) with
          | none => rw [hx] at h1; cases h1
          | some b => exact List.mem_map.2 ⟨_, lookup_mem hx, rfl⟩
      rwa [List.length_map, List.length_range, List.length_map] at this
    rw [if_neg (by omega)]
    congr 1
    unfold allB
    rw [h.count]
    congr 1
    refine List.map_congr_left fun i hi => ?_
    have h1 := hall i (by rw [h.count]; exact List.mem_range.1 hi)
    cases hx : m.parts.lookup (i : Int) with
    | none => rw [hx] at h1; cases h1
    | some b => rw [Option.getD_some]; exact h.part i b hx
  · rw [if_neg he]
    obtain ⟨x, hx⟩ := List.exists_mem_of_ne_nil _ he
    obtain ⟨h1, h2, h3⟩ := (missL_iff m x).1 hx
    have hlt : m.parts.length < m.count := by
      have := pigeon' m ho x ⟨h1, h2⟩ h3
      omega
    rw [if_pos hlt]
theorem nums_long (l : List Int) : l.length ≤ (numsE l).length := by
  have h : ∀ (l : List Int), l.length ≤ ((l.map intE).flatten).length := by
    intro l
    induction l with
    | nil => simp
    | cons a r ih =>
      rw [List.map_cons, List.flatten_cons, List.length_append, List.length_cons]
      have : 1 ≤ (intE a).length := by unfold intE; rw [List.length_append]; simp
      omega
  have h1 := h l
  unfold numsE listE
  simp only [List.length_append, List.length_cons]
  omega
/-- A round: what is asked for, and what the request gives. -/
theorem round_plain {bx : Bx} {id : Int} {c : Nat} {f : Nat → Bs} {m : Ms} {l : List Bs} (h : Got bx id c f m) (ho : MsOk m) (hid : 0 ≤ id ∧ id ≤ maxMark) (hl : l.length = c) (hp : ∀ i (hi : i < l.length), partF l[i] = some ⟨id, (i : Nat), (c : Nat), f i⟩) (hne : missL m ≠ []) :
    ∃ (n : Nat) (ask : Bs), 0 < n ∧ askF bx id = (ask, 0) ∧ ask.length ≤ 140 ∧ resumeF l ask = (pick l ((missL m).take n), 0) ∧ (∀ k rq, requestF ask = some (k, rq) → ∀ x ∈ rq, 0 ≤ x) := by
  have hm := maxMark_eq
  have hc := h.count
  have hcf := ho.few
  have hask : askF bx id = (askL id [] [] (missL m), 0) := by
    unfold askF
    rw [missF_got h]
    dsimp only
    rw [if_neg (by decide), if_neg hne]
  have hmem : ∀ x ∈ missL m, 0 ≤ x ∧ x < c := fun x hx => by
    have := (missL_iff m x).1 hx
    omega
  have hasc := missL_asc m
  cases hms : missL m with
  | nil => exact absurd hms hne
  | cons x r =>
    rw [hms] at hask hmem hasc
    obtain ⟨j, h1, h2⟩ := runTo_span r x
    have hx := hmem x List.mem_cons_self
    have h5 := hmem _ (runTo_mem r x)
    have h3 := runTo_asc r x hasc
    have h4 := runTo_rest r x hasc
    have hI : I64 x := by unfold I64; omega
    have hJ : I64 ((runTo x r).1 + 1) := by unfold I64; omega
    have hfit : (numE id ++ numsE ([] ++ [x, (runTo x r).1 + 1])).length ≤ 140 := by
      have e1 := numE_len (n := id) (by unfold I64; omega)
      have e2 := itoa_len hI
      have e3 := itoa_len hJ
      have e4 := itoa_len (n := 2) (by unfold I64; omega)
      have e5 : (numsE ([] ++ [x, (runTo x r).1 + 1])).length = (Lib.itoa 2).length + 1 + ((Lib.itoa x).length + 1 + ((Lib.itoa ((runTo x r).1 + 1)).length + 1)) + 1 := by
        unfold numsE listE intE
        simp
        omega
      rw [List.length_append, e5]
      omega
    have hok : AskOk c id ([] ++ [x, (runTo x r).1 + 1]) := by
      refine ⟨by simp, ?_, fun z hz => ?_, hfit⟩
      · unfold Asc
        rw [List.nil_append, List.pairwise_cons]
        refine ⟨fun y hy => ?_, List.pairwise_singleton _ _⟩
        obtain rfl := List.mem_singleton.1 hy
        omega
      · simp only [List.nil_append, List.mem_cons, List.not_mem_nil, or_false] at hz
        rcases hz with rfl | rfl <;> omega
    obtain ⟨g1, g2⟩ := askR_ok c id (runTo x r).2.length (runTo x r).2 ([] ++ [x, (runTo x r).1 + 1]) (Nat.le_refl _) hok h3.1 (fun z hz => hmem z (List.mem_cons_of_mem _ (runTo_sub r x z hz))) fun z hz y hy => by
      have hy1 := h4 y hy
      simp only [List.nil_append, List.mem_cons, List.not_mem_nil, or_false] at hz
      rcases hz with rfl | rfl <;> omega
    have g3 := g2 (by simp)
    obtain ⟨n, hn⟩ := askR_sel l id (runTo x r).2.length (runTo x r).2 ([] ++ [x, (runTo x r).1 + 1]) (Nat.le_refl _) (by simp) fun z hz => by
      have := hmem z (List.mem_cons_of_mem _ (runTo_sub r x z hz)); omega
    have hL : askL id [] [] (x :: r) = numE id ++ numsE (askR id ([] ++ [x, (runTo x r).1 + 1]) (runTo x r).2) := by
      rw [askL, if_neg (by omega)]
      exact askL_eq id _ _ _ (Nat.le_refl _)
    generalize askR id ([] ++ [x, (runTo x r).1 + 1]) (runTo x r).2 = rs at *
    have hrb := request_back (B := c) (by omega) hid g1 g3 (by have := nums_long rs; have := g1.short; rw [List.length_append] at this; omega)
    refine ⟨j + 1 + n, numE id ++ numsE rs, by omega, by rw [hask, hL], g1.short, ?_, fun k rq hk z hz => ?_⟩
    · have hfb : fitB id l.length 0 l = true := (fitB_iff id l.length l 0).2 fun i hi => by
        unfold fitAt
        rw [hp i hi, Nat.zero_add]
        simp [hl]
      have hlne : l ≠ [] := by
        intro e
        rw [e] at hl
        simp at hl
        omega
      have hlast : ¬ (l.length : Int) < rs.getLastD 0 := by
        obtain ⟨q, hq⟩ : ∃ q, rs.length = q + 1 := ⟨rs.length - 1, by have := List.length_pos_iff.2 g3; omega⟩
        rw [last_at hq]
        have := (g1.range _ (List.getElem_mem (show q < rs.length by omega))).2
        omega
      unfold resumeF
      rw [hrb]
      dsimp only
      rw [hfb, if_neg (by decide), if_neg hlne, if_neg hlast, hn]
      congr 1
      obtain ⟨xn, rfl⟩ := Int.eq_ofNat_of_zero_le hx.1
      have hsl : ∀ (k : Nat) (x : Int), (span x k).length = k := by
        intro k
        induction k with
        | zero => intro x; rfl
        | succ k ih => intro x; rw [span, List.length_cons, ih]
      have e3 : (span (xn : Int) (j + 1)).take (j + 1 + n) = span (xn : Int) (j + 1) := List.take_of_length_le (by rw [hsl]; omega)
      rw [h2, List.take_append, hsl, Nat.add_sub_cancel_left, e3, pick_append, pick_span l (j + 1) xn (by omega), h1]
      congr 1
      rw [List.nil_append, sel, sel, List.append_nil, show ((xn : Int) + j + 1).toNat - (xn : Int).toNat = j + 1 by omega, Int.toNat_natCast]
      intro a; simp
    · rw [hrb] at hk
      injection hk with hk
      injection hk with _ hk
      subst hk
      exact (g1.range z hz).1
end Go.Proofs.YtabnniabofhihaaDoor
