/- The meeting of two histories, in plain words: ranges, offers, what is given. No program in sight. -/
import Derived.Test.YtjkmalddfoemhaaGreatDoorJ4
namespace Go.Proofs.YtjkmalddfoemhaaGreatDoor
open Go

/-! ## Ranges -/
/-- One number more, at the end of ranges. -/
def rangesStep (out : List (Int × Int)) (n : Int) : List (Int × Int) := match out.getLast? with
  | some p => if p.2 = n then out.dropLast ++ [(p.1, p.2 + 1)] else out ++ [(n, n + 1)]
  | none => out ++ [(n, n + 1)]
def rangesF (l : List Int) : List (Int × Int) := l.foldl rangesStep []
def rangesTo (l : List Int) (k : Nat) : List (Int × Int) := rangesF (l.take k)
theorem rangesTo_all {l : List Int} {k : Nat} (hk : l.length ≤ k) : rangesTo l k = rangesF l := by unfold rangesTo; rw [List.take_of_length_le hk]
theorem rangesF_snoc (l : List Int) (n : Int) : rangesF (l ++ [n]) = rangesStep (rangesF l) n := by unfold rangesF; rw [List.foldl_append]; rfl
theorem rangesTo_succ {l : List Int} {k : Nat} (hk : k < l.length) : rangesTo l (k + 1) = rangesStep (rangesTo l k) l[k] := by
  unfold rangesTo
  rw [List.take_succ_eq_append_getElem hk, rangesF_snoc]
theorem step_nil {out : List (Int × Int)} {n : Int} (h : out = []) : rangesStep out n = [(n, n + 1)] := by subst h; rfl
theorem step_last {out : List (Int × Int)} {n : Int} {k : Nat} {q : Int × Int} (hk : out.length = k + 1) (hq : out[k]? = some q) : rangesStep out n = if q.2 = n then out.take k ++ [(q.1, q.2 + 1)] else out ++ [(n, n + 1)] := by
  have hl : out.getLast? = some q := by
    rw [List.getLast?_eq_getElem?, hk, Nat.add_sub_cancel]
    exact hq
  unfold rangesStep
  rw [hl]
  show (if q.2 = n then out.dropLast ++ _ else _) = _
  rw [List.dropLast_eq_take, hk, Nat.add_sub_cancel]
theorem step_len (out : List (Int × Int)) (n : Int) : (rangesStep out n).length ≤ out.length + 1 := by
  unfold rangesStep
  split
  · split
    · simp
    · simp
  · simp
theorem rangesTo_len (l : List Int) (k : Nat) : (rangesTo l k).length ≤ k := by
  induction k with
  | zero => exact Nat.le_refl _
  | succ k ih =>
    by_cases hk : k < l.length
    · rw [rangesTo_succ hk]
      exact Nat.le_trans (step_len _ _) (by omega)
    · rw [rangesTo_all (by omega), ← rangesTo_all (k := k) (by omega)]
      omega
/-- Ranges that ascend, and are apart. -/
structure Apart (out : List (Int × Int)) : Prop where
  asc : out.Pairwise fun p q => p.2 < q.1
  each : ∀ p ∈ out, 0 ≤ p.1 ∧ p.1 < p.2
def InR (l : List (Int × Int)) (n : Int) : Prop := ∃ p ∈ l, p.1 ≤ n ∧ n < p.2
instance (l : List (Int × Int)) (n : Int) : Decidable (InR l n) := by unfold InR; infer_instance
def sumR (l : List (Int × Int)) : Int := (l.map fun p => p.2 - p.1).sum
structure RangeInv (l : List Int) (out : List (Int × Int)) : Prop where
  ap : Apart out
  mem : ∀ x, InR out x ↔ x ∈ l
  sum : sumR out = l.length
theorem sumR_append (a b : List (Int × Int)) : sumR (a ++ b) = sumR a + sumR b := by unfold sumR; rw [List.map_append, List.sum_append]
theorem sumR_one (p : Int × Int) : sumR [p] = p.2 - p.1 := by simp [sumR]
theorem inR_append (a b : List (Int × Int)) (x : Int) : InR (a ++ b) x ↔ InR a x ∨ InR b x := by
  unfold InR
  constructor
  · rintro ⟨p, hp, h⟩
    rcases List.mem_append.1 hp with q | q
    · exact .inl ⟨p, q, h⟩
    · exact .inr ⟨p, q, h⟩
  · rintro (⟨p, hp, h⟩ | ⟨p, hp, h⟩)
    · exact ⟨p, List.mem_append.2 (.inl hp), h⟩
    · exact ⟨p, List.mem_append.2 (.inr hp), h⟩
theorem inR_one (p : Int × Int) (x : Int) : InR [p] x ↔ p.1 ≤ x ∧ x < p.2 := by
  unfold InR
  constructor
  · rintro ⟨q, hq, h⟩; rw [List.mem_singleton.1 hq] at h; exact h
  · exact fun h => ⟨p, List.mem_singleton.2 rfl, h⟩
theorem RangeInv.step {l : List Int} {out : List (Int × Int)} (h : RangeInv l out) {n : Int} (hn : 0 ≤ n) (hl : ∀ x ∈ l, x < n) : RangeInv (l ++ [n]) (rangesStep out n) := by
  have hend : ∀ p ∈ out, p.2 ≤ n := fun p hp => by
    have e := h.ap.each p hp
    have := hl (p.2 - 1) ((h.mem _).1 ⟨p, hp, by omega, by omega⟩)
    omega
  have hnew : (∀ p ∈ out, p.2 < n) → RangeInv (l ++ [n]) (out ++ [(n, n + 1)]) := fun hs => by
    refine ⟨⟨List.pairwise_append.2 ⟨h.ap.asc, List.pairwise_singleton _ _, fun p hp q hq => ?_⟩, fun p hp => ?_⟩, fun x => ?_, ?_⟩
    · rw [List.mem_singleton.1 hq]; exact hs p hp
    · rcases List.mem_append.1 hp with q | q
      · exact h.ap.each p q
      · rw [List.mem_singleton.1 q]; exact ⟨hn, by show n < n + 1; omega⟩
    · rw [inR_append, inR_one, List.mem_append, List.mem_singleton, h.mem]
      exact or_congr_right (by show n ≤ x ∧ x < n + 1 ↔ x = n; omega)
    · rw [sumR_append, sumR_one, h.sum, List.length_append]
      show (l.length : Int) + (n + 1 - n) = _
      simp; omega
  rcases List.eq_nil_or_concat out with e | ⟨init, p, e⟩
  · subst e; exact hnew fun p hp => nomatch hp
  · rw [List.concat_eq_append] at e
    subst e
    unfold rangesStep
    rw [List.getLast?_concat]
    show RangeInv _ (if p.2 = n then (init ++ [p]).dropLast ++ [(p.1, p.2 + 1)] else _)
    have hasc := List.pairwise_append.1 h.ap.asc
    have hp1 := h.ap.each p (by simp)
    have hpi : ∀ q ∈ init, q.2 < p.1 := fun q hq => hasc.2.2 q hq p (by simp)
    by_cases he : p.2 = n
    · rw [if_pos he, List.dropLast_concat]
      refine ⟨⟨List.pairwise_append.2 ⟨hasc.1, List.pairwise_singleton _ _, fun q hq r hr => ?_⟩, fun q hq => ?_⟩, fun x => ?_, ?_⟩
      · rw [List.mem_singleton.1 hr]; exact hpi q hq
      · rcases List.mem_append.1 hq with c | c
        · exact h.ap.each q (List.mem_append.2 (.inl c))
        · rw [List.mem_singleton.1 c]; exact ⟨hp1.1, by show p.1 < p.2 + 1; omega⟩
      · have := h.mem x
        rw [inR_append, inR_one] at this
        rw [inR_append, inR_one, List.mem_append, List.mem_singleton, ← this]
        constructor
        · rintro (c | c)
          · exact .inl (.inl c)
          · have c : p.1 ≤ x ∧ x < p.2 + 1 := c
            by_cases hx : x < p.2
            · exact .inl (.inr ⟨c.1, hx⟩)
            · exact .inr (by omega)
        · rintro ((c | c) | c)
          · exact .inl c
          · exact .inr (by show p.1 ≤ x ∧ x < p.2 + 1; omega)
          · exact .inr (by show p.1 ≤ x ∧ x < p.2 + 1; omega)
      · have := h.sum
        rw [sumR_append, sumR_one] at this
        rw [sumR_append, sumR_one, List.length_append]
        show sumR init + (p.2 + 1 - p.1) = _
        simp; omega
    · rw [if_neg he]
      refine hnew fun q hq => ?_
      rcases List.mem_append.1 hq with c | c
      · have := hpi q c; have := hend p (by simp); omega
      · rw [List.mem_singleton.1 c]; have := hend p (by simp); omega
theorem ranges_inv {l : List Int} (ha : l.Pairwise (· < ·)) (h0 : ∀ x ∈ l, 0 ≤ x) : ∀ k, k ≤ l.length → RangeInv (l.take k) (rangesTo l k)
  | 0, _ => ⟨⟨List.Pairwise.nil, fun p hp => nomatch hp⟩, fun x => ⟨fun h => (match h with | ⟨p, hp, _⟩ => nomatch hp), fun h => (nomatch h)⟩, rfl⟩
  | k + 1, hk => by
    rw [rangesTo_succ (by omega), List.take_succ_eq_append_getElem (by omega)]
    refine (ranges_inv ha h0 k (by omega)).step (h0 _ (List.getElem_mem _)) fun x hx => ?_
    obtain ⟨i, hi, rfl⟩ := List.getElem_of_mem hx
    rw [List.getElem_take]
    exact List.pairwise_iff_getElem.1 ha i k _ _ (by rw [List.length_take] at hi; omega)
theorem ranges_all {l : List Int} (ha : l.Pairwise (· < ·)) (h0 : ∀ x ∈ l, 0 ≤ x) : RangeInv l (rangesF l) := by
  have := ranges_inv ha h0 l.length (Nat.le_refl _)
  rwa [List.take_length, rangesTo_all (Nat.le_refl _)] at this

/-! ## Texts of ranges -/
def rgE (p : Int × Int) : List UInt8 := numE p.1 ++ numE p.2
def rgsE (l : List (Int × Int)) : List UInt8 := numE l.length ++ (l.map rgE).flatten
def rgsTo (l : List (Int × Int)) (k : Nat) : List UInt8 := numE l.length ++ ((l.take k).map rgE).flatten
theorem rgsTo_zero (l : List (Int × Int)) : rgsTo l 0 = numE l.length := by simp [rgsTo]
theorem rgsTo_all {l : List (Int × Int)} {k : Nat} (hk : l.length ≤ k) : rgsTo l k = rgsE l := by unfold rgsTo rgsE; rw [List.take_of_length_le hk]
theorem rgsTo_succ {l : List (Int × Int)} {k : Nat} (hk : k < l.length) : rgsTo l (k + 1) = rgsTo l k ++ rgE l[k] := by
  unfold rgsTo
  rw [List.take_succ_eq_append_getElem hk, List.map_append, List.flatten_append, ← List.append_assoc]
  simp
theorem numE_len {n : Int} (h : I64 n) : (numE n).length ≤ 21 := by
  unfold numE intE
  split
  · simp
  · rw [List.length_append]; have := itoa_len h; simp; omega
def MM : Int := 1073741825
/-- What is read of an offer: the ranges, and the reader afterwards. -/
def readL (M n : Int) : Nat → RS → Int → List (Int × Int) → Option (List (Int × Int) × RS)
  | 0, r, _, out => some (out, r)
  | k + 1, r, last, out => if (out.length : Int) < n ∧ 0 < r.rest.length then
      if (numF r).1 ≤ last ∨ (numF (numF r).2).1 ≤ (numF r).1 ∨ M < (numF (numF r).2).1 then none
      else readL M n k (numF (numF r).2).2 (numF (numF r).2).1 (out ++ [((numF r).1, (numF (numF r).2).1)])
    else some (out, r)
def readEnd (n : Int) : Option (List (Int × Int) × RS) → List (Int × Int) × Int
  | some (l, r) => if r.bad = false ∧ r.rest = [] ∧ (l.length : Int) = n then (l, 0) else ([], 2)
  | none => ([], 2)
def readO (M : Int) (s : List UInt8) : List (Int × Int) × Int := readEnd (numF ⟨s, false⟩).1 (readL M (numF ⟨s, false⟩).1 s.length (numF ⟨s, false⟩).2 (-1) [])
theorem numF_len (r : RS) : (numF r).2.rest.length ≤ r.rest.length - 1 := numberF_len _ _ _
theorem readL_stop {M n : Int} {k : Nat} {r : RS} {last : Int} {out : List (Int × Int)} (h : ¬ ((out.length : Int) < n ∧ 0 < r.rest.length)) : readL M n k r last out = some (out, r) := by
  cases k with
  | zero => rfl
  | succ k => unfold readL; rw [if_neg h]
theorem readL_no {M n : Int} {k : Nat} {r : RS} {last : Int} {out : List (Int × Int)} (hk : r.rest.length ≤ k) (h : (out.length : Int) < n ∧ 0 < r.rest.length) (hb : (numF r).1 ≤ last ∨ (numF (numF r).2).1 ≤ (numF r).1 ∨ M < (numF (numF r).2).1) : readL M n k r last out = none := by
  cases k with
  | zero => exact absurd h.2 (by omega)
  | succ k => unfold readL; rw [if_pos h, if_pos hb]
theorem readL_go {M n : Int} {k : Nat} {r : RS} {last : Int} {out : List (Int × Int)} (hk : r.rest.length ≤ k) (h : (out.length : Int) < n ∧ 0 < r.rest.length) (hb : ¬ ((numF r).1 ≤ last ∨ (numF (numF r).2).1 ≤ (numF r).1 ∨ M < (numF (numF r).2).1)) :
    ∃ j, (numF (numF r).2).2.rest.length ≤ j ∧ (numF (numF r).2).2.rest.length < r.rest.length ∧ readL M n k r last out = readL M n j (numF (numF r).2).2 (numF (numF r).2).1 (out ++ [((numF r).1, (numF (numF r).2).1)]) := by
  cases k with
  | zero => exact absurd h.2 (by omega)
  | succ k =>
    have h1 := numF_len r
    have h2 := numF_len (numF r).2
    refine ⟨k, by omega, by omega, ?_⟩
    rw [readL, if_pos h, if_neg hb]
theorem readL_good {M n : Int} : ∀ (k : Nat) {r r' : RS} {last : Int} {out l : List (Int × Int)}, readL M n k r last out = some (l, r') → r'.bad = false → ∃ l2, l = out ++ l2 ∧ r.rest = (l2.map rgE).flatten ++ r'.rest ∧ r.bad = false
  | 0, r, r', last, out, l, h, hb => by
    cases h
    exact ⟨[], by simp, rfl, hb⟩
  | k + 1, r, r', last, out, l, h, hb => by
    unfold readL at h
    split at h
    · split at h
      · cases h
      · obtain ⟨l2, e1, e2, e3⟩ := readL_good k h hb
        obtain ⟨f1, f2⟩ := numF_good e3
        obtain ⟨g1, g2⟩ := numF_good f2
        refine ⟨((numF r).1, (numF (numF r).2).1) :: l2, by rw [e1]; simp, ?_, g2⟩
        rw [g1, f1, e2]
        simp [rgE]
    · cases h
      exact ⟨[], by simp, rfl, hb⟩
theorem readL_len {M n : Int} : ∀ (k : Nat) {r r' : RS} {last : Int} {out l : List (Int × Int)}, readL M n k r last out = some (l, r') → l.length + r'.rest.length ≤ out.length + r.rest.length
  | 0, r, r', last, out, l, h => by cases h; exact Nat.le_refl _
  | k + 1, r, r', last, out, l, h => by
    unfold readL at h
    split at h
    · rename_i c
      split at h
      · cases h
      · have := readL_len k h
        have h1 := numF_len r
        have h2 := numF_len (numF r).2
        rw [List.length_append, List.length_singleton] at this
        omega
    · cases h; exact Nat.le_refl _
theorem readO_len (M : Int) (s : List UInt8) : (readO M s).1.length ≤ s.length := by
  unfold readO
  cases e : readL M (numF ⟨s, false⟩).1 s.length (numF ⟨s, false⟩).2 (-1) [] with
  | none => exact Nat.zero_le _
  | some x =>
    obtain ⟨l, r⟩ := x
    have h1 := readL_len _ e
    have h2 : _ ≤ s.length - 1 := numF_len ⟨s, false⟩
    have h3 : l.length ≤ s.length := by simp at h1; omega
    unfold readEnd
    by_cases h : r.bad = false ∧ r.rest = [] ∧ (l.length : Int) = (numF ⟨s, false⟩).1
    · show (if _ then _ else _ : List (Int × Int) × Int).1.length ≤ _
      rw [if_pos h]; exact h3
    · show (if _ then _ else _ : List (Int × Int) × Int).1.length ≤ _
      rw [if_neg h]; exact Nat.zero_le _
/-- What can be read is the text of what was read. -/
theorem readO_good {M : Int} {s : List UInt8} : (readO M s).2 = 0 ∧ rgsE (readO M s).1 = s ∨ readO M s = ([], 2) := by
  unfold readO
  cases e : readL M (numF ⟨s, false⟩).1 s.length (numF ⟨s, false⟩).2 (-1) [] with
  | none => exact .inr rfl
  | some x =>
    obtain ⟨l, r⟩ := x
    by_cases h : r.bad = false ∧ r.rest = [] ∧ (l.length : Int) = (numF ⟨s, false⟩).1
    · have ee : readEnd (numF ⟨s, false⟩).1 (some (l, r)) = (l, 0) := if_pos h
      rw [ee]
      refine .inl ⟨rfl, ?_⟩
      obtain ⟨l2, e1, e2, e3⟩ := readL_good _ e h.1
      obtain ⟨f1, _⟩ := numF_good e3
      have e1 : l = l2 := e1
      subst e1
      have f1 : s = numE (numF ⟨s, false⟩).1 ++ (numF ⟨s, false⟩).2.rest := f1
      rw [h.2.1, List.append_nil] at e2
      show numE (l.length : Int) ++ (l.map rgE).flatten = s
      rw [h.2.2, ← e2]
      exact f1.symm
    · exact .inr (if_neg h)
theorem readL_back {M n : Int} (hM : M ≤ 1000000000000) : ∀ (l2 : List (Int × Int)) (k : Nat) (last : Int) (out : List (Int × Int)), -1 ≤ last → Apart l2 → (∀ p ∈ l2, last < p.1 ∧ p.2 ≤ M) → (out.length + l2.length : Nat) = n → (l2.map rgE).flatten.length ≤ k →
    readL M n k ⟨(l2.map rgE).flatten, false⟩ last out = some (out ++ l2, ⟨[], false⟩)
  | [], k, last, out, _, _, _, hn, _ => by
    have e : readL M n k ⟨(([] : List (Int × Int)).map rgE).flatten, false⟩ last out = some (out, ⟨[], false⟩) := readL_stop fun c => absurd c.2 (Nat.lt_irrefl 0)
    rw [e, List.append_nil]
  | p :: l2, k, last, out, h1, ha, hp, hn, hk => by
    have hp1 := ha.each p List.mem_cons_self
    obtain ⟨hp2, hp3⟩ := hp p List.mem_cons_self
    have i1 : I64 p.1 := by unfold I64; omega
    have i2 : I64 p.2 := by unfold I64; omega
    have e1 : numF ⟨((p :: l2).map rgE).flatten, false⟩ = (p.1, ⟨numE p.2 ++ (l2.map rgE).flatten, false⟩) := by
      rw [List.map_cons, List.flatten_cons, rgE, List.append_assoc]
      exact numF_mk i1 hp1.1 _ _
    have e2 : numF ⟨numE p.2 ++ (l2.map rgE).flatten, false⟩ = (p.2, ⟨(l2.map rgE).flatten, false⟩) := numF_mk i2 (by omega) _ _
    have hlen : 0 < ((p :: l2).map rgE).flatten.length := by
      rw [List.map_cons, List.flatten_cons, List.length_append, rgE, List.length_append, numE, if_neg (by omega), intE, List.length_append]
      simp; omega
    obtain ⟨j, j1, _, j3⟩ := readL_go (M := M) (n := n) (k := k) (r := ⟨((p :: l2).map rgE).flatten, false⟩) (last := last) (out := out) hk ⟨by rw [← hn, List.length_cons]; omega, hlen⟩ (by rw [e1]; show ¬ (p.1 ≤ last ∨ (numF _).1 ≤ p.1 ∨ M < (numF _).1); rw [e2]; show ¬ (p.1 ≤ last ∨ p.2 ≤ p.1 ∨ M < p.2); omega)
    rw [j3]
    rw [e1] at j1 ⊢
    show readL M n j (numF _).2 (numF _).1 (out ++ [(p.1, (numF _).1)]) = _
    have j1 : (numF ⟨numE p.2 ++ (l2.map rgE).flatten, false⟩).2.rest.length ≤ j := j1
    rw [e2] at j1 ⊢
    show readL M n j ⟨(l2.map rgE).flatten, false⟩ p.2 (out ++ [(p.1, p.2)]) = _
    rw [readL_back hM l2 j p.2 (out ++ [(p.1, p.2)]) (by omega) ⟨(List.pairwise_cons.1 ha.asc).2, fun q hq => ha.each q (List.mem_cons_of_mem _ hq)⟩ (fun q hq => ⟨(List.pairwise_cons.1 ha.asc).1 q hq, (hp q (List.mem_cons_of_mem _ hq)).2⟩) (by rw [← hn, List.length_append, List.length_cons, List.length_cons]; simp; omega) j1]
    simp
theorem readO_back {M : Int} {l : List (Int × Int)} (hM : M ≤ 1000000000000) (ha : Apart l) (hp : ∀ p ∈ l, p.2 ≤ M) (hl : l.length ≤ 1000000) : readO M (rgsE l) = (l, 0) := by
  have e : numF ⟨rgsE l, false⟩ = ((l.length : Int), ⟨(l.map rgE).flatten, false⟩) := numF_mk (by unfold I64; omega) (by omega) _ _
  unfold readO
  rw [e]
  show readEnd (l.length : Int) (readL M (l.length : Int) (rgsE l).length ⟨(l.map rgE).flatten, false⟩ (-1) []) = _
  rw [readL_back hM l _ (-1) [] (by omega) ha (fun p hp' => ⟨by have := (ha.each p hp').1; omega, hp p hp'⟩) (by simp) (by unfold rgsE; rw [List.length_append]; omega)]
  show (if _ then _ else _) = _
  rw [if_pos ⟨rfl, rfl, by simp⟩]
  simp

/-! ## Giving -/
variable {rd : List UInt8 → En × Int} {R : Rg}
def sgE (s : Sg) : List UInt8 := numE s.key ++ numE s.mark ++ textE s.text
def sgM (h : Hs) (m : Int) : Sg := match idxF h m with
  | some i => match h[i]? with
    | some n => n.sg
    | none => ⟨0, [], 0⟩
  | none => ⟨0, [], 0⟩
theorem sg_at {h : Hs} {m : Int} {i : Nat} (e : idxF h m = some i) : ∃ hi : i < h.length, sgM h m = h[i].sg := by
  obtain ⟨hi, _⟩ := idx_some e
  refine ⟨hi, ?_⟩
  unfold sgM
  rw [e]
  show (match h[i]? with | some n => n.sg | none => _) = _
  rw [List.getElem?_eq_getElem hi]
def giveL (h : Hs) (l : List (Int × Int)) : List Int → Int → List (List UInt8)
  | [], _ => []
  | m :: ms, b => if InR l m then giveL h l ms b else if b < ((sgE (sgM h m)).length : Int) then [] else sgE (sgM h m) :: giveL h l ms (b - (sgE (sgM h m)).length)
def giveF (h : Hs) (l : List (Int × Int)) (b : Int) : List (List UInt8) := giveL h l (sortedF h (marksF h)) b
/-- The marks that are given, if all fit. -/
def lackL (l : List (Int × Int)) (ms : List Int) : List Int := ms.filter fun m => !decide (InR l m)
def bytesL (l : List (List UInt8)) : Int := (l.map fun t => (t.length : Int)).sum
theorem bytes_cons (t : List UInt8) (l : List (List UInt8)) : bytesL (t :: l) = t.length + bytesL l := by simp [bytesL]
theorem bytes_pos : ∀ (l : List (List UInt8)), 0 ≤ bytesL l
  | [] => by decide
  | t :: l => by rw [bytes_cons]; have := bytes_pos l; omega
/-- What is given is the beginning that fits of what lacks. -/
theorem give_fit (h : Hs) (l : List (Int × Int)) : ∀ (ms : List Int) (b : Int), ∃ j, j ≤ (lackL l ms).length ∧ giveL h l ms b = ((lackL l ms).map fun m => sgE (sgM h m)).take j ∧ (0 < j → bytesL (((lackL l ms).map fun m => sgE (sgM h m)).take j) ≤ b) ∧ ∀ (hj : j < (lackL l ms).length), b < bytesL (((lackL l ms).map fun m => sgE (sgM h m)).take j) + (sgE (sgM h (lackL l ms)[j])).length
  | [], b => ⟨0, Nat.le_refl _, rfl, fun c => absurd c (Nat.lt_irrefl _), fun c => absurd c (Nat.lt_irrefl _)⟩
  | m :: ms, b => by
    unfold giveL
    by_cases hm : InR l m
    · have e : lackL l (m :: ms) = lackL l ms := by unfold lackL; rw [List.filter_cons_of_neg (by simp [hm])]
      rw [if_pos hm, e]
      exact give_fit h l ms b
    · have e : lackL l (m :: ms) = m :: lackL l ms := by unfold lackL; rw [List.filter_cons_of_pos (by simp [hm])]
      rw [if_neg hm, e]
      by_cases hb : b < ((sgE (sgM h m)).length : Int)
      · rw [if_pos hb]
        refine ⟨0, Nat.zero_le _, rfl, fun c => absurd c (Nat.lt_irrefl _), fun _ => ?_⟩
        show b < bytesL [] + ((sgE (sgM h m)).length : Int)
        show b < 0 + _
        omega
      · rw [if_neg hb]
        obtain ⟨j, h1, h2, h3, h4⟩ := give_fit h l ms (b - (sgE (sgM h m)).length)
        refine ⟨j + 1, by rw [List.length_cons]; omega, by rw [h2]; rfl, fun _ => ?_, fun hj => ?_⟩
        · rw [List.map_cons, List.take_succ_cons, bytes_cons]
          by_cases hj0 : 0 < j
          · have := h3 hj0; omega
          · obtain rfl : j = 0 := by omega
            rw [List.take_zero]
            show ((sgE (sgM h m)).length : Int) + 0 ≤ b
            omega
        · rw [List.map_cons, List.take_succ_cons, bytes_cons, List.getElem_cons_succ]
          have := h4 (by rw [List.length_cons] at hj; omega)
          omega
theorem take_bytes : ∀ (l : List (List UInt8)) (j : Nat) (hj : j < l.length), bytesL (l.take j) + (l[j].length : Int) ≤ bytesL l
  | t :: l, 0, _ => by rw [List.take_zero, bytes_cons]; show (0 : Int) + (t.length : Int) ≤ _; have := bytes_pos l; omega
  | t :: l, j + 1, hj => by
    rw [List.take_succ_cons, bytes_cons, bytes_cons, List.getElem_cons_succ]
    have := take_bytes l j (by rw [List.length_cons] at hj; omega)
    omega
theorem give_all {h : Hs} {l : List (Int × Int)} {ms : List Int} {b : Int} (hb : bytesL ((lackL l ms).map fun m => sgE (sgM h m)) ≤ b) : giveL h l ms b = (lackL l ms).map fun m => sgE (sgM h m) := by
  obtain ⟨j, h1, h2, _, h4⟩ := give_fit h l ms b
  rw [h2]
  by_cases hj : j < (lackL l ms).length
  · have := h4 hj
    have h5 := take_bytes ((lackL l ms).map fun m => sgE (sgM h m)) j (by rw [List.length_map]; exact hj)
    rw [List.getElem_map] at h5
    omega
  · exact List.take_of_length_le (by rw [List.length_map]; omega)

/-! ## Taking -/
def tkR (t : List UInt8) : Sg × RS := (⟨(numF ⟨t, false⟩).1, (textF (numF (numF ⟨t, false⟩).2).2).1, (numF (numF ⟨t, false⟩).2).1⟩, (textF (numF (numF ⟨t, false⟩).2).2).2)
def TkOk (t : List UInt8) : Prop := (tkR t).2.bad = false ∧ (tkR t).2.rest = []
instance (t : List UInt8) : Decidable (TkOk t) := by unfold TkOk; infer_instance
def takeF (rd : List UInt8 → En × Int) (R : Rg) (h : Hs) (t : List UInt8) : Hs × Int := if TkOk t then addF rd R h (tkR t).1 else (h, 2)
theorem take_back {s : Sg} (hk : 0 ≤ s.key ∧ I64 s.key) (hm : 0 ≤ s.mark ∧ I64 s.mark) (ht : I64 s.text.length) : tkR (sgE s) = (s, ⟨[], false⟩) := by
  have e1 : numF ⟨sgE s, false⟩ = (s.key, ⟨numE s.mark ++ textE s.text, false⟩) := by unfold sgE; rw [List.append_assoc]; exact numF_mk hk.2 hk.1 _ _
  have e2 : numF ⟨numE s.mark ++ textE s.text, false⟩ = (s.mark, ⟨textE s.text, false⟩) := numF_mk hm.2 hm.1 _ _
  have e3 : textF ⟨textE s.text, false⟩ = (s.text, ⟨[], false⟩) := by have := textF_mk s.text [] false ht rfl; rwa [List.append_nil] at this
  unfold tkR
  rw [e1]
  show (⟨s.key, (textF (numF ⟨numE s.mark ++ textE s.text, false⟩).2).1, (numF ⟨numE s.mark ++ textE s.text, false⟩).1⟩, (textF (numF ⟨numE s.mark ++ textE s.text, false⟩).2).2) = (s, _)
  rw [e2]
  show (⟨s.key, (textF ⟨textE s.text, false⟩).1, s.mark⟩, (textF ⟨textE s.text, false⟩).2) = (s, _)
  rw [e3]
theorem takeF_back {s : Sg} {h : Hs} (hk : 0 ≤ s.key ∧ I64 s.key) (hm : 0 ≤ s.mark ∧ I64 s.mark) (ht : I64 s.text.length) : takeF rd R h (sgE s) = addF rd R h s := by
  have e := take_back hk hm ht
  have c : TkOk (sgE s) := by unfold TkOk; rw [e]; exact ⟨rfl, rfl⟩
  unfold takeF
  rw [if_pos c, e]
end Go.Proofs.YtjkmalddfoemhaaGreatDoor
namespace Go.Proofs.YtjkmalddfoemhaaGreatDoor
open Go
variable {rd : List UInt8 → En × Int} {R : Rg}

theorem marks_asc {h : Hs} (H : His rd R h) : (marksF h).Pairwise (· < ·) := sortI_asc H.nodup
def offerR (h : Hs) : List (Int × Int) := rangesF (marksF h)
def offerF (h : Hs) : List UInt8 := rgsE (offerR h)
theorem offer_inv {h : Hs} (H : His rd R h) : RangeInv (marksF h) (offerR h) := ranges_all (marks_asc H) fun _ hx => (marks_small H hx).1
theorem offer_end {h : Hs} (H : His rd R h) : ∀ p ∈ offerR h, p.2 ≤ R.length := fun p hp => by
  have e := (offer_inv H).ap.each p hp
  have := marks_small H ((offer_inv H).mem (p.2 - 1) |>.1 ⟨p, hp, by omega, by omega⟩)
  omega
theorem offer_len (h : Hs) : (offerR h).length ≤ h.length := by
  unfold offerR
  rw [← rangesTo_all (Nat.le_refl _), ← marksF_len h]
  exact rangesTo_len _ _
theorem his_len {h : Hs} (H : His rd R h) : h.length ≤ R.length := H.len
theorem offer_read {h : Hs} (H : His rd R h) (hR : R.length ≤ 1000000) : readO MM (offerF h) = (offerR h, 0) :=
  readO_back (by unfold MM; omega) (offer_inv H).ap (fun p hp => by have := offer_end H p hp; unfold MM; omega) (by have := offer_len h; have := his_len H; omega)
theorem in_offer {h : Hs} (H : His rd R h) (m : Int) : InR (offerR h) m ↔ (idxF h m).isSome := by rw [(offer_inv H).mem, mem_marksF]

/-! ## What lacks, and is given -/
def lackM (a b : Hs) : List Int := lackL (offerR b) (sortedF a (marksF a))
theorem lack_sub (a b : Hs) : (lackM a b).Sublist (sortedF a (marksF a)) := List.filter_sublist
theorem mem_lack {a b : Hs} (A : His rd R a) (B : His rd R b) (m : Int) : m ∈ lackM a b ↔ (idxF a m).isSome ∧ ¬ (idxF b m).isSome := by
  unfold lackM lackL
  rw [List.mem_filter, (sorted_ok A _).2, mem_marksF]
  have := in_offer B m
  by_cases c : InR (offerR b) m
  · have d := this.1 c
    simp [c, d]
  · have d : ¬ (idxF b m).isSome := fun q => c (this.2 q)
    simp [c, d]
theorem lack_bef {a : Hs} (A : His rd R a) (b : Hs) : (lackM a b).Pairwise (BefM a) := (sorted_ok A _).1.sublist (lack_sub a b)
theorem lack_nodup {a : Hs} (A : His rd R a) (b : Hs) : (lackM a b).Nodup := (sorted_nodup A _).sublist (lack_sub a b)
def giveTo (rd : List UInt8 → En × Int) (R : Rg) (a b : Hs) (j : Nat) : Hs := addAll rd R b (((lackM a b).take j).map (sgM a))
theorem giveTo_zero (a b : Hs) : giveTo rd R a b 0 = b := rfl
theorem giveTo_succ {a b : Hs} {j : Nat} (hj : j < (lackM a b).length) : giveTo rd R a b (j + 1) = (addF rd R (giveTo rd R a b j) (sgM a (lackM a b)[j])).1 := by
  unfold giveTo addAll
  rw [List.take_succ_eq_append_getElem hj, List.map_append, List.foldl_append]
  rfl
theorem giveTo_his {a b : Hs} (B : His rd R b) (j : Nat) : His rd R (giveTo rd R a b j) := His.addAll _ B
theorem know_before {a : Hs} (A : His rd R a) {i : Nat} (hi : i < a.length) {x : Int} (hx : x ∈ a[i].en.knows) : (idxF a x).isSome ∧ BefM a x a[i].mark := by
  obtain ⟨j, hj, hji⟩ := A.knows hi hx
  obtain ⟨lj, ej⟩ := idx_some hj
  have hkn : Kn a x a[i].mark := (A.kn_iff (idx_of A.nodup hi) hi x).2 ⟨⟨j, hj⟩, x, hx, .inl rfl⟩
  have hlv := A.kn_level hj i (idx_of A.nodup hi) hkn
  have l1 : ∀ {p : Nat} (hp : p < a.length), levelAt a p = a[p].level := fun {p} hp => by unfold levelAt; rw [List.getElem?_eq_getElem hp]
  rw [l1 lj, l1 hi] at hlv
  exact ⟨by rw [hj]; rfl, j, i, lj, hi, hj, idx_of A.nodup hi, .inl hlv⟩
theorem lack_steps {a b : Hs} (A : His rd R a) (B : His rd R b) (hR : R.length ≤ 4000) : ∀ (j : Nat), j ≤ (lackM a b).length → ∀ m, (idxF (giveTo rd R a b j) m).isSome ↔ (idxF b m).isSome ∨ m ∈ (lackM a b).take j
  | 0, _, m => by rw [giveTo_zero]; simp
  | j + 1, hj, m => by
    have hj' : j < (lackM a b).length := by omega
    have ih := lack_steps A B hR j (by omega)
    have hin : (lackM a b)[j] ∈ lackM a b := List.getElem_mem _
    obtain ⟨i, e⟩ := Option.isSome_iff_exists.1 ((mem_lack A B _).1 hin).1
    obtain ⟨hi, e2⟩ := sg_at e
    obtain ⟨_, e3⟩ := idx_some e
    have K := add_ok (g := giveTo rd R a b j) A (giveTo_his B j) hR hi fun x hx => by
      obtain ⟨k1, k2⟩ := know_before A hi hx
      rw [e3] at k2
      rw [ih x]
      by_cases hb : (idxF b x).isSome
      · exact .inl hb
      · obtain ⟨p, hp, hpx⟩ := List.getElem_of_mem ((mem_lack A B x).2 ⟨k1, hb⟩)
        refine .inr (List.mem_take_iff_getElem.2 ⟨p, ?_, hpx⟩)
        have hpj : p < j := by
          rcases Nat.lt_trichotomy p j with c | c | c
          · exact c
          · subst c; rw [hpx] at k2; exact absurd k2 (befM_irrefl _)
          · have := List.pairwise_iff_getElem.1 (lack_bef A b) j p hj' hp c
            rw [hpx] at this
            exact absurd k2 (befM_asymm _ _ this)
        omega
    rw [giveTo_succ hj', e2, K.2 m, ih m, List.take_succ_eq_append_getElem hj', List.mem_append, List.mem_singleton, e3]
    rw [or_assoc]
theorem lack_next {a b : Hs} (A : His rd R a) (B : His rd R b) (hR : R.length ≤ 4000) {j : Nat} (hj : j < (lackM a b).length) : addF rd R (giveTo rd R a b j) (sgM a (lackM a b)[j]) = (giveTo rd R a b (j + 1), 0) ∧ (giveTo rd R a b (j + 1)).length = (giveTo rd R a b j).length + 1 := by
  have ih := lack_steps A B hR j (by omega)
  have ih2 := lack_steps A B hR (j + 1) (by omega) (lackM a b)[j]
  have hin : (lackM a b)[j] ∈ lackM a b := List.getElem_mem _
  have hno : ¬ (idxF (giveTo rd R a b j) (lackM a b)[j]).isSome := fun c => by
    rcases (ih _).1 c with q | q
    · exact ((mem_lack A B _).1 hin).2 q
    · obtain ⟨p, hp, e⟩ := List.mem_take_iff_getElem.1 q
      have := (List.getElem_inj (lack_nodup A b)).1 e
      omega
  have hyes : (idxF (giveTo rd R a b (j + 1)) (lackM a b)[j]).isSome := ih2.2 (.inr (List.mem_take_iff_getElem.2 ⟨j, by omega, rfl⟩))
  rw [giveTo_succ hj] at hyes ⊢
  rcases add_one (rd := rd) (R := R) (h := giveTo rd R a b j) (s := sgM a (lackM a b)[j]) with ⟨n, e, _⟩ | e
  · rw [e]; exact ⟨rfl, by simp⟩
  · rw [e] at hyes; exact absurd hyes hno
theorem lack_all {a b : Hs} (A : His rd R a) (B : His rd R b) (hR : R.length ≤ 4000) {m : Int} (hm : (idxF a m).isSome) : (idxF (giveTo rd R a b (lackM a b).length) m).isSome := by
  rw [lack_steps A B hR _ (Nat.le_refl _), List.take_length]
  by_cases hb : (idxF b m).isSome
  · exact .inl hb
  · exact .inr ((mem_lack A B m).2 ⟨hm, hb⟩)
/-- A signature that a history has. -/
theorem sg_valid {h : Hs} (H : His rd R h) {m : Int} (hm : (idxF h m).isSome) : ValidP R (sgM h m) ∧ (sgM h m).mark = m := by
  obtain ⟨i, e⟩ := Option.isSome_iff_exists.1 hm
  obtain ⟨hi, e2⟩ := sg_at e
  obtain ⟨_, e3⟩ := idx_some e
  rw [e2]
  exact ⟨(H.at hi).valid, e3⟩
theorem sg_wf {h : Hs} (H : His rd R h) (hk : RgOk R) (hR : R.length ≤ 4000) {m : Int} (hm : (idxF h m).isSome) : (0 ≤ (sgM h m).key ∧ (sgM h m).key < 200) ∧ (0 ≤ (sgM h m).mark ∧ (sgM h m).mark < 4000) ∧ (sgM h m).text.length ≤ 1000000 := by
  obtain ⟨⟨v1, v2⟩, e⟩ := sg_valid H hm
  have := his_mark H hm
  obtain ⟨h1, h2, h3⟩ := hk.ok _ (List.mem_of_getElem? v2)
  exact ⟨⟨h1, h2⟩, by rw [e]; omega, h3⟩

/-! ## Taking -/
theorem take_no {h : Hs} {t : List UInt8} (h0 : (takeF rd R h t).2 ≠ 0) : (takeF rd R h t).1 = h := by
  unfold takeF at h0 ⊢
  split
  · rename_i c; rw [if_pos c] at h0; exact add_refused h0
  · rfl
theorem takeF_his {h : Hs} (H : His rd R h) (t : List UInt8) : His rd R (takeF rd R h t).1 := by
  unfold takeF
  split
  · exact H.add _
  · exact H
theorem add_valid {h : Hs} {s : Sg} (h0 : (addF rd R h s).2 = 0) : ValidP R s := by
  by_cases h1 : ValidP R s
  · exact h1
  · have e : addF rd R h s = (h, 17) := if_pos h1
    rw [e] at h0; cases h0
theorem take_yes {h : Hs} (H : His rd R h) {t : List UInt8} (h0 : (takeF rd R h t).2 = 0) : TkOk t ∧ ValidP R (tkR t).1 ∧ (idxF (takeF rd R h t).1 (tkR t).1.mark).isSome ∧ sgM (takeF rd R h t).1 (tkR t).1.mark = (tkR t).1 ∧
    (takeF rd R h t).1.length ≤ h.length + 1 ∧ takeF rd R (takeF rd R h t).1 t = ((takeF rd R h t).1, 0) ∧ ∀ m, (idxF h m).isSome → (idxF (takeF rd R h t).1 m).isSome := by
  by_cases c : TkOk t
  case neg => unfold takeF at h0; rw [if_neg c] at h0; cases h0
  have e : ∀ g, takeF rd R g t = addF rd R g (tkR t).1 := fun g => by unfold takeF; rw [if_pos c]
  rw [e] at h0 ⊢
  have hv := add_valid h0
  obtain ⟨h1, h2, h3⟩ := add_taken h0
  obtain ⟨v1, v2⟩ := sg_valid (H.add _) h1
  refine ⟨c, hv, h1, valid_same v1 hv v2, h3, by rw [e]; exact h2, fun m hm => ?_⟩
  rcases add_one (rd := rd) (R := R) (h := h) (s := (tkR t).1) with ⟨n, e, _⟩ | e
  · obtain ⟨i, e2⟩ := Option.isSome_iff_exists.1 hm
    rw [e]
    show (idxF (h ++ [n]) m).isSome
    rw [has_snoc e2]; rfl
  · rw [e]; exact hm
end Go.Proofs.YtjkmalddfoemhaaGreatDoor
namespace Go.Proofs.YtjkmalddfoemhaaGreatDoor
open Go
variable {rd : List UInt8 → En × Int} {R : Rg}

/-! ## What is known, from the last entry back to the first -/
/-! ## Ascending numbers -/
def riseIns (x : Int) : List Int → List Int
  | [] => [x]
  | y :: r => if y < x then y :: riseIns x r else if y = x then y :: r else x :: y :: r
def risingF (l : List Int) : List Int := l.foldl (fun o x => riseIns x o) []
theorem mem_riseIns (x z : Int) : ∀ l : List Int, z ∈ riseIns x l ↔ z = x ∨ z ∈ l
  | [] => by simp [riseIns]
  | y :: r => by
    unfold riseIns
    split
    · rw [List.mem_cons, mem_riseIns x z r, List.mem_cons]
      constructor
      · rintro (a | a | a) <;> simp [a]
      · rintro (a | a | a) <;> simp [a]
    · split
      · rename_i e
        subst e
        simp
      · simp
theorem riseIns_asc (x : Int) : ∀ {l : List Int}, l.Pairwise (· < ·) → (riseIns x l).Pairwise (· < ·)
  | [], _ => List.pairwise_singleton _ _
  | y :: r, h => by
    obtain ⟨h1, h2⟩ := List.pairwise_cons.1 h
    unfold riseIns
    split
    · rename_i hlt
      refine List.pairwise_cons.2 ⟨fun z hz => ?_, riseIns_asc x h2⟩
      rcases (mem_riseIns x z r).1 hz with e | e
      · rw [e]; exact hlt
      · exact h1 z e
    · split
      · exact h
      · rename_i h3 h4
        refine List.pairwise_cons.2 ⟨fun z hz => ?_, h⟩
        rcases List.mem_cons.1 hz with e | e
        · rw [e]; omega
        · have := h1 z e; omega
theorem rising_ok (l : List Int) : (risingF l).Pairwise (· < ·) ∧ ∀ z, z ∈ risingF l ↔ z ∈ l := by
  have : ∀ (l o : List Int), o.Pairwise (· < ·) → (l.foldl (fun o x => riseIns x o) o).Pairwise (· < ·) ∧ ∀ z, z ∈ l.foldl (fun o x => riseIns x o) o ↔ z ∈ o ∨ z ∈ l := by
    intro l
    induction l with
    | nil => intro o ho; exact ⟨ho, fun z => by simp⟩
    | cons x l ih =>
      intro o ho
      obtain ⟨a, b⟩ := ih (riseIns x o) (riseIns_asc x ho)
      refine ⟨a, fun z => ?_⟩
      rw [List.foldl_cons, b z, mem_riseIns, List.mem_cons]
      constructor
      · rintro ((c | c) | c) <;> simp [c]
      · rintro (c | c | c) <;> simp [c]
  obtain ⟨a, b⟩ := this l [] List.Pairwise.nil
  exact ⟨a, fun z => by rw [show risingF l = l.foldl (fun o x => riseIns x o) [] from rfl, b z]; simp⟩
theorem rising_sort {l : List Int} (h : l.Nodup) : risingF l = sortI l :=
  sorted_unique (fun a b h1 h2 => by omega) (fun a h => by omega) (rising_ok l).1 (sortI_asc h) fun z => by rw [(rising_ok l).2, sortI_mem]

/-! ## The canonical order, by insertion -/
instance (h : Hs) (a b : Int) : Decidable (BefM h a b) :=
  match e1 : idxF h a, e2 : idxF h b with
  | some i, some j =>
    have hi := (idx_some e1).1
    have hj := (idx_some e2).1
    decidable_of_iff (BefN h[i] h[j]) ⟨fun q => ⟨i, j, hi, hj, e1, e2, q⟩, fun ⟨i', j', _, _, f1, f2, q⟩ => by rw [e1] at f1; rw [e2] at f2; cases f1; cases f2; exact q⟩
  | none, _ => isFalse fun ⟨_, _, _, _, f1, _, _⟩ => by rw [e1] at f1; cases f1
  | some _, none => isFalse fun ⟨_, _, _, _, _, f2, _⟩ => by rw [e2] at f2; cases f2
def befIns (h : Hs) (x : Int) : List Int → List Int
  | [] => [x]
  | y :: r => if BefM h y x then y :: befIns h x r else x :: y :: r
def sortedR (h : Hs) (ms : List Int) : List Int := (risingF ms).foldl (fun o x => if (idxF h x).isSome then befIns h x o else o) []
theorem mem_befIns (h : Hs) (x z : Int) : ∀ l : List Int, z ∈ befIns h x l ↔ z = x ∨ z ∈ l
  | [] => by simp [befIns]
  | y :: r => by
    unfold befIns
    split
    · rw [List.mem_cons, mem_befIns h x z r, List.mem_cons]
      constructor
      · rintro (a | a | a) <;> simp [a]
      · rintro (a | a | a) <;> simp [a]
    · simp
theorem befM_total {h : Hs} {a b : Int} (ha : (idxF h a).isSome) (hb : (idxF h b).isSome) (hn : a ≠ b) : BefM h a b ∨ BefM h b a := by
  obtain ⟨i, hi⟩ := Option.isSome_iff_exists.1 ha
  obtain ⟨j, hj⟩ := Option.isSome_iff_exists.1 hb
  obtain ⟨li, ei⟩ := idx_some hi
  obtain ⟨lj, ej⟩ := idx_some hj
  rcases bef_total (a := h[i]) (b := h[j]) (by rw [ei, ej]; exact hn) with c | c
  · exact .inl ⟨i, j, li, lj, hi, hj, c⟩
  · exact .inr ⟨j, i, lj, li, hj, hi, c⟩
theorem befM_trans {h : Hs} {a b c : Int} (p : BefM h a b) (q : BefM h b c) : BefM h a c := by
  obtain ⟨i, j, hi, hj, e1, e2, e3⟩ := p
  obtain ⟨j', k, hj', hk, f1, f2, f3⟩ := q
  rw [e2] at f1; cases f1
  exact ⟨i, k, hi, hk, e1, f2, bef_trans e3 f3⟩
theorem befIns_asc {h : Hs} {x : Int} (hx : (idxF h x).isSome) : ∀ {l : List Int}, l.Pairwise (BefM h) → (∀ y ∈ l, (idxF h y).isSome ∧ y ≠ x) → (befIns h x l).Pairwise (BefM h)
  | [], _, _ => List.pairwise_singleton _ _
  | y :: r, hp, hk => by
    obtain ⟨h1, h2⟩ := List.pairwise_cons.1 hp
    unfold befIns
    split
    · rename_i hb
      refine List.pairwise_cons.2 ⟨fun z hz => ?_, befIns_asc hx h2 fun z hz => hk z (List.mem_cons_of_mem _ hz)⟩
      rcases (mem_befIns h x z r).1 hz with e | e
      · rw [e]; exact hb
      · exact h1 z e
    · rename_i hb
      have hk' := hk y List.mem_cons_self
      have h3 : BefM h x y := (befM_total hx hk'.1 fun e => hk'.2 e.symm).resolve_right hb
      refine List.pairwise_cons.2 ⟨fun z hz => ?_, hp⟩
      rcases List.mem_cons.1 hz with e | e
      · rw [e]; exact h3
      · exact befM_trans h3 (h1 z e)
theorem sortedR_ok (h : Hs) : ∀ (l o : List Int), o.Pairwise (BefM h) → (∀ y ∈ o, (idxF h y).isSome) → l.Nodup → (∀ y ∈ o, y ∉ l) →
    (l.foldl (fun o x => if (idxF h x).isSome then befIns h x o else o) o).Pairwise (BefM h) ∧ ∀ z, z ∈ l.foldl (fun o x => if (idxF h x).isSome then befIns h x o else o) o ↔ z ∈ o ∨ z ∈ l ∧ (idxF h z).isSome
  | [], o, ho, _, _, _ => ⟨ho, fun z => by simp⟩
  | x :: l, o, ho, hk, hn, hd => by
    obtain ⟨hn1, hn2⟩ := List.nodup_cons.1 hn
    rw [List.foldl_cons]
    by_cases hx : (idxF h x).isSome
    · rw [if_pos hx]
      obtain ⟨a, b⟩ := sortedR_ok h l (befIns h x o) (befIns_asc hx ho fun y hy => ⟨hk y hy, fun e => hd y hy (by rw [e]; exact List.mem_cons_self)⟩) (fun y hy => by
        rcases (mem_befIns h x y o).1 hy with e | e
        · rw [e]; exact hx
        · exact hk y e) hn2 fun y hy => by
        rcases (mem_befIns h x y o).1 hy with e | e
        · rw [e]; exact hn1
        · exact fun c => hd y e (List.mem_cons_of_mem _ c)
      refine ⟨a, fun z => ?_⟩
      rw [b z, mem_befIns]
      constructor
      · rintro ((c | c) | ⟨c, d⟩)
        · exact .inr ⟨by rw [c]; exact List.mem_cons_self, by rw [c]; exact hx⟩
        · exact .inl c
        · exact .inr ⟨List.mem_cons_of_mem _ c, d⟩
      · rintro (c | ⟨c, d⟩)
        · exact .inl (.inr c)
        · rcases List.mem_cons.1 c with c | c
          · exact .inl (.inl c)
          · exact .inr ⟨c, d⟩
    · rw [if_neg hx]
      obtain ⟨a, b⟩ := sortedR_ok h l o ho hk hn2 fun y hy c => hd y hy (List.mem_cons_of_mem _ c)
      refine ⟨a, fun z => ?_⟩
      rw [b z]
      constructor
      · rintro (c | ⟨c, d⟩)
        · exact .inl c
        · exact .inr ⟨List.mem_cons_of_mem _ c, d⟩
      · rintro (c | ⟨c, d⟩)
        · exact .inl c
        · rcases List.mem_cons.1 c with c | c
          · rw [c] at d; exact absurd d hx
          · exact .inr ⟨c, d⟩
theorem sorted_ref {h : Hs} (H : His rd R h) (ms : List Int) : sortedR h ms = sortedF h ms := by
  obtain ⟨r1, r2⟩ := rising_ok ms
  obtain ⟨a, b⟩ := sortedR_ok h (risingF ms) [] List.Pairwise.nil (fun y hy => nomatch hy) (r1.imp fun q => by omega) (fun y hy => nomatch hy)
  obtain ⟨c, d⟩ := sorted_ok H ms
  refine sorted_unique (r := BefM h) befM_asymm befM_irrefl a c fun z => ?_
  rw [show sortedR h ms = (risingF ms).foldl (fun o x => if (idxF h x).isSome then befIns h x o else o) [] from rfl, b z, d z, r2 z]
  simp

/-! ## Down, Past, Heads, Before, Level -/
end Go.Proofs.YtjkmalddfoemhaaGreatDoor
namespace Go.Proofs.YtjkmalddfoemhaaGreatDoor
open Go

def rc0 : Rg × Sg := signF [] 3 (txtF (nt 3 0 []))
def rc1 : Rg × Sg := signF rc0.1 3 (txtF (nt 3 1 [0]))
def rc2 : Rg × Sg := signF rc1.1 3 (txtF (nt 3 2 [1]))
def rc3 : Rg × Sg := signF rc2.1 9 [120]
def rc4 : Rg × Sg := signF rc3.1 4 (txtF (nt 4 0 []))
def rcR : Rg := rc4.1
def rcL : List Sg := [rc0.2, rc1.2, rc2.2, rc3.2, rc4.2]
def rcA : Hs := (addF rdF rcR [] rc0.2).1
def rcB : Hs := (addF rdF rcR [] rc4.2).1
def rcTo (k : Nat) : Hs := addAll rdF rcR [] (rcL.take k)
def rcH : Hs := rcTo 5
theorem rcTo_succ {k : Nat} (hk : k < rcL.length) : rcTo (k + 1) = (addF rdF rcR (rcTo k) rcL[k]).1 := by
  unfold rcTo addAll
  rw [List.take_succ_eq_append_getElem hk, List.foldl_append]; rfl
theorem rcTo_his (k : Nat) : His rdF rcR (rcTo k) := His.addAll _ His.nil
theorem rc_len : rcR.length = 5 ∧ rc0.1.length = 1 ∧ rc1.1.length = 2 ∧ rc2.1.length = 3 ∧ rc3.1.length = 4 := by decide +kernel
theorem rc_txt : (txtF (nt 3 0 [])).length ≤ 1000 ∧ (txtF (nt 3 1 [0])).length ≤ 1000 ∧ (txtF (nt 3 2 [1])).length ≤ 1000 ∧ (txtF (nt 4 0 [])).length ≤ 1000 := by decide +kernel
theorem rc_adds : (addF rdF rcR [] rc0.2).2 = 0 ∧ (addF rdF rcR [] rc4.2).2 = 0 := by decide +kernel
theorem rc_loop4 : (addF rdF rcR (rcTo 0) rc0.2).2 = 0 ∧ (addF rdF rcR (rcTo 1) rc1.2).2 = 0 ∧ (addF rdF rcR (rcTo 2) rc2.2).2 = 0 ∧ (addF rdF rcR (rcTo 3) rc3.2).2 ≠ 0 ∧ (addF rdF rcR (rcTo 4) rc4.2).2 = 0 := by decide +kernel
theorem rc_loop : ∀ k (hk : k < rcL.length), (addF rdF rcR (rcTo k) rcL[k]).2 = 0 ↔ k ≠ 3
  | 0, _ => ⟨fun _ => by decide, fun _ => rc_loop4.1⟩
  | 1, _ => ⟨fun _ => by decide, fun _ => rc_loop4.2.1⟩
  | 2, _ => ⟨fun _ => by decide, fun _ => rc_loop4.2.2.1⟩
  | 3, _ => ⟨fun q => absurd q rc_loop4.2.2.2.1, fun q => absurd rfl q⟩
  | 4, _ => ⟨fun _ => by decide, fun _ => rc_loop4.2.2.2.2⟩
  | k + 5, hk => by
    have : rcL.length = 5 := rfl
    omega
theorem rc_hisA : His rdF rcR rcA := His.nil.add rc0.2
theorem rc_hisB : His rdF rcR rcB := His.nil.add rc4.2
/-- What is computed in place of offers and gifts. -/
def offC (h : Hs) : List UInt8 := rgsE (rangesF (risingF (h.map Nd.mark)))
def gvC (h : Hs) (s : List UInt8) (b : Int) : List (List UInt8) := if (readO MM s).2 = 0 then giveL h (readO MM s).1 (sortedR h (risingF (h.map Nd.mark))) b else []
variable {rd : List UInt8 → En × Int} {R : Rg}
theorem marks_c {h : Hs} (H : His rd R h) : marksF h = risingF (h.map Nd.mark) := (rising_sort H.nodup).symm
theorem offC_eq {h : Hs} (H : His rd R h) : offerF h = offC h := by unfold offerF offerR offC; rw [marks_c H]
theorem gvC_eq {h : Hs} (H : His rd R h) (s : List UInt8) (b : Int) : (if (readO MM s).2 = 0 then giveF h (readO MM s).1 b else []) = gvC h s b := by
  unfold giveF gvC
  rw [sorted_ref H, marks_c H]
theorem rc_reads : readO MM [49, 59, 51, 59, 51, 59] = ([], 2) ∧ readO MM [50, 59, 48, 59, 51, 59, 51, 59, 53, 59] = ([], 2) ∧ (readO MM [49, 59, 48, 59, 49, 59]).2 = 0 := by decide +kernel
theorem rc_offers : offC rcH = [50, 59, 48, 59, 51, 59, 52, 59, 53, 59] ∧ offC [] = [48, 59] := by decide +kernel
theorem rc_gives : gvC rcH [49, 59, 48, 59, 49, 59] 1000 = [sgE rc4.2, sgE rc1.2, sgE rc2.2] := by decide +kernel
def oneC : List (List UInt8) := gvC rcA (offC rcB) (Int.tdiv (1000 - ((offC rcA).length + (offC rcB).length)) 2)
def twoC : List (List UInt8) := gvC rcB (offC rcA) (1000 - ((offC rcA).length + (offC rcB).length) - bytesL oneC)
def takC (h : Hs) (l : List (List UInt8)) : Hs := l.foldl (fun h t => (takeF rdF rcR h t).1) h
theorem takC_his : ∀ (l : List (List UInt8)) {h : Hs}, His rdF rcR h → His rdF rcR (takC h l)
  | [], _, H => H
  | t :: l, _, H => takC_his l (takeF_his H t)
theorem rc_bud : ((offC rcA).length : Int) + ((offC rcB).length : Int) ≤ 1000 := by decide +kernel
theorem rc_met : risingF ((takC rcA twoC).map Nd.mark) = [0, 4] ∧ risingF ((takC rcB oneC).map Nd.mark) = [0, 4] := by decide +kernel
theorem rc_marks : marksF (takC rcA twoC) = [0, 4] ∧ marksF (takC rcB oneC) = [0, 4] := by
  rw [marks_c (takC_his _ rc_hisA), marks_c (takC_his _ rc_hisB)]; exact rc_met
theorem rc_small : SgSmall rc0.2 ∧ SgSmall rc1.2 ∧ SgSmall rc2.2 ∧ SgSmall rc3.2 ∧ SgSmall rc4.2 := by
  have l := rc_len
  have t := rc_txt
  have h0 := sign_sg [] 3 (txtF (nt 3 0 []))
  have h1 := sign_sg rc0.1 3 (txtF (nt 3 1 [0]))
  have h2 := sign_sg rc1.1 3 (txtF (nt 3 2 [1]))
  have h3 := sign_sg rc2.1 9 [120]
  have h4 := sign_sg rc3.1 4 (txtF (nt 4 0 []))
  have z : ([] : Rg).length = 0 := rfl
  have z1 : ([120] : List UInt8).length = 1 := rfl
  exact ⟨⟨⟨h0.1, Int.le_of_lt h0.2.1⟩, ⟨h0.2.2.1, by show (signF [] 3 (txtF (nt 3 0 []))).2.mark ≤ _; omega⟩, by show (signF [] 3 (txtF (nt 3 0 []))).2.text.length ≤ _; omega⟩,
    ⟨⟨h1.1, Int.le_of_lt h1.2.1⟩, ⟨h1.2.2.1, by show (signF rc0.1 3 (txtF (nt 3 1 [0]))).2.mark ≤ _; omega⟩, by show (signF rc0.1 3 (txtF (nt 3 1 [0]))).2.text.length ≤ _; omega⟩,
    ⟨⟨h2.1, Int.le_of_lt h2.2.1⟩, ⟨h2.2.2.1, by show (signF rc1.1 3 (txtF (nt 3 2 [1]))).2.mark ≤ _; omega⟩, by show (signF rc1.1 3 (txtF (nt 3 2 [1]))).2.text.length ≤ _; omega⟩,
    ⟨⟨h3.1, Int.le_of_lt h3.2.1⟩, ⟨h3.2.2.1, by show (signF rc2.1 9 [120]).2.mark ≤ _; omega⟩, by show (signF rc2.1 9 [120]).2.text.length ≤ _; omega⟩,
    ⟨⟨h4.1, Int.le_of_lt h4.2.1⟩, ⟨h4.2.2.1, by show (signF rc3.1 4 (txtF (nt 4 0 []))).2.mark ≤ _; omega⟩, by show (signF rc3.1 4 (txtF (nt 4 0 []))).2.text.length ≤ _; omega⟩⟩
theorem rcL_small : ∀ s ∈ rcL, SgSmall s := by
  obtain ⟨h0, h1, h2, h3, h4⟩ := rc_small
  intro s hs
  simp only [rcL, List.mem_cons, List.not_mem_nil, or_false] at hs
  rcases hs with rfl | rfl | rfl | rfl | rfl <;> assumption
end Go.Proofs.YtjkmalddfoemhaaGreatDoor
