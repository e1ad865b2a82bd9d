/- Spans of coins in plain words: normal forms, and that there is one for each set of coins. No program in sight. -/
/- Numbers of coins; what two lists have together, in common, and one alone; the first coins. No program in sight. -/
/- The first coins and the others. No program in sight. -/
/- How long the results of the functions of spans are, and how great the sums. -/
import Derived.Test.YtdcahnkcnbhknaaGreatDoorFw
namespace Go.Proofs.YtdcahnkcnbhknaaGreatDoor
open Go

structure Sp where
  mark : Int
  fr : Int
  to : Int
deriving DecidableEq
def Sp.Ok (s : Sp) : Prop := 0 ≤ s.mark ∧ s.mark ≤ 1073741824 ∧ 0 ≤ s.fr ∧ s.fr < s.to ∧ s.to ≤ 1048576
instance (s : Sp) : Decidable s.Ok := by unfold Sp.Ok; exact inferInstance
/-- Coins as numbers: the marks lie far apart. -/
def Sp.lo (s : Sp) : Int := s.mark * 2097152 + s.fr
def Sp.hi (s : Sp) : Int := s.mark * 2097152 + s.to
def HasZ (l : List Sp) (z : Int) : Prop := ∃ s ∈ l, s.Ok ∧ s.lo ≤ z ∧ z < s.hi
theorem hasZ_nil (z : Int) : ¬ HasZ [] z := fun ⟨_, h, _⟩ => nomatch h
theorem hasZ_cons (s : Sp) (l : List Sp) (z : Int) : HasZ (s :: l) z ↔ (s.Ok ∧ s.lo ≤ z ∧ z < s.hi) ∨ HasZ l z := by
  unfold HasZ; simp
theorem hasZ_append (a b : List Sp) (z : Int) : HasZ (a ++ b) z ↔ HasZ a z ∨ HasZ b z := by
  unfold HasZ
  constructor
  · rintro ⟨s, h, r⟩
    rcases List.mem_append.1 h with h | h
    · exact .inl ⟨s, h, r⟩
    · exact .inr ⟨s, h, r⟩
  · rintro (⟨s, h, r⟩ | ⟨s, h, r⟩)
    · exact ⟨s, List.mem_append_left _ h, r⟩
    · exact ⟨s, List.mem_append_right _ h, r⟩
theorem hasZ_perm {a b : List Sp} (h : a.Perm b) (z : Int) : HasZ a z ↔ HasZ b z := by
  unfold HasZ
  constructor <;> rintro ⟨s, hs, r⟩
  · exact ⟨s, h.mem_iff.1 hs, r⟩
  · exact ⟨s, h.mem_iff.2 hs, r⟩
theorem hasZ_filter (l : List Sp) (z : Int) : HasZ (l.filter fun s => decide s.Ok) z ↔ HasZ l z := by
  unfold HasZ
  constructor <;> rintro ⟨s, hs, h, r⟩
  · exact ⟨s, (List.mem_filter.1 hs).1, h, r⟩
  · exact ⟨s, List.mem_filter.2 ⟨hs, decide_eq_true h⟩, h, r⟩
theorem Sp.ext_lohi {s t : Sp} (h1 : s.Ok) (h2 : t.Ok) (hl : s.lo = t.lo) (hh : s.hi = t.hi) : s = t := by
  obtain ⟨m, f, e⟩ := s
  obtain ⟨m', f', e'⟩ := t
  unfold Sp.Ok at h1 h2
  unfold Sp.lo at hl
  unfold Sp.hi at hh
  dsimp only at *
  have : m = m' := by omega
  subst this
  congr 1 <;> omega
theorem Sp.lohi {s : Sp} (h : s.Ok) : s.lo < s.hi := by unfold Sp.Ok at h; unfold Sp.lo Sp.hi; omega

/-- Normal form. -/
structure Nrm (l : List Sp) : Prop where
  ok : ∀ s ∈ l, s.Ok
  gap : l.Pairwise fun a b => a.hi < b.lo
theorem Nrm.nil : Nrm [] := ⟨fun _ h => (nomatch h), List.Pairwise.nil⟩
theorem Nrm.tail {s : Sp} {l : List Sp} (h : Nrm (s :: l)) : Nrm l := ⟨fun t ht => h.ok t (List.mem_cons_of_mem _ ht), (List.pairwise_cons.1 h.gap).2⟩
theorem Nrm.low {s : Sp} {l : List Sp} (h : Nrm (s :: l)) {z : Int} (hz : HasZ l z) : s.hi < z := by
  obtain ⟨t, ht, _, h1, _⟩ := hz
  have := (List.pairwise_cons.1 h.gap).1 t ht
  omega
theorem Nrm.least {s : Sp} {l : List Sp} (h : Nrm (s :: l)) {z : Int} (hz : HasZ (s :: l) z) : s.lo ≤ z := by
  rcases (hasZ_cons s l z).1 hz with ⟨_, h1, _⟩ | h1
  · exact h1
  · have := h.low h1; have := Sp.lohi (h.ok s List.mem_cons_self); omega
theorem Nrm.first {s : Sp} {l : List Sp} (h : Nrm (s :: l)) : HasZ (s :: l) s.lo := ⟨s, List.mem_cons_self, h.ok s List.mem_cons_self, Int.le_refl _, Sp.lohi (h.ok s List.mem_cons_self)⟩
/-- For each set of coins there is one normal form. -/
theorem nrm_unique : ∀ {x y : List Sp}, Nrm x → Nrm y → (∀ z, HasZ x z ↔ HasZ y z) → x = y
  | [], [], _, _, _ => rfl
  | [], t :: u, _, hy, h => absurd ((h _).2 hy.first) (hasZ_nil _)
  | s :: r, [], hx, _, h => absurd ((h _).1 hx.first) (hasZ_nil _)
  | s :: r, t :: u, hx, hy, h => by
    have so := hx.ok s List.mem_cons_self
    have to := hy.ok t List.mem_cons_self
    have sl := Sp.lohi so
    have tl := Sp.lohi to
    have hlo : s.lo = t.lo := by
      have h1 := hy.least ((h _).1 hx.first)
      have h2 := hx.least ((h _).2 hy.first)
      omega
    have hhi : s.hi = t.hi := by
      rcases Int.lt_trichotomy s.hi t.hi with h1 | h1 | h1
      · have h2 : HasZ (s :: r) s.hi := (h _).2 ⟨t, List.mem_cons_self, to, by omega, h1⟩
        rcases (hasZ_cons _ _ _).1 h2 with ⟨_, _, h3⟩ | h3
        · omega
        · have := hx.low h3; omega
      · exact h1
      · have h2 : HasZ (t :: u) t.hi := (h _).1 ⟨s, List.mem_cons_self, so, by omega, h1⟩
        rcases (hasZ_cons _ _ _).1 h2 with ⟨_, _, h3⟩ | h3
        · omega
        · have := hy.low h3; omega
    have hst := Sp.ext_lohi so to hlo hhi
    subst hst
    rw [nrm_unique hx.tail hy.tail fun z => ?_]
    have h1 := h z
    rw [hasZ_cons, hasZ_cons] at h1
    constructor
    · intro hz
      have h2 := hx.low hz
      rcases h1.1 (.inr hz) with ⟨_, _, h3⟩ | h3
      · omega
      · exact h3
    · intro hz
      have h2 := hy.low hz
      rcases h1.2 (.inr hz) with ⟨_, _, h3⟩ | h3
      · omega
      · exact h3
/-- What the loop of Norm does with the spans in their order. -/
def mergeTo : List Sp → List Sp → List Sp
  | out, [] => out
  | out, s :: r =>
    match out.getLast? with
    | some k => if k.mark = s.mark ∧ s.fr ≤ k.to then mergeTo (out.dropLast ++ [{ k with to := max k.to s.to }]) r else mergeTo (out ++ [s]) r
    | none => mergeTo (out ++ [s]) r
theorem touch_iff {k s : Sp} (hk : k.Ok) (hs : s.Ok) (h : k.lo ≤ s.lo) : (k.mark = s.mark ∧ s.fr ≤ k.to) ↔ s.lo ≤ k.hi := by
  unfold Sp.Ok at hk hs
  unfold Sp.lo Sp.hi at *
  constructor
  · rintro ⟨h1, h2⟩; rw [h1]; omega
  · intro h1
    have : k.mark = s.mark := by omega
    exact ⟨this, by rw [this] at h1; omega⟩
theorem nrm_snoc {l : List Sp} {s : Sp} (h : Nrm l) (hs : s.Ok) (hg : ∀ t ∈ l, t.hi < s.lo) : Nrm (l ++ [s]) := by
  refine ⟨fun t ht => ?_, ?_⟩
  · rcases List.mem_append.1 ht with ht | ht
    · exact h.ok t ht
    · rw [List.mem_singleton.1 ht]; exact hs
  · rw [List.pairwise_append]
    exact ⟨h.gap, List.pairwise_singleton _ _, fun a ha b hb => by rw [List.mem_singleton.1 hb]; exact hg a ha⟩
theorem merge_nrm : ∀ (r out : List Sp), Nrm out → (∀ s ∈ r, s.Ok) → (r.Pairwise fun a b => a.lo ≤ b.lo) → (∀ t ∈ out, ∀ s ∈ r, t.lo ≤ s.lo) →
    Nrm (mergeTo out r) ∧ ∀ z, HasZ (mergeTo out r) z ↔ HasZ out z ∨ HasZ r z
  | [], out, ho, _, _, _ => ⟨ho, fun z => ⟨.inl, fun h => h.elim id fun h => absurd h (hasZ_nil z)⟩⟩
  | s :: r, out, ho, hr, hp, hl => by
    have hs := hr s List.mem_cons_self
    have hr' : ∀ t ∈ r, t.Ok := fun t ht => hr t (List.mem_cons_of_mem _ ht)
    obtain ⟨hp1, hp2⟩ := List.pairwise_cons.1 hp
    unfold mergeTo
    cases hk : out.getLast? with
    | none =>
      have he : out = [] := List.getLast?_eq_none_iff.1 hk
      subst he
      dsimp only
      obtain ⟨h1, h2⟩ := merge_nrm r ([] ++ [s]) (nrm_snoc Nrm.nil hs fun t ht => nomatch ht) hr' hp2 fun t ht u hu => by
        rw [List.nil_append, List.mem_singleton] at ht
        rw [ht]; exact hp1 u hu
      refine ⟨h1, fun z => ?_⟩
      rw [h2 z, hasZ_append, hasZ_cons s r, hasZ_cons s []]
      have := hasZ_nil z
      constructor
      · rintro ((h | (h | h)) | h)
        · exact absurd h this
        · exact .inr (.inl h)
        · exact absurd h this
        · exact .inr (.inr h)
      · rintro (h | (h | h))
        · exact absurd h this
        · exact .inl (.inr (.inl h))
        · exact .inr h
    | some k =>
      obtain ⟨d, rfl⟩ := List.getLast?_eq_some_iff.1 hk
      have hkm : k ∈ d ++ [k] := List.mem_append_right _ List.mem_cons_self
      have hko := ho.ok k hkm
      have hks := hl k hkm s List.mem_cons_self
      have hd : Nrm d := ⟨fun t ht => ho.ok t (List.mem_append_left _ ht), (List.pairwise_append.1 ho.gap).1⟩
      have hdk : ∀ t ∈ d, t.hi < k.lo := fun t ht => (List.pairwise_append.1 ho.gap).2.2 t ht k List.mem_cons_self
      dsimp only
      by_cases hc : k.mark = s.mark ∧ s.fr ≤ k.to
      · rw [if_pos hc, List.dropLast_concat]
        have hk2 : ({ k with to := max k.to s.to } : Sp).Ok := by unfold Sp.Ok at *; dsimp only; omega
        have hlo2 : ({ k with to := max k.to s.to } : Sp).lo = k.lo := rfl
        obtain ⟨h1, h2⟩ := merge_nrm r (d ++ [{ k with to := max k.to s.to }]) (nrm_snoc hd hk2 fun t ht => by rw [hlo2]; exact hdk t ht) hr' hp2 fun t ht u hu => by
          rcases List.mem_append.1 ht with ht | ht
          · exact hl t (List.mem_append_left _ ht) u (List.mem_cons_of_mem _ hu)
          · rw [List.mem_singleton.1 ht, hlo2]; exact hl k hkm u (List.mem_cons_of_mem _ hu)
        refine ⟨h1, fun z => ?_⟩
        rw [h2 z, hasZ_append, hasZ_append, hasZ_cons s r, hasZ_cons _ [], hasZ_cons k []]
        have hn := hasZ_nil z
        have hin : (({ k with to := max k.to s.to } : Sp).Ok ∧ ({ k with to := max k.to s.to } : Sp).lo ≤ z ∧ z < ({ k with to := max k.to s.to } : Sp).hi) ↔ (k.Ok ∧ k.lo ≤ z ∧ z < k.hi) ∨ (s.Ok ∧ s.lo ≤ z ∧ z < s.hi) := by
          obtain ⟨e1, e2⟩ := hc
          have f1 := hko; have f2 := hs
          unfold Sp.Ok at f1 f2
          constructor
          · rintro ⟨_, h3, h4⟩
            unfold Sp.lo at h3 hks
            unfold Sp.hi at h4
            dsimp only at h3 h4
            by_cases hz : z < k.hi
            · exact .inl ⟨hko, h3, hz⟩
            · unfold Sp.hi at hz
              refine .inr ⟨hs, ?_, ?_⟩
              · unfold Sp.lo; rw [← e1]; omega
              · unfold Sp.hi; rw [← e1]; omega
          · rintro (⟨_, h3, h4⟩ | ⟨_, h3, h4⟩)
            · refine ⟨hk2, h3, ?_⟩
              unfold Sp.hi at h4 ⊢; dsimp only; omega
            · refine ⟨hk2, by rw [hlo2]; omega, ?_⟩
              unfold Sp.hi at h4 ⊢; dsimp only; rw [← e1] at h4; omega
        rw [hin]
        constructor
        · rintro ((h | ((h | h) | h)) | h)
          · exact .inl (.inl h)
          · exact .inl (.inr (.inl h))
          · exact .inr (.inl h)
          · exact absurd h hn
          · exact .inr (.inr h)
        · rintro ((h | (h | h)) | (h | h))
          · exact .inl (.inl h)
          · exact .inl (.inr (.inl (.inl h)))
          · exact absurd h hn
          · exact .inl (.inr (.inl (.inr h)))
          · exact .inr h
      · rw [if_neg hc]
        have hgap : k.hi < s.lo := by
          have := mt (touch_iff hko hs hks).2 hc
          omega
        obtain ⟨h1, h2⟩ := merge_nrm r (d ++ [k] ++ [s]) (nrm_snoc ho hs fun t ht => by
          rcases List.mem_append.1 ht with ht | ht
          · have := hdk t ht; have := Sp.lohi hko; omega
          · rw [List.mem_singleton.1 ht]; exact hgap) hr' hp2 fun t ht u hu => by
          rcases List.mem_append.1 ht with ht | ht
          · exact hl t ht u (List.mem_cons_of_mem _ hu)
          · rw [List.mem_singleton.1 ht]; exact hp1 u hu
        refine ⟨h1, fun z => ?_⟩
        rw [h2 z, hasZ_append, hasZ_cons s r, hasZ_cons s []]
        have hn := hasZ_nil z
        constructor
        · rintro ((h | (h | h)) | h)
          · exact .inl h
          · exact .inr (.inl h)
          · exact absurd h hn
          · exact .inr (.inr h)
        · rintro (h | (h | h))
          · exact .inl (.inl h)
          · exact .inl (.inr (.inl h))
          · exact .inr h
def leLo (a b : Sp) : Bool := decide (a.lo ≤ b.lo)
/-- The normal form. -/
def normF (l : List Sp) : List Sp := mergeTo [] ((l.filter fun s => decide s.Ok).mergeSort leLo)
theorem merge_of {l r : List Sp} (hp : r.Perm (l.filter fun s => decide s.Ok)) (hs : r.Pairwise fun a b => a.lo ≤ b.lo) : Nrm (mergeTo [] r) ∧ ∀ z, HasZ (mergeTo [] r) z ↔ HasZ l z := by
  obtain ⟨h1, h2⟩ := merge_nrm r [] Nrm.nil (fun s h => by have := (List.mem_filter.1 (hp.mem_iff.1 h)).2; simpa using this) hs fun t ht => nomatch ht
  refine ⟨h1, fun z => ?_⟩
  rw [h2 z, hasZ_perm hp, hasZ_filter]
  exact ⟨fun h => h.elim (fun h => absurd h (hasZ_nil z)) id, .inr⟩
theorem norm_spec (l : List Sp) : Nrm (normF l) ∧ ∀ z, HasZ (normF l) z ↔ HasZ l z := by
  refine merge_of (List.mergeSort_perm _ _) ?_
  have := List.pairwise_mergeSort (le := leLo) (fun a b c h1 h2 => by unfold leLo at *; simp only [decide_eq_true_eq] at *; omega) (fun a b => by unfold leLo; simp only [Bool.or_eq_true, decide_eq_true_eq]; omega) (l.filter fun s => decide s.Ok)
  exact this.imp fun h => by unfold leLo at h; simpa using h
theorem norm_of {l r : List Sp} (hp : r.Perm (l.filter fun s => decide s.Ok)) (hs : r.Pairwise fun a b => a.lo ≤ b.lo) : mergeTo [] r = normF l :=
  nrm_unique (merge_of hp hs).1 (norm_spec l).1 fun z => ((merge_of hp hs).2 z).trans ((norm_spec l).2 z).symm
theorem norm_same {l : List Sp} (h : Nrm l) : normF l = l := nrm_unique (norm_spec l).1 h (norm_spec l).2
theorem norm_eq_iff (a b : List Sp) : normF a = normF b ↔ ∀ z, HasZ a z ↔ HasZ b z := by
  constructor
  · intro h z
    rw [← (norm_spec a).2 z, ← (norm_spec b).2 z, h]
  · intro h
    exact nrm_unique (norm_spec a).1 (norm_spec b).1 fun z => by rw [(norm_spec a).2 z, (norm_spec b).2 z]; exact h z
end Go.Proofs.YtdcahnkcnbhknaaGreatDoor
namespace Go.Proofs.YtdcahnkcnbhknaaGreatDoor
open Go

instance (l : List Sp) (z : Int) : Decidable (HasZ l z) := by unfold HasZ; exact inferInstance
/-- More coins than there are. -/
def allZ : Nat := 1073741825 * 2097152
theorem allZ_eq : (allZ : Int) = 1073741825 * 2097152 := by unfold allZ; rfl
/-- So many numbers from 0 to below n have the property. -/
def cnt (p : Int → Bool) : Nat → Nat
  | 0 => 0
  | n + 1 => cnt p n + (if p n then 1 else 0)
theorem cnt_congr {p q : Int → Bool} : ∀ n : Nat, (∀ z : Int, 0 ≤ z → z < n → p z = q z) → cnt p n = cnt q n
  | 0, _ => rfl
  | n + 1, h => by
    unfold cnt
    rw [cnt_congr n fun z h1 h2 => h z h1 (by omega), h n (by omega) (by omega)]
theorem cnt_add (p q : Int → Bool) : ∀ n, cnt (fun z => p z || q z) n + cnt (fun z => p z && q z) n = cnt p n + cnt q n
  | 0 => rfl
  | n + 1 => by
    unfold cnt
    have := cnt_add p q n
    cases p n <;> cases q n <;> simp <;> omega
theorem cnt_none (n : Nat) : cnt (fun _ => false) n = 0 := by
  induction n with
  | zero => rfl
  | succ n ih => unfold cnt; rw [ih]; rfl
theorem cnt_or {p q : Int → Bool} (n : Nat) (h : ∀ z, p z = true → q z = true → False) : cnt (fun z => p z || q z) n = cnt p n + cnt q n := by
  have h1 := cnt_add p q n
  have h2 : cnt (fun z => p z && q z) n = 0 := by
    rw [cnt_congr (q := fun _ => false) n fun z _ _ => ?_, cnt_none]
    cases hp : p z <;> cases hq : q z <;> simp
    exact h z hp hq
  omega
theorem cnt_range (a b : Int) (h0 : 0 ≤ a) (hab : a ≤ b) : ∀ n : Nat, (cnt (fun z => decide (a ≤ z) && decide (z < b)) n : Int) = max 0 (min b n - a)
  | 0 => by unfold cnt; simp; omega
  | n + 1 => by
    unfold cnt
    have ih := cnt_range a b h0 hab n
    by_cases h1 : a ≤ (n : Int)
    · by_cases h2 : (n : Int) < b
      · rw [decide_eq_true h1, decide_eq_true h2]
        simp only [Bool.and_self, if_true, Int.natCast_add]
        omega
      · rw [decide_eq_true h1, decide_eq_false h2]
        simp
        omega
    · rw [decide_eq_false h1]
      simp
      omega
def coins (l : List Sp) : Nat := cnt (fun z => decide (HasZ l z)) allZ
theorem coins_congr {a b : List Sp} (h : ∀ z, HasZ a z ↔ HasZ b z) : coins a = coins b := cnt_congr _ fun z _ _ => decide_eq_decide.2 (h z)
def spanSum : List Sp → Int
  | [] => 0
  | s :: r => (s.to - s.fr) + spanSum r
theorem ok_range {s : Sp} (h : s.Ok) : 0 ≤ s.lo ∧ s.hi ≤ allZ := by
  rw [allZ_eq]
  unfold Sp.Ok at h
  unfold Sp.lo Sp.hi
  omega
theorem coins_sum : ∀ {l : List Sp}, Nrm l → (coins l : Int) = spanSum l
  | [], _ => by
    unfold coins spanSum
    rw [cnt_congr (q := fun _ => false) _ fun z _ _ => decide_eq_false (hasZ_nil z), cnt_none]
    rfl
  | s :: r, h => by
    have hs := h.ok s List.mem_cons_self
    have hr := ok_range hs
    have hl := Sp.lohi hs
    have h1 : coins (s :: r) = cnt (fun z => (decide (s.lo ≤ z) && decide (z < s.hi)) || decide (HasZ r z)) allZ := cnt_congr _ fun z _ _ => by
      by_cases hz : HasZ r z
      · rw [decide_eq_true ((hasZ_cons s r z).2 (.inr hz)), decide_eq_true hz, Bool.or_true]
      · rw [decide_eq_false hz, Bool.or_false, ← Bool.decide_and]
        exact decide_eq_decide.2 ⟨fun h => ((hasZ_cons s r z).1 h).elim (fun h => h.2) fun h => absurd h hz, fun h => (hasZ_cons s r z).2 (.inl ⟨hs, h⟩)⟩
    have h2 := cnt_or (p := fun z => decide (s.lo ≤ z) && decide (z < s.hi)) (q := fun z => decide (HasZ r z)) allZ fun z ha hb => by
      simp only [Bool.and_eq_true, decide_eq_true_eq] at ha hb
      have := h.low hb
      omega
    have h3 := cnt_range s.lo s.hi hr.1 (by omega) allZ
    have h4 := coins_sum h.tail
    have h5 : s.hi - s.lo = s.to - s.fr := by unfold Sp.hi Sp.lo; omega
    unfold coins at h4
    rw [h1, h2, spanSum, ← h4]
    have h6 : min s.hi (allZ : Int) = s.hi := Int.min_eq_left hr.2
    rw [h6] at h3
    omega
def countF (l : List Sp) : Int := spanSum (normF l)
theorem count_coins (l : List Sp) : countF l = coins l := by
  unfold countF
  rw [← coins_sum (norm_spec l).1]
  exact congrArg _ (coins_congr (norm_spec l).2)
def unionF (a b : List Sp) : List Sp := normF (a ++ b)
theorem union_has (a b : List Sp) (z : Int) : HasZ (unionF a b) z ↔ HasZ a z ∨ HasZ b z := by
  unfold unionF
  rw [(norm_spec _).2 z, hasZ_append]
/-- The common part of two spans. -/
def meet (x y : Sp) : List Sp := if x.mark = y.mark then [⟨x.mark, max x.fr y.fr, min x.to y.to⟩] else []
def commonL (a b : List Sp) : List Sp := (a.map fun x => (b.map fun y => meet x y).flatten).flatten
def commonF (a b : List Sp) : List Sp := normF (commonL (normF a) (normF b))
theorem has_mark {s : Sp} {z : Int} (h : s.Ok) (h1 : s.lo ≤ z) (h2 : z < s.hi) : s.mark = z / 2097152 ∧ s.fr ≤ z % 2097152 ∧ z % 2097152 < s.to := by
  unfold Sp.Ok at h
  unfold Sp.lo at h1
  unfold Sp.hi at h2
  omega
theorem mark_has {s : Sp} {z : Int} (h : s.mark = z / 2097152) (h1 : s.fr ≤ z % 2097152) (h2 : z % 2097152 < s.to) : s.lo ≤ z ∧ z < s.hi := by
  unfold Sp.lo Sp.hi
  rw [h]
  omega
theorem meet_has {x y : Sp} (hx : x.Ok) (hy : y.Ok) (z : Int) : HasZ (meet x y) z ↔ (x.lo ≤ z ∧ z < x.hi) ∧ (y.lo ≤ z ∧ z < y.hi) := by
  unfold meet
  constructor
  · intro h
    split at h
    · rename_i hm
      rcases (hasZ_cons _ _ _).1 h with ⟨ho, h1, h2⟩ | h
      · obtain ⟨e1, e2, e3⟩ := has_mark ho h1 h2
        dsimp only at e1 e2 e3
        exact ⟨mark_has e1 (by omega) (by omega), mark_has (by omega) (by omega) (by omega)⟩
      · exact absurd h (hasZ_nil z)
    · exact absurd h (hasZ_nil z)
  · rintro ⟨⟨h1, h2⟩, h3, h4⟩
    obtain ⟨e1, e2, e3⟩ := has_mark hx h1 h2
    obtain ⟨f1, f2, f3⟩ := has_mark hy h3 h4
    have hm : x.mark = y.mark := by omega
    rw [if_pos hm]
    refine ⟨_, List.mem_cons_self, ?_, mark_has e1 (by dsimp only; omega) (by dsimp only; omega)⟩
    unfold Sp.Ok at *
    dsimp only
    omega
theorem hasZ_flat {α : Type} (f : α → List Sp) (l : List α) (z : Int) : HasZ (l.map f).flatten z ↔ ∃ x ∈ l, HasZ (f x) z := by
  induction l with
  | nil => simp [HasZ]
  | cons a r ih =>
    rw [List.map_cons, List.flatten_cons, hasZ_append, ih]
    simp
theorem common_has (a b : List Sp) (z : Int) : HasZ (commonF a b) z ↔ HasZ a z ∧ HasZ b z := by
  have na := norm_spec a
  have nb := norm_spec b
  unfold commonF commonL
  rw [(norm_spec _).2 z, hasZ_flat, ← na.2 z, ← nb.2 z]
  constructor
  · rintro ⟨x, hx, h⟩
    obtain ⟨y, hy, h⟩ := (hasZ_flat _ _ _).1 h
    obtain ⟨h1, h2⟩ := (meet_has (na.1.ok x hx) (nb.1.ok y hy) z).1 h
    exact ⟨⟨x, hx, na.1.ok x hx, h1⟩, ⟨y, hy, nb.1.ok y hy, h2⟩⟩
  · rintro ⟨⟨x, hx, _, h1⟩, ⟨y, hy, _, h2⟩⟩
    exact ⟨x, hx, (hasZ_flat _ _ _).2 ⟨y, hy, (meet_has (na.1.ok x hx) (nb.1.ok y hy) z).2 ⟨h1, h2⟩⟩⟩
theorem count_union (a b : List Sp) : countF (unionF a b) + countF (commonF a b) = countF a + countF b := by
  rw [count_coins, count_coins, count_coins, count_coins]
  have h := cnt_add (fun z => decide (HasZ a z)) (fun z => decide (HasZ b z)) allZ
  have h1 : coins (unionF a b) = cnt (fun z => decide (HasZ a z) || decide (HasZ b z)) allZ := cnt_congr _ fun z _ _ => by
    rw [← Bool.decide_or]; exact decide_eq_decide.2 (union_has a b z)
  have h2 : coins (commonF a b) = cnt (fun z => decide (HasZ a z) && decide (HasZ b z)) allZ := cnt_congr _ fun z _ _ => by
    rw [← Bool.decide_and]; exact decide_eq_decide.2 (common_has a b z)
  rw [h1, h2]
  unfold coins
  omega
/-- What is left of a span without another one. -/
def cutS (y x : Sp) : List Sp := if x.mark ≠ y.mark then [x] else [⟨x.mark, x.fr, min x.to y.fr⟩, ⟨x.mark, max x.fr y.to, x.to⟩]
def cutL (l : List Sp) (y : Sp) : List Sp := normF (l.map (cutS y)).flatten
def minusF (a b : List Sp) : List Sp := (normF b).foldl cutL (normF a)
theorem cutS_has {x y : Sp} (hx : x.Ok) (hy : y.Ok) (z : Int) : HasZ (cutS y x) z ↔ (x.lo ≤ z ∧ z < x.hi) ∧ ¬ (y.lo ≤ z ∧ z < y.hi) := by
  unfold cutS
  by_cases hm : x.mark = y.mark
  · rw [if_neg (fun h => h hm), hasZ_cons, hasZ_cons]
    constructor
    · rintro (⟨ho, h1, h2⟩ | ⟨ho, h1, h2⟩ | h)
      · obtain ⟨e1, e2, e3⟩ := has_mark ho h1 h2
        dsimp only at e1 e2 e3
        refine ⟨mark_has e1 e2 (by omega), fun ⟨h3, h4⟩ => ?_⟩
        have := has_mark hy h3 h4
        omega
      · obtain ⟨e1, e2, e3⟩ := has_mark ho h1 h2
        dsimp only at e1 e2 e3
        refine ⟨mark_has e1 (by omega) e3, fun ⟨h3, h4⟩ => ?_⟩
        have := has_mark hy h3 h4
        omega
      · exact absurd h (hasZ_nil z)
    · rintro ⟨⟨h1, h2⟩, h3⟩
      obtain ⟨e1, e2, e3⟩ := has_mark hx h1 h2
      have h4 : ¬ (y.fr ≤ z % 2097152 ∧ z % 2097152 < y.to) := fun ⟨h5, h6⟩ => h3 (mark_has (by omega) h5 h6)
      unfold Sp.Ok at hx hy
      by_cases h5 : z % 2097152 < y.fr
      · exact .inl ⟨by unfold Sp.Ok; dsimp only; omega, mark_has e1 e2 (by dsimp only; omega)⟩
      · exact .inr (.inl ⟨by unfold Sp.Ok; dsimp only; omega, mark_has e1 (by dsimp only; omega) e3⟩)
  · rw [if_pos hm, hasZ_cons]
    constructor
    · rintro (⟨_, h1, h2⟩ | h)
      · refine ⟨⟨h1, h2⟩, fun ⟨h3, h4⟩ => hm ?_⟩
        have := has_mark hx h1 h2
        have := has_mark hy h3 h4
        omega
      · exact absurd h (hasZ_nil z)
    · rintro ⟨⟨h1, h2⟩, _⟩
      exact .inl ⟨hx, h1, h2⟩
theorem cutL_spec {l : List Sp} (hl : Nrm l) {y : Sp} (hy : y.Ok) : Nrm (cutL l y) ∧ ∀ z, HasZ (cutL l y) z ↔ HasZ l z ∧ ¬ (y.lo ≤ z ∧ z < y.hi) := by
  unfold cutL
  refine ⟨(norm_spec _).1, fun z => ?_⟩
  rw [(norm_spec _).2 z, hasZ_flat]
  constructor
  · rintro ⟨x, hx, h⟩
    obtain ⟨h1, h2⟩ := (cutS_has (hl.ok x hx) hy z).1 h
    exact ⟨⟨x, hx, hl.ok x hx, h1⟩, h2⟩
  · rintro ⟨⟨x, hx, _, h1⟩, h2⟩
    exact ⟨x, hx, (cutS_has (hl.ok x hx) hy z).2 ⟨h1, h2⟩⟩
theorem fold_cut : ∀ (b l : List Sp), Nrm l → (∀ y ∈ b, y.Ok) → Nrm (b.foldl cutL l) ∧ ∀ z, HasZ (b.foldl cutL l) z ↔ HasZ l z ∧ ¬ HasZ b z
  | [], l, hl, _ => ⟨hl, fun z => ⟨fun h => ⟨h, hasZ_nil z⟩, fun h => h.1⟩⟩
  | y :: r, l, hl, hb => by
    have hy := hb y List.mem_cons_self
    obtain ⟨h1, h2⟩ := cutL_spec hl hy
    obtain ⟨h3, h4⟩ := fold_cut r (cutL l y) h1 fun t ht => hb t (List.mem_cons_of_mem _ ht)
    refine ⟨h3, fun z => ?_⟩
    rw [List.foldl_cons, h4 z, h2 z, hasZ_cons]
    constructor
    · rintro ⟨⟨h5, h6⟩, h7⟩
      exact ⟨h5, fun h => h.elim (fun h => h6 h.2) h7⟩
    · rintro ⟨h5, h6⟩
      exact ⟨⟨h5, fun h => h6 (.inl ⟨hy, h⟩)⟩, fun h => h6 (.inr h)⟩
theorem minus_spec (a b : List Sp) : Nrm (minusF a b) ∧ ∀ z, HasZ (minusF a b) z ↔ HasZ a z ∧ ¬ HasZ b z := by
  obtain ⟨h1, h2⟩ := fold_cut (normF b) (normF a) (norm_spec a).1 (norm_spec b).1.ok
  refine ⟨h1, fun z => ?_⟩
  have := h2 z
  rw [(norm_spec a).2 z, (norm_spec b).2 z] at this
  exact this
theorem nrm_empty {l : List Sp} (h : Nrm l) : l = [] ↔ ∀ z, ¬ HasZ l z := by
  constructor
  · rintro rfl z; exact hasZ_nil z
  · intro hz
    cases l with
    | nil => rfl
    | cons s r => exact absurd h.first (hz _)
theorem minus_both (a b : List Sp) : (minusF a b = [] ∧ minusF b a = []) ↔ normF a = normF b := by
  rw [nrm_empty (minus_spec a b).1, nrm_empty (minus_spec b a).1, norm_eq_iff]
  constructor
  · rintro ⟨h1, h2⟩ z
    constructor
    · intro h
      exact Classical.byContradiction fun h3 => h1 z (((minus_spec a b).2 z).2 ⟨h, h3⟩)
    · intro h
      exact Classical.byContradiction fun h3 => h2 z (((minus_spec b a).2 z).2 ⟨h, h3⟩)
  · intro h
    exact ⟨fun z hz => (((minus_spec a b).2 z).1 hz).2 ((h z).1 (((minus_spec a b).2 z).1 hz).1), fun z hz => (((minus_spec b a).2 z).1 hz).2 ((h z).2 (((minus_spec b a).2 z).1 hz).1)⟩
end Go.Proofs.YtdcahnkcnbhknaaGreatDoor
namespace Go.Proofs.YtdcahnkcnbhknaaGreatDoor
open Go

/-- The pieces, before they are put in normal form. -/
def takeP : List Sp → Int → List Sp × List Sp
  | [], _ => ([], [])
  | s :: r, n =>
    (⟨s.mark, s.fr, s.fr + min (max n 0) (s.to - s.fr)⟩ :: (takeP r (max n 0 - min (max n 0) (s.to - s.fr))).1,
      ⟨s.mark, s.fr + min (max n 0) (s.to - s.fr), s.to⟩ :: (takeP r (max n 0 - min (max n 0) (s.to - s.fr))).2)
def takeC (l : List Sp) (n : Int) : List Sp × List Sp := (normF (takeP (normF l) n).1, normF (takeP (normF l) n).2)
theorem head_has {s : Sp} (h : s.Ok) {k : Int} (h0 : 0 ≤ k) (hk : k ≤ s.to - s.fr) (z : Int) : ((⟨s.mark, s.fr, s.fr + k⟩ : Sp).Ok ∧ (⟨s.mark, s.fr, s.fr + k⟩ : Sp).lo ≤ z ∧ z < (⟨s.mark, s.fr, s.fr + k⟩ : Sp).hi) ↔ s.lo ≤ z ∧ z < s.lo + k := by
  unfold Sp.Ok Sp.lo Sp.hi at *
  dsimp only
  constructor
  · rintro ⟨_, h1, h2⟩; omega
  · rintro ⟨h1, h2⟩; omega
theorem tail_has {s : Sp} (h : s.Ok) {k : Int} (h0 : 0 ≤ k) (hk : k ≤ s.to - s.fr) (z : Int) : ((⟨s.mark, s.fr + k, s.to⟩ : Sp).Ok ∧ (⟨s.mark, s.fr + k, s.to⟩ : Sp).lo ≤ z ∧ z < (⟨s.mark, s.fr + k, s.to⟩ : Sp).hi) ↔ s.lo + k ≤ z ∧ z < s.hi := by
  unfold Sp.Ok Sp.lo Sp.hi at *
  dsimp only
  constructor
  · rintro ⟨_, h1, h2⟩; omega
  · rintro ⟨h1, h2⟩; omega
theorem takeP_zero : ∀ {l : List Sp}, Nrm l → ∀ z, ¬ HasZ (takeP l 0).1 z
  | [], _, z => hasZ_nil z
  | s :: r, h, z => by
    have hs := h.ok s List.mem_cons_self
    have hl := hs
    unfold Sp.Ok at hl
    have e : min (max (0 : Int) 0) (s.to - s.fr) = 0 := by omega
    unfold takeP
    rw [e, show max (0 : Int) 0 - 0 = 0 by omega]
    dsimp only
    rw [hasZ_cons, head_has hs (Int.le_refl _) (by omega)]
    rintro (h1 | h1)
    · omega
    · exact takeP_zero h.tail z h1
theorem takeP_spec : ∀ {l : List Sp} (n : Int), Nrm l → ∃ c : Int, (∀ z, HasZ (takeP l n).1 z ↔ HasZ l z ∧ z < c) ∧ ∀ z, HasZ (takeP l n).2 z ↔ HasZ l z ∧ c ≤ z
  | [], n, _ => ⟨0, fun z => ⟨fun h => absurd h (hasZ_nil z), fun h => absurd h.1 (hasZ_nil z)⟩, fun z => ⟨fun h => absurd h (hasZ_nil z), fun h => absurd h.1 (hasZ_nil z)⟩⟩
  | s :: r, n, h => by
    have hs := h.ok s List.mem_cons_self
    have hsl := Sp.lohi hs
    have hl : s.hi - s.lo = s.to - s.fr := by unfold Sp.hi Sp.lo; omega
    have hlow := fun z (hz : HasZ r z) => h.low hz
    obtain ⟨k, hk⟩ : ∃ k, min (max n 0) (s.to - s.fr) = k := ⟨_, rfl⟩
    have hk0 : 0 ≤ k := by omega
    have hk1 : k ≤ s.to - s.fr := by omega
    obtain ⟨c', h1, h2⟩ := takeP_spec (max n 0 - k) h.tail
    unfold takeP
    rw [hk]
    dsimp only
    by_cases hf : k < s.to - s.fr
    · have hn : max n 0 - k = 0 := by omega
      rw [hn] at h1 h2
      have hall : ∀ z, HasZ r z → c' ≤ z := fun z hz => by
        by_cases hc : c' ≤ z
        · exact hc
        · exact absurd ((h1 z).2 ⟨hz, by omega⟩) (takeP_zero h.tail z)
      rw [hn]
      refine ⟨s.lo + k, fun z => ?_, fun z => ?_⟩
      · rw [hasZ_cons, hasZ_cons, head_has hs hk0 hk1]
        constructor
        · rintro (h3 | h3)
          · exact ⟨.inl ⟨hs, by omega, by omega⟩, h3.2⟩
          · exact absurd h3 (takeP_zero h.tail z)
        · rintro ⟨⟨_, h3, h4⟩ | h3, h5⟩
          · exact .inl ⟨h3, h5⟩
          · have := hlow z h3; omega
      · rw [hasZ_cons, hasZ_cons, tail_has hs hk0 hk1, h2 z]
        constructor
        · rintro (h3 | h3)
          · exact ⟨.inl ⟨hs, by omega, h3.2⟩, h3.1⟩
          · have := hlow z h3.1; exact ⟨.inr h3.1, by omega⟩
        · rintro ⟨⟨_, h3, h4⟩ | h3, h5⟩
          · exact .inl ⟨h5, h4⟩
          · exact .inr ⟨h3, hall z h3⟩
    · have hke : k = s.to - s.fr := by omega
      refine ⟨if s.hi ≤ c' then c' else s.hi, fun z => ?_, fun z => ?_⟩
      · rw [hasZ_cons, hasZ_cons, head_has hs hk0 hk1, h1 z]
        split
        · constructor
          · rintro (h3 | h3)
            · exact ⟨.inl ⟨hs, h3.1, by omega⟩, by omega⟩
            · exact ⟨.inr h3.1, h3.2⟩
          · rintro ⟨⟨_, h3, h4⟩ | h3, h5⟩
            · exact .inl ⟨h3, by omega⟩
            · exact .inr ⟨h3, h5⟩
        · constructor
          · rintro (h3 | h3)
            · exact ⟨.inl ⟨hs, h3.1, by omega⟩, by omega⟩
            · have := hlow z h3.1; omega
          · rintro ⟨⟨_, h3, h4⟩ | h3, h5⟩
            · exact .inl ⟨h3, by omega⟩
            · have := hlow z h3; omega
      · rw [hasZ_cons, hasZ_cons, tail_has hs hk0 hk1, h2 z]
        split
        · constructor
          · rintro (h3 | h3)
            · omega
            · exact ⟨.inr h3.1, h3.2⟩
          · rintro ⟨⟨_, h3, h4⟩ | h3, h5⟩
            · omega
            · exact .inr ⟨h3, h5⟩
        · constructor
          · rintro (h3 | h3)
            · omega
            · have := hlow z h3.1; exact ⟨.inr h3.1, by omega⟩
          · rintro ⟨⟨_, h3, h4⟩ | h3, h5⟩
            · omega
            · have := hlow z h3; exact .inr ⟨h3, by omega⟩
theorem takeP_sum : ∀ {l : List Sp} (n : Int), (∀ s ∈ l, s.Ok) → spanSum (takeP l n).1 = max 0 (min n (spanSum l)) ∧ 0 ≤ spanSum l
  | [], n, _ => by unfold takeP spanSum; omega
  | s :: r, n, h => by
    have hs := h s List.mem_cons_self
    unfold Sp.Ok at hs
    obtain ⟨h1, h2⟩ := takeP_sum (l := r) (max n 0 - min (max n 0) (s.to - s.fr)) fun t ht => h t (List.mem_cons_of_mem _ ht)
    unfold takeP
    dsimp only
    unfold spanSum
    dsimp only
    rw [h1]
    omega
theorem takeP_sub : ∀ {l : List Sp} (n : Int), (∀ s ∈ l, s.Ok) → ∀ p ∈ (takeP l n).1, ∃ s ∈ l, s.mark = p.mark ∧ s.fr ≤ p.fr ∧ p.fr ≤ p.to ∧ p.to ≤ s.to
  | [], n, _, p, hp => nomatch hp
  | s :: r, n, h, p, hp => by
    have hs := h s List.mem_cons_self
    unfold Sp.Ok at hs
    unfold takeP at hp
    rcases List.mem_cons.1 hp with rfl | hp
    · exact ⟨s, List.mem_cons_self, rfl, by dsimp only; omega, by dsimp only; omega, by dsimp only; omega⟩
    · obtain ⟨t, ht, r⟩ := takeP_sub (l := r) _ (fun t ht => h t (List.mem_cons_of_mem _ ht)) p hp
      exact ⟨t, List.mem_cons_of_mem _ ht, r⟩
theorem takeP_nrm : ∀ {l : List Sp} (n : Int), Nrm l → Nrm ((takeP l n).1.filter fun s => decide s.Ok)
  | [], n, _ => Nrm.nil
  | s :: r, n, h => by
    refine ⟨fun t ht => by simpa using (List.mem_filter.1 ht).2, ?_⟩
    have ih := takeP_nrm (l := r) (max n 0 - min (max n 0) (s.to - s.fr)) h.tail
    unfold takeP
    dsimp only
    rw [List.filter_cons]
    split
    · rw [List.pairwise_cons]
      refine ⟨fun q hq => ?_, ih.gap⟩
      obtain ⟨t, ht, h1, h2, h3, h4⟩ := takeP_sub _ h.tail.ok q (List.mem_filter.1 hq).1
      have h5 := (List.pairwise_cons.1 h.gap).1 t ht
      unfold Sp.hi Sp.lo at *
      dsimp only
      rw [← h1]
      omega
    · exact ih.gap
theorem sum_filter : ∀ {l : List Sp}, (∀ s ∈ l, ¬ s.Ok → s.to = s.fr) → spanSum (l.filter fun s => decide s.Ok) = spanSum l
  | [], _ => rfl
  | s :: r, h => by
    have ih := sum_filter (l := r) fun t ht => h t (List.mem_cons_of_mem _ ht)
    rw [List.filter_cons]
    split
    · unfold spanSum; rw [ih]
    · rename_i hn
      have := h s List.mem_cons_self (by simpa using hn)
      rw [ih, spanSum]
      omega
theorem take_count (l : List Sp) (n : Int) : countF (takeC l n).1 = max 0 (min n (countF l)) := by
  have hn := (norm_spec l).1
  have h1 := takeP_nrm n hn
  have h2 : normF (takeP (normF l) n).1 = (takeP (normF l) n).1.filter fun s => decide s.Ok :=
    nrm_unique (norm_spec _).1 h1 fun z => by rw [(norm_spec _).2 z, hasZ_filter]
  unfold takeC countF
  dsimp only
  rw [norm_same (norm_spec _).1, h2, sum_filter fun p hp hno => ?_, (takeP_sum n hn.ok).1]
  obtain ⟨s, hs, h3, h4, h5, h6⟩ := takeP_sub n hn.ok p hp
  have := hn.ok s hs
  unfold Sp.Ok at this hno
  rw [← h3] at hno
  omega
theorem take_spec (l : List Sp) (n : Int) : ∃ c : Int, (∀ z, HasZ (takeC l n).1 z ↔ HasZ l z ∧ z < c) ∧ ∀ z, HasZ (takeC l n).2 z ↔ HasZ l z ∧ c ≤ z := by
  obtain ⟨c, h1, h2⟩ := takeP_spec n (norm_spec l).1
  refine ⟨c, fun z => ?_, fun z => ?_⟩
  · unfold takeC; dsimp only; rw [(norm_spec _).2 z, h1 z, (norm_spec l).2 z]
  · unfold takeC; dsimp only; rw [(norm_spec _).2 z, h2 z, (norm_spec l).2 z]
theorem take_nrm (l : List Sp) (n : Int) : Nrm (takeC l n).1 ∧ Nrm (takeC l n).2 := ⟨(norm_spec _).1, (norm_spec _).1⟩
theorem take_union (l : List Sp) (n : Int) : unionF (takeC l n).1 (takeC l n).2 = normF l := by
  obtain ⟨c, h1, h2⟩ := take_spec l n
  unfold unionF
  rw [norm_eq_iff]
  intro z
  rw [hasZ_append, h1 z, h2 z]
  constructor
  · rintro (h | h) <;> exact h.1
  · intro h
    by_cases hc : z < c
    · exact .inl ⟨h, hc⟩
    · exact .inr ⟨h, by omega⟩
theorem take_apart (l : List Sp) (n : Int) : commonF (takeC l n).1 (takeC l n).2 = [] := by
  obtain ⟨c, h1, h2⟩ := take_spec l n
  refine (nrm_empty (norm_spec _).1).2 fun z hz => ?_
  obtain ⟨h3, h4⟩ := (common_has _ _ z).1 hz
  have := ((h1 z).1 h3).2
  have := ((h2 z).1 h4).2
  omega
theorem take_order (l : List Sp) (n : Int) {x y : Sp} (hx : x ∈ (takeC l n).1) (hy : y ∈ (takeC l n).2) : x.mark < y.mark ∨ (x.mark = y.mark ∧ x.to ≤ y.fr) := by
  obtain ⟨c, h1, h2⟩ := take_spec l n
  have xo := (take_nrm l n).1.ok x hx
  have yo := (take_nrm l n).2.ok y hy
  have xl := Sp.lohi xo
  have yl := Sp.lohi yo
  have h3 := ((h1 (x.hi - 1)).1 ⟨x, hx, xo, by omega, by omega⟩).2
  have h4 := ((h2 y.lo).1 ⟨y, hy, yo, by omega, by omega⟩).2
  unfold Sp.Ok at xo yo
  unfold Sp.hi at h3
  unfold Sp.lo at h4
  omega
end Go.Proofs.YtdcahnkcnbhknaaGreatDoor
namespace Go.Proofs.YtdcahnkcnbhknaaGreatDoor

theorem merge_len : ∀ (r out : List Sp), (mergeTo out r).length ≤ out.length + r.length
  | [], out => Nat.le_refl _
  | s :: r, out => by
    unfold mergeTo
    cases hk : out.getLast? with
    | none =>
      have := merge_len r (out ++ [s])
      simp only [List.length_append, List.length_cons, List.length_nil] at this ⊢
      omega
    | some k =>
      dsimp only
      split
      · have := merge_len r (out.dropLast ++ [⟨k.mark, k.fr, max k.to s.to⟩])
        have hne : out ≠ [] := fun h => by rw [h] at hk; cases hk
        have hp := List.length_pos_iff.2 hne
        simp only [List.length_append, List.length_cons, List.length_nil, List.length_dropLast] at this ⊢
        omega
      · have := merge_len r (out ++ [s])
        simp only [List.length_append, List.length_cons, List.length_nil] at this ⊢
        omega
theorem norm_len_ok (l : List Sp) : (normF l).length ≤ (l.filter fun s => decide s.Ok).length := by
  unfold normF
  have := merge_len ((l.filter fun s => decide s.Ok).mergeSort leLo) []
  rw [List.length_mergeSort] at this
  simpa using this
theorem norm_len (l : List Sp) : (normF l).length ≤ l.length := Nat.le_trans (norm_len_ok l) (List.length_filter_le _ _)
theorem union_len (a b : List Sp) : (unionF a b).length ≤ a.length + b.length := by
  unfold unionF
  have := norm_len (a ++ b)
  rwa [List.length_append] at this
theorem meet_len (x y : Sp) : (meet x y).length ≤ 1 := by unfold meet; split <;> simp
theorem flat_le {α : Type} (f : α → List Sp) (c : Nat) : ∀ l : List α, (∀ x ∈ l, (f x).length ≤ c) → ((l.map f).flatten).length ≤ l.length * c
  | [], _ => Nat.zero_le _
  | x :: l, h => by
    have h1 := h x List.mem_cons_self
    have h2 := flat_le f c l fun y hy => h y (List.mem_cons_of_mem _ hy)
    simp only [List.map_cons, List.flatten_cons, List.length_append, List.length_cons, Nat.add_mul]
    omega
theorem common_list_len (a b : List Sp) : (commonL a b).length ≤ a.length * b.length := by
  unfold commonL
  refine flat_le _ _ a fun x _ => ?_
  have := flat_le (fun y => meet x y) 1 b fun y _ => meet_len x y
  omega
/-- y lies within x, and is neither its beginning nor its end. -/
def Inside (y x : Sp) : Prop := x.mark = y.mark ∧ x.fr < y.fr ∧ y.to < x.to
def okN (l : List Sp) : Nat := (l.filter fun s => decide s.Ok).length
theorem okN_append (a b : List Sp) : okN (a ++ b) = okN a + okN b := by unfold okN; rw [List.filter_append, List.length_append]
theorem okN_le (a : List Sp) : okN a ≤ a.length := List.length_filter_le _ _
theorem cut_two (x y : Sp) : okN (cutS y x) ≤ 2 := by
  refine Nat.le_trans (okN_le _) ?_
  unfold cutS
  split <;> simp
theorem cut_one {x y : Sp} (h : ¬ Inside y x) : okN (cutS y x) ≤ 1 := by
  unfold cutS
  split
  · exact okN_le _
  · rename_i hm
    have hm : x.mark = y.mark := by simpa using hm
    rw [show [(⟨x.mark, x.fr, min x.to y.fr⟩ : Sp), ⟨x.mark, max x.fr y.to, x.to⟩] = [⟨x.mark, x.fr, min x.to y.fr⟩] ++ [⟨x.mark, max x.fr y.to, x.to⟩] from rfl, okN_append]
    by_cases h1 : (⟨x.mark, x.fr, min x.to y.fr⟩ : Sp).Ok
    · have h2 : ¬ (⟨x.mark, max x.fr y.to, x.to⟩ : Sp).Ok := fun h2 => h (by
        unfold Sp.Ok at h1 h2
        unfold Inside
        dsimp only at h1 h2
        exact ⟨hm, by omega, by omega⟩)
      have : okN [(⟨x.mark, max x.fr y.to, x.to⟩ : Sp)] = 0 := by unfold okN; simp [h2]
      have := okN_le [(⟨x.mark, x.fr, min x.to y.fr⟩ : Sp)]
      simp only [List.length_cons, List.length_nil] at this
      omega
    · have : okN [(⟨x.mark, x.fr, min x.to y.fr⟩ : Sp)] = 0 := by unfold okN; simp [h1]
      have := okN_le [(⟨x.mark, max x.fr y.to, x.to⟩ : Sp)]
      simp only [List.length_cons, List.length_nil] at this
      omega
theorem cuts_none (y : Sp) : ∀ l : List Sp, (∀ x ∈ l, ¬ Inside y x) → okN (l.map (cutS y)).flatten ≤ l.length
  | [], _ => Nat.le_refl _
  | x :: l, h => by
    have h1 := cut_one (h x List.mem_cons_self)
    have h2 := cuts_none y l fun z hz => h z (List.mem_cons_of_mem _ hz)
    simp only [List.map_cons, List.flatten_cons, List.length_cons]
    rw [okN_append]
    omega
theorem cuts_len {y : Sp} (hy : y.Ok) : ∀ {l : List Sp}, Nrm l → okN (l.map (cutS y)).flatten ≤ l.length + 1
  | [], _ => Nat.zero_le _
  | x :: l, h => by
    simp only [List.map_cons, List.flatten_cons, List.length_cons]
    rw [okN_append]
    by_cases hi : Inside y x
    · have h1 := cut_two x y
      have h2 := cuts_none y l fun z hz hzi => by
        have hg := (List.pairwise_cons.1 h.gap).1 z hz
        unfold Inside at hi hzi
        unfold Sp.Ok at hy
        unfold Sp.hi Sp.lo at hg
        omega
      omega
    · have h1 := cut_one hi
      have h2 := cuts_len hy h.tail
      omega
theorem cutL_len {y : Sp} (hy : y.Ok) {l : List Sp} (h : Nrm l) : (cutL l y).length ≤ l.length + 1 := by
  unfold cutL
  exact Nat.le_trans (norm_len_ok _) (cuts_len hy h)
theorem cuts_all (y : Sp) (l : List Sp) : ((l.map (cutS y)).flatten).length ≤ l.length * 2 := flat_le _ 2 l fun x _ => by unfold cutS; split <;> simp
theorem sum_append : ∀ (a b : List Sp), spanSum (a ++ b) = spanSum a + spanSum b
  | [], b => by simp [spanSum]
  | s :: a, b => by rw [List.cons_append, spanSum, spanSum, sum_append a b]; omega
theorem sum_take {l : List Sp} (k : Nat) (hk : k < l.length) : spanSum (l.take (k + 1)) = spanSum (l.take k) + (l[k].to - l[k].fr) := by
  rw [List.take_succ_eq_append_getElem hk, sum_append]; simp [spanSum]
theorem sum_range {l : List Sp} (h : ∀ s ∈ l, s.Ok) (k : Nat) : 0 ≤ spanSum (l.take k) ∧ spanSum (l.take k) ≤ (l.take k).length * 1048576 := by
  have : ∀ m : List Sp, (∀ s ∈ m, s.Ok) → 0 ≤ spanSum m ∧ spanSum m ≤ m.length * 1048576 := by
    intro m
    induction m with
    | nil => intro _; exact ⟨Int.le_refl _, Int.le_refl _⟩
    | cons s m ih =>
      intro hm
      have h1 := ih fun t ht => hm t (List.mem_cons_of_mem _ ht)
      have h2 := hm s List.mem_cons_self
      unfold Sp.Ok at h2
      rw [spanSum, List.length_cons]
      omega
  exact this _ fun s hs => h s (List.mem_of_mem_take hs)
theorem takeP_len : ∀ (l : List Sp) (n : Int), (takeP l n).1.length = l.length ∧ (takeP l n).2.length = l.length
  | [], _ => ⟨rfl, rfl⟩
  | s :: l, n => by
    have := takeP_len l (max n 0 - min (max n 0) (s.to - s.fr))
    unfold takeP
    simp only [List.length_cons]
    exact ⟨by rw [this.1], by rw [this.2]⟩
end Go.Proofs.YtdcahnkcnbhknaaGreatDoor
