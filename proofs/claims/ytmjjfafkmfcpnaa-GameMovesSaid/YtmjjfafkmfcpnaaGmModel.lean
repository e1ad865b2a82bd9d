/- A plain model of the games of layer 21: values, certificates, plays. No program in sight. -/
namespace Go.Proofs.Ytmjjfafkmfcpnaa

structure Mv where
  to : Int
  gain : Int
structure Nd where
  mine : Bool
  moves : List Mv

def maxGain : Int := 1099511627776
def maxSum : Int := 4503599627370496

def okMove (n i : Nat) (m : Mv) : Bool := decide ((i : Int) < m.to ∧ m.to < n ∧ -maxGain ≤ m.gain ∧ m.gain ≤ maxGain)
def rightFrom (n : Nat) : Nat → List Nd → Bool
  | _, [] => true
  | i, nd :: r => decide (nd.moves.length ≤ 8) && nd.moves.all (okMove n i) && rightFrom n (i + 1) r
def right (ns : List Nd) : Bool := decide (0 < ns.length ∧ ns.length ≤ 3000) && rightFrom ns.length 0 ns

/-- A number as one side sees it. -/
def sg (mine : Bool) (x : Int) : Int := if mine then x else -x
/-- The value at a node, of the values from node i on. -/
def atv (vs : List (Int × Int)) (i : Nat) (to : Int) : Int := (vs.getD (to.toNat - i) (0, 0)).1
/-- The best of the moves so far, and its place. -/
def best (mine : Bool) (f : Mv → Int) : List Mv → Nat → Int × Int → Int × Int
  | [], _, b => b
  | m :: r, k, b => best mine f r (k + 1) (if k = 0 ∨ sg mine b.1 < sg mine (f m) then (f m, (k : Int)) else b)
/-- The values and moves of the nodes from node i on. -/
def vals : Nat → List Nd → List (Int × Int)
  | _, [] => []
  | i, nd :: r => best nd.mine (fun m => m.gain + atv (vals (i + 1) r) (i + 1) m.to) nd.moves 0 (0, -1) :: vals (i + 1) r

theorem vals_len (i : Nat) (ns : List Nd) : (vals i ns).length = ns.length := by
  induction ns generalizing i with
  | nil => rfl
  | cons nd r ih => simp [vals, ih]

theorem best_spec (mine : Bool) (f : Mv → Int) : ∀ (l : List Mv) (k : Nat) (b : Int × Int), 1 ≤ k →
    sg mine b.1 ≤ sg mine (best mine f l k b).1 ∧ (∀ m ∈ l, sg mine (f m) ≤ sg mine (best mine f l k b).1) ∧
    (best mine f l k b = b ∨ ∃ (j : Nat) (m : Mv), l[j]? = some m ∧ best mine f l k b = (f m, ((k + j : Nat) : Int)) ∧ sg mine b.1 < sg mine (best mine f l k b).1 ∧
      ∀ (j' : Nat) (m' : Mv), j' < j → l[j']? = some m' → sg mine (f m') < sg mine (best mine f l k b).1)
  | [], _, _, _ => ⟨Int.le_refl _, fun _ h => (List.not_mem_nil h).elim, .inl rfl⟩
  | m :: r, k, b, hk => by
    rw [best]
    by_cases hc : sg mine b.1 < sg mine (f m)
    · rw [if_pos (.inr hc)]
      obtain ⟨h1, h2, h3⟩ := best_spec mine f r (k + 1) (f m, (k : Int)) (by omega)
      dsimp only at h1
      refine ⟨by omega, fun m' hm => ?_, .inr ?_⟩
      · rcases List.mem_cons.1 hm with rfl | hm
        · exact h1
        · exact h2 m' hm
      · rcases h3 with h3 | ⟨j, m', hj, h4, h5, h6⟩
        · refine ⟨0, m, rfl, h3, by rw [h3]; exact hc, fun j' _ hj' => by omega⟩
        · refine ⟨j + 1, m', hj, by rw [h4]; congr 2; omega, by dsimp only at h5; omega, fun j' m'' hj' hm'' => ?_⟩
          cases j' with
          | zero => injection hm'' with e; subst e; exact h5
          | succ j' => exact h6 j' m'' (by omega) hm''
    · rw [if_neg (by omega)]
      obtain ⟨h1, h2, h3⟩ := best_spec mine f r (k + 1) b (by omega)
      refine ⟨h1, fun m' hm => ?_, ?_⟩
      · rcases List.mem_cons.1 hm with rfl | hm
        · omega
        · exact h2 m' hm
      · rcases h3 with h3 | ⟨j, m', hj, h4, h5, h6⟩
        · exact .inl h3
        · refine .inr ⟨j + 1, m', hj, by rw [h4]; congr 2; omega, h5, fun j' m'' hj' hm'' => ?_⟩
          cases j' with
          | zero => injection hm'' with e; subst e; omega
          | succ j' => exact h6 j' m'' (by omega) hm''

/-- The best move of all: its value is attained there first, and none is better. -/
theorem best_first (mine : Bool) (f : Mv → Int) (l : List Mv) (h : l ≠ []) : ∃ (j : Nat) (m : Mv), l[j]? = some m ∧ best mine f l 0 (0, -1) = (f m, (j : Int)) ∧
    (∀ m' ∈ l, sg mine (f m') ≤ sg mine (f m)) ∧ ∀ (j' : Nat) (m' : Mv), j' < j → l[j']? = some m' → sg mine (f m') < sg mine (f m) := by
  cases l with
  | nil => exact absurd rfl h
  | cons m r =>
    rw [best, if_pos (.inl rfl)]
    obtain ⟨h1, h2, h3⟩ := best_spec mine f r 1 (f m, ((0 : Nat) : Int)) (Nat.le_refl 1)
    rcases h3 with h3 | ⟨j, m', hj, h4, h5, h6⟩
    · rw [h3] at h1 h2
      dsimp only at h1 h2
      refine ⟨0, m, rfl, h3, fun m' hm => ?_, fun j' _ hj' => by omega⟩
      rcases List.mem_cons.1 hm with rfl | hm
      · exact Int.le_refl _
      · exact h2 m' hm
    · rw [h4] at h1 h2 h5 h6
      dsimp only at h1 h2 h5 h6
      refine ⟨j + 1, m', hj, by rw [h4]; congr 2; omega, fun m'' hm => ?_, fun j' m'' hj' hm'' => ?_⟩
      · rcases List.mem_cons.1 hm with rfl | hm
        · exact h1
        · exact h2 m'' hm
      · cases j' with
        | zero => injection hm'' with e; subst e; exact h5
        | succ j' => exact h6 j' m'' (by omega) hm''

theorem sg_inj {mine : Bool} {a b : Int} (h : sg mine a = sg mine b) : a = b := by
  unfold sg at h; split at h <;> omega

theorem okMove_iff {n i : Nat} {m : Mv} : okMove n i m = true ↔ (i : Int) < m.to ∧ m.to < n ∧ -maxGain ≤ m.gain ∧ m.gain ≤ maxGain := by
  unfold okMove; exact decide_eq_true_iff

/-- No value is greater than the gains on the way can be. -/
theorem vals_bound (n : Nat) : ∀ (ns : List Nd) (i : Nat), rightFrom n i ns = true → i + ns.length = n → ∀ x ∈ vals i ns, -(ns.length * maxGain) ≤ x.1 ∧ x.1 ≤ ns.length * maxGain
  | [], _, _, _, x, hx => (List.not_mem_nil hx).elim
  | nd :: r, i, h, hn, x, hx => by
    rw [rightFrom, Bool.and_eq_true, Bool.and_eq_true] at h
    have ih := vals_bound n r (i + 1) h.2 (by simp at hn; omega)
    have hM : (0 : Int) ≤ maxGain := by decide
    have hlen : ((nd :: r).length : Int) * maxGain = r.length * maxGain + maxGain := by simp [Int.add_mul]
    rw [hlen]
    have hr0 : (0 : Int) ≤ r.length * maxGain := Int.mul_nonneg (by omega) hM
    rw [vals] at hx
    rcases List.mem_cons.1 hx with rfl | hx
    · by_cases hnil : nd.moves = []
      · rw [hnil]
        show -(r.length * maxGain + maxGain) ≤ 0 ∧ 0 ≤ r.length * maxGain + maxGain
        omega
      · obtain ⟨j, m, hj, e, _, _⟩ := best_first nd.mine (fun m => m.gain + atv (vals (i + 1) r) (i + 1) m.to) nd.moves hnil
        rw [e]
        have hm : m ∈ nd.moves := List.mem_of_getElem? hj
        have hok := okMove_iff.1 (List.all_eq_true.1 h.1.2 m hm)
        have hlt : m.to.toNat - (i + 1) < (vals (i + 1) r).length := by rw [vals_len]; simp at hn; omega
        have := ih _ (List.getElem_mem hlt)
        have ea : atv (vals (i + 1) r) (i + 1) m.to = ((vals (i + 1) r)[m.to.toNat - (i + 1)]).1 := by
          unfold atv; rw [List.getD_eq_getElem?_getD, List.getElem?_eq_getElem hlt]; rfl
        rw [ea]
        dsimp only
        omega
    · have := ih x hx
      omega
end Go.Proofs.Ytmjjfafkmfcpnaa
