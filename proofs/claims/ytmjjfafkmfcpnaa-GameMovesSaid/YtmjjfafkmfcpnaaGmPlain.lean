/- Plain laws of games: certificates bound, plays reach, values are least. No program in sight. -/
import Derived.Test.YtmjjfafkmfcpnaaGmModel
namespace Go.Proofs.Ytmjjfafkmfcpnaa

def geti (l : List Int) (i : Nat) : Int := l.getD i 0

/-- The certificate holds at a node. -/
def holdsAt (nd : Nd) (value choice : Int) (V : List Int) : Prop :=
  (-maxSum ≤ value ∧ value ≤ maxSum) ∧
  (nd.moves = [] → 0 ≤ value ∧ choice = -1) ∧
  (nd.moves ≠ [] → nd.mine = false → 0 ≤ choice ∧ choice < nd.moves.length ∧ ∀ m, nd.moves[choice.toNat]? = some m → m.gain + geti V m.to.toNat ≤ value) ∧
  (nd.moves ≠ [] → nd.mine = true → choice = -1 ∧ ∀ m ∈ nd.moves, m.gain + geti V m.to.toNat ≤ value)

/-- A certificate holds. -/
def Holds (ns : List Nd) (V C : List Int) : Prop :=
  V.length = ns.length ∧ C.length = ns.length ∧ ∀ i nd, ns[i]? = some nd → holdsAt nd (geti V i) (geti C i) V

/-- What is known of a game that is right. -/
structure RightP (ns : List Nd) : Prop where
  pos : 0 < ns.length
  few : ns.length ≤ 3000
  mv : ∀ (i : Nat) (nd : Nd) (m : Mv), ns[i]? = some nd → m ∈ nd.moves → (i : Int) < m.to ∧ m.to < ns.length ∧ -maxGain ≤ m.gain ∧ m.gain ≤ maxGain
  len : ∀ (i : Nat) (nd : Nd), ns[i]? = some nd → nd.moves.length ≤ 8

theorem rightFrom_iff (n : Nat) : ∀ (ns : List Nd) (i : Nat), rightFrom n i ns = true ↔ ∀ (j : Nat) (nd : Nd), ns[j]? = some nd → nd.moves.length ≤ 8 ∧ ∀ m ∈ nd.moves, ((i + j : Nat) : Int) < m.to ∧ m.to < n ∧ -maxGain ≤ m.gain ∧ m.gain ≤ maxGain
  | [], i => by simp [rightFrom]
  | nd :: r, i => by
    rw [rightFrom, Bool.and_eq_true, Bool.and_eq_true, rightFrom_iff n r (i + 1), decide_eq_true_iff, List.all_eq_true]
    constructor
    · rintro ⟨⟨h1, h2⟩, h3⟩ j nd' hj
      cases j with
      | zero => injection hj with e; subst e; exact ⟨h1, fun m hm => by simpa using okMove_iff.1 (h2 m hm)⟩
      | succ j =>
        have := h3 j nd' hj
        rw [show i + (j + 1) = i + 1 + j by omega]
        exact this
    · intro h
      refine ⟨⟨(h 0 nd rfl).1, fun m hm => okMove_iff.2 (by simpa using (h 0 nd rfl).2 m hm)⟩, fun j nd' hj => ?_⟩
      have := h (j + 1) nd' hj
      rw [show i + (j + 1) = i + 1 + j by omega] at this
      exact this

theorem right_iff (ns : List Nd) : right ns = true ↔ RightP ns := by
  unfold right
  rw [Bool.and_eq_true, decide_eq_true_iff, rightFrom_iff]
  constructor
  · rintro ⟨⟨h1, h2⟩, h3⟩
    exact ⟨h1, h2, fun i nd m hi hm => by simpa using (h3 i nd hi).2 m hm, fun i nd hi => (h3 i nd hi).1⟩
  · rintro ⟨h1, h2, h3, h4⟩
    exact ⟨⟨h1, h2⟩, fun j nd hj => ⟨h4 j nd hj, fun m hm => by simpa using h3 j nd m hj hm⟩⟩

/-- The move that is taken. -/
def chosen (nd : Nd) (k : Int) : Nat := if k < 0 ∨ (nd.moves.length : Int) ≤ k then 0 else k.toNat
/-- What is gained from a node on, and the nodes behind it. -/
def playF (ns : List Nd) (mine others : List Int) : Nat → Nat → Int × List Nat
  | 0, _ => (0, [])
  | f + 1, i => match ns[i]? with
    | none => (0, [])
    | some nd => match nd.moves[chosen nd (if nd.mine then geti mine i else geti others i)]? with
      | none => (0, [])
      | some m => (m.gain + (playF ns mine others f m.to.toNat).1, m.to.toNat :: (playF ns mine others f m.to.toNat).2)

theorem chosen_lt (nd : Nd) (k : Int) (h : nd.moves ≠ []) : chosen nd k < nd.moves.length := by
  unfold chosen
  have : 0 < nd.moves.length := List.length_pos_iff.2 h
  split <;> omega

/-- A certificate bounds what the coalition gains, if the others choose as it says. -/
theorem play_bound {ns : List Nd} {V C mine : List Int} (hr : RightP ns) (h : Holds ns V C) : ∀ (f i : Nat) (nd : Nd), ns[i]? = some nd → ns.length ≤ f + i → (playF ns mine C f i).1 ≤ geti V i
  | 0, i, nd, hi, hf => by
    have := (List.getElem?_eq_some_iff.1 hi).1; omega
  | f + 1, i, nd, hi, hf => by
    rw [playF, hi]
    dsimp only
    obtain ⟨_, h1, h2, h3⟩ := h.2.2 i nd hi
    by_cases hnil : nd.moves = []
    · rw [hnil]
      exact (h1 hnil).1
    · have hlt := chosen_lt nd (if nd.mine then geti mine i else geti C i) hnil
      obtain ⟨m, hm⟩ : ∃ m, nd.moves[chosen nd (if nd.mine then geti mine i else geti C i)]? = some m := ⟨_, List.getElem?_eq_getElem hlt⟩
      rw [hm]
      dsimp only
      have hmem : m ∈ nd.moves := List.mem_of_getElem? hm
      obtain ⟨g1, g2, _, _⟩ := hr.mv i nd m hi hmem
      have hlt2 : m.to.toNat < ns.length := by omega
      have ih := play_bound (mine := mine) hr h f _ _ (List.getElem?_eq_getElem hlt2) (by omega)
      by_cases hmine : nd.mine = true
      · obtain ⟨_, b⟩ := h3 hnil hmine
        have := b m hmem
        omega
      · have hmine : nd.mine = false := by simpa using hmine
        obtain ⟨a, b, c⟩ := h2 hnil hmine
        have e : chosen nd (geti C i) = (geti C i).toNat := by unfold chosen; rw [if_neg (by omega)]
        rw [hmine, if_neg (by decide), e] at hm
        have := c m hm
        omega

/-- The values, as numbers. -/
def vlist (ns : List Nd) : List Int := (vals 0 ns).map (·.1)
def mlist (ns : List Nd) : List Int := (vals 0 ns).map (·.2)
/-- The moves of one side. -/
def ofSide (mine : Bool) : List Nd → List Int → List Int
  | nd :: r, m :: ms => (if nd.mine = mine then m else -1) :: ofSide mine r ms
  | _, _ => []

theorem vals_drop : ∀ (ns : List Nd) (i k : Nat), k ≤ ns.length → vals (i + k) (ns.drop k) = (vals i ns).drop k
  | ns, i, 0, _ => by simp
  | [], i, k + 1, h => by simp at h
  | nd :: r, i, k + 1, h => by
    rw [vals, List.drop_succ_cons, List.drop_succ_cons, ← vals_drop r (i + 1) k (by simpa using h), show i + (k + 1) = i + 1 + k by omega]

/-- The value and the move at node i. -/
theorem vals_at {ns : List Nd} {i : Nat} {nd : Nd} (hi : ns[i]? = some nd) : (vals 0 ns)[i]? = some (best nd.mine (fun m => m.gain + atv (vals (i + 1) (ns.drop (i + 1))) (i + 1) m.to) nd.moves 0 (0, -1)) := by
  have hlt := (List.getElem?_eq_some_iff.1 hi).1
  have h1 := vals_drop ns 0 i (by omega)
  rw [Nat.zero_add] at h1
  have h2 : ns.drop i = nd :: ns.drop (i + 1) := by
    rw [List.drop_eq_getElem_cons hlt]
    congr 1
    rw [List.getElem?_eq_getElem hlt] at hi; injection hi
  rw [h2, vals] at h1
  have h3 := congrArg (·[0]?) h1
  simpa using h3.symm

theorem vlist_len (ns : List Nd) : (vlist ns).length = ns.length := by simp [vlist, vals_len]
theorem mlist_len (ns : List Nd) : (mlist ns).length = ns.length := by simp [mlist, vals_len]

theorem atv_vlist {ns : List Nd} {i : Nat} {m : Mv} (h1 : (i : Int) < m.to) (h2 : m.to < ns.length) : atv (vals (i + 1) (ns.drop (i + 1))) (i + 1) m.to = geti (vlist ns) m.to.toNat := by
  have := vals_drop ns 0 (i + 1) (by omega)
  rw [Nat.zero_add] at this
  rw [this]
  unfold atv geti vlist
  rw [List.getD_eq_getElem?_getD, List.getD_eq_getElem?_getD, List.getElem?_drop, List.getElem?_map, show i + 1 + (m.to.toNat - (i + 1)) = m.to.toNat by omega]
  have hlt : m.to.toNat < (vals 0 ns).length := by rw [vals_len]; omega
  rw [List.getElem?_eq_getElem hlt]; rfl

/-- What the values are. -/
theorem vlist_spec {ns : List Nd} (hr : RightP ns) {i : Nat} {nd : Nd} (hi : ns[i]? = some nd) :
    (nd.moves = [] → geti (vlist ns) i = 0 ∧ geti (mlist ns) i = -1) ∧
    (nd.moves ≠ [] → ∃ (j : Nat) (m : Mv), nd.moves[j]? = some m ∧ geti (vlist ns) i = m.gain + geti (vlist ns) m.to.toNat ∧ geti (mlist ns) i = j ∧
      (∀ m' ∈ nd.moves, sg nd.mine (m'.gain + geti (vlist ns) m'.to.toNat) ≤ sg nd.mine (geti (vlist ns) i)) ∧
      ∀ (j' : Nat) (m' : Mv), j' < j → nd.moves[j']? = some m' → sg nd.mine (m'.gain + geti (vlist ns) m'.to.toNat) < sg nd.mine (geti (vlist ns) i)) := by
  have hv := vals_at hi
  have e1 : geti (vlist ns) i = (best nd.mine (fun m => m.gain + atv (vals (i + 1) (ns.drop (i + 1))) (i + 1) m.to) nd.moves 0 (0, -1)).1 := by
    unfold geti vlist; rw [List.getD_eq_getElem?_getD, List.getElem?_map, hv]; rfl
  have e2 : geti (mlist ns) i = (best nd.mine (fun m => m.gain + atv (vals (i + 1) (ns.drop (i + 1))) (i + 1) m.to) nd.moves 0 (0, -1)).2 := by
    unfold geti mlist; rw [List.getD_eq_getElem?_getD, List.getElem?_map, hv]; rfl
  have ef : ∀ m ∈ nd.moves, atv (vals (i + 1) (ns.drop (i + 1))) (i + 1) m.to = geti (vlist ns) m.to.toNat := fun m hm => by
    obtain ⟨g1, g2, _, _⟩ := hr.mv i nd m hi hm
    exact atv_vlist g1 g2
  refine ⟨fun hn => ?_, fun hn => ?_⟩
  · rw [e1, e2, hn]; exact ⟨rfl, rfl⟩
  · obtain ⟨j, m, hj, hb, h1, h2⟩ := best_first nd.mine (fun m => m.gain + atv (vals (i + 1) (ns.drop (i + 1))) (i + 1) m.to) nd.moves hn
    have hm : m ∈ nd.moves := List.mem_of_getElem? hj
    rw [hb] at e1 e2
    dsimp only at e1 e2 h1 h2
    rw [ef m hm] at e1 h1 h2
    refine ⟨j, m, hj, e1, e2, fun m' hm' => ?_, fun j' m' hj' hm' => ?_⟩
    · rw [e1, ← ef m' hm']; exact h1 m' hm'
    · rw [e1, ← ef m' (List.mem_of_getElem? hm')]; exact h2 j' m' hj' hm'
end Go.Proofs.Ytmjjfafkmfcpnaa
