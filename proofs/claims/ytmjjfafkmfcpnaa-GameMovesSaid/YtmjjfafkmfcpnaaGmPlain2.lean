/- Plain laws of games, the second half: the certificate of the values, least values, more moves, opposite signs. -/
import Derived.Test.YtmjjfafkmfcpnaaGmPlain
namespace Go.Proofs.Ytmjjfafkmfcpnaa

theorem sg_true (x : Int) : sg true x = x := rfl
theorem sg_false (x : Int) : sg false x = -x := rfl

theorem ofSide_len (mine : Bool) : ∀ (ns : List Nd) (ms : List Int), ms.length = ns.length → (ofSide mine ns ms).length = ns.length
  | [], [], _ => rfl
  | _ :: r, _ :: ms, h => by simp [ofSide, ofSide_len mine r ms (by simpa using h)]
  | [], _ :: _, h => by simp at h
  | _ :: _, [], h => by simp at h
theorem ofSide_at (mine : Bool) : ∀ (ns : List Nd) (ms : List Int) (i : Nat) (nd : Nd), ms.length = ns.length → ns[i]? = some nd → geti (ofSide mine ns ms) i = if nd.mine = mine then geti ms i else -1
  | [], _, i, nd, _, h => by simp at h
  | nd' :: r, [], i, nd, h, _ => by simp at h
  | nd' :: r, m :: ms, 0, nd, _, h => by injection h with h; subst h; rfl
  | nd' :: r, m :: ms, i + 1, nd, h, hi => ofSide_at mine r ms i nd (by simpa using h) hi

theorem vlist_bound {ns : List Nd} (hr : RightP ns) (i : Nat) : -(3000 * maxGain) ≤ geti (vlist ns) i ∧ geti (vlist ns) i ≤ 3000 * maxGain := by
  have hM : maxGain = 1099511627776 := rfl
  unfold geti vlist
  rw [List.getD_eq_getElem?_getD, List.getElem?_map]
  cases h : (vals 0 ns)[i]? with
  | none => simp [hM]
  | some x =>
    have hx := List.mem_of_getElem? h
    have h1 : rightFrom ns.length 0 ns = true := by
      rw [rightFrom_iff]
      exact fun j nd hj => ⟨hr.len j nd hj, fun m hm => by simpa using hr.mv j nd m hj hm⟩
    have := vals_bound ns.length ns 0 h1 (by omega) x hx
    have hn : (ns.length : Int) * maxGain ≤ 3000 * maxGain := Int.mul_le_mul_of_nonneg_right (by have := hr.few; omega) (by rw [hM]; omega)
    simp only [Option.map_some, Option.getD_some]
    omega

def proveC (ns : List Nd) : List Int := ofSide false ns (mlist ns)
def bestB (ns : List Nd) : List Int := ofSide true ns (mlist ns)
theorem proveC_len (ns : List Nd) : (proveC ns).length = ns.length := ofSide_len _ _ _ (mlist_len ns)
theorem bestB_len (ns : List Nd) : (bestB ns).length = ns.length := ofSide_len _ _ _ (mlist_len ns)

/-- All values greater by a number: the certificate holds. -/
theorem prove_up {ns : List Nd} (hr : RightP ns) {V : List Int} {d : Int} (hd : 0 ≤ d ∧ d ≤ 4294967296) (hV : V.length = ns.length) (hv : ∀ i, i < ns.length → geti V i = geti (vlist ns) i + d) : Holds ns V (proveC ns) := by
  refine ⟨hV, proveC_len ns, fun i nd hi => ?_⟩
  have hlt := (List.getElem?_eq_some_iff.1 hi).1
  obtain ⟨s1, s2⟩ := vlist_spec hr hi
  have hb := vlist_bound hr i
  have hM : maxGain = 1099511627776 := rfl
  have hS : maxSum = 4503599627370496 := rfl
  have hC : geti (proveC ns) i = if nd.mine = false then geti (mlist ns) i else -1 := ofSide_at false ns (mlist ns) i nd (mlist_len ns) hi
  rw [hv i hlt]
  refine ⟨by omega, fun hn => ?_, fun hn hm => ?_, fun hn hm => ?_⟩
  · rw [(s1 hn).1, hC, (s1 hn).2]
    exact ⟨by omega, by split <;> rfl⟩
  · obtain ⟨j, m, hj, e1, e2, h1, h2⟩ := s2 hn
    have hjl := (List.getElem?_eq_some_iff.1 hj).1
    rw [hC, if_pos hm, e2]
    refine ⟨by omega, by omega, fun m' hm' => ?_⟩
    rw [Int.toNat_natCast, hj] at hm'
    injection hm' with hm'; subst hm'
    obtain ⟨g1, g2, _, _⟩ := hr.mv i nd m hi (List.mem_of_getElem? hj)
    rw [hv _ (by omega), e1]
    omega
  · obtain ⟨j, m, hj, e1, e2, h1, h2⟩ := s2 hn
    rw [hC, if_neg (by rw [hm]; decide)]
    refine ⟨rfl, fun m' hm' => ?_⟩
    have := h1 m' hm'
    rw [hm, sg_true, sg_true] at this
    obtain ⟨g1, g2, _, _⟩ := hr.mv i nd m' hi hm'
    rw [hv _ (by omega)]
    omega

theorem prove_holds {ns : List Nd} (hr : RightP ns) : Holds ns (vlist ns) (proveC ns) :=
  prove_up hr (d := 0) (by omega) (vlist_len ns) fun _ _ => by omega

/-- No certificate that holds states less than the value. -/
theorem least {ns : List Nd} (hr : RightP ns) {V C : List Int} (h : Holds ns V C) : ∀ (f i : Nat), i < ns.length → ns.length ≤ f + i → geti (vlist ns) i ≤ geti V i
  | 0, i, hi, hf => by omega
  | f + 1, i, hi, hf => by
    have hnd : ns[i]? = some ns[i] := List.getElem?_eq_getElem hi
    generalize ns[i] = nd at hnd
    obtain ⟨s1, s2⟩ := vlist_spec hr hnd
    obtain ⟨_, h1, h2, h3⟩ := h.2.2 i nd hnd
    by_cases hn : nd.moves = []
    · rw [(s1 hn).1]; exact (h1 hn).1
    · obtain ⟨j, m, hj, e1, e2, k1, k2⟩ := s2 hn
      by_cases hm : nd.mine = true
      · have hmem := List.mem_of_getElem? hj
        obtain ⟨g1, g2, _, _⟩ := hr.mv i nd m hnd hmem
        have := (h3 hn hm).2 m hmem
        have := least hr h f m.to.toNat (by omega) (by omega)
        omega
      · have hm : nd.mine = false := by simpa using hm
        obtain ⟨a, b, c⟩ := h2 hn hm
        have hlt : (geti C i).toNat < nd.moves.length := by omega
        have hc := List.getElem?_eq_getElem hlt
        generalize nd.moves[(geti C i).toNat] = mc at hc
        have hmem := List.mem_of_getElem? hc
        obtain ⟨g1, g2, _, _⟩ := hr.mv i nd mc hnd hmem
        have h4 := c mc hc
        have h5 := k1 mc hmem
        rw [hm, sg_false, sg_false] at h5
        have := least hr h f mc.to.toNat (by omega) (by omega)
        omega

/-- With the best moves the coalition gains at least the value. -/
theorem play_best {ns : List Nd} (hr : RightP ns) (others : List Int) : ∀ (f i : Nat) (nd : Nd), ns[i]? = some nd → ns.length ≤ f + i → geti (vlist ns) i ≤ (playF ns (bestB ns) others f i).1
  | 0, i, nd, hi, hf => by
    have := (List.getElem?_eq_some_iff.1 hi).1; omega
  | f + 1, i, nd, hi, hf => by
    rw [playF, hi]
    dsimp only
    obtain ⟨s1, s2⟩ := vlist_spec hr hi
    by_cases hn : nd.moves = []
    · rw [hn, (s1 hn).1]; exact Int.le_refl 0
    · obtain ⟨j, mj, hj, e1, e2, k1, k2⟩ := s2 hn
      have hlt := chosen_lt nd (if nd.mine then geti (bestB ns) i else geti others i) hn
      obtain ⟨m, hm⟩ : ∃ m, nd.moves[chosen nd (if nd.mine then geti (bestB ns) i else geti others i)]? = some m := ⟨_, List.getElem?_eq_getElem hlt⟩
      rw [hm]
      dsimp only
      have hmem : m ∈ nd.moves := List.mem_of_getElem? hm
      obtain ⟨g1, g2, _, _⟩ := hr.mv i nd m hi hmem
      have hlt2 : m.to.toNat < ns.length := by omega
      have ih := play_best hr others f _ _ (List.getElem?_eq_getElem hlt2) (by omega)
      by_cases hmine : nd.mine = true
      · have hB : geti (bestB ns) i = j := by
          have : geti (bestB ns) i = if nd.mine = true then geti (mlist ns) i else -1 := ofSide_at true ns (mlist ns) i nd (mlist_len ns) hi
          rw [this, if_pos hmine, e2]
        have hjl := (List.getElem?_eq_some_iff.1 hj).1
        have e : chosen nd (geti (bestB ns) i) = j := by rw [hB]; unfold chosen; rw [if_neg (by omega), Int.toNat_natCast]
        rw [if_pos hmine, e, hj] at hm
        injection hm with hm; subst hm
        omega
      · have hmine : nd.mine = false := by simpa using hmine
        have := k1 m hmem
        rw [hmine, sg_false, sg_false] at this
        omega

/-- The game with the sides exchanged and all gains of opposite sign. -/
def negNd (nd : Nd) : Nd := { mine := !nd.mine, moves := nd.moves.map fun m => { to := m.to, gain := -m.gain } }
theorem sg_neg (b : Bool) (x : Int) : sg (!b) (-x) = sg b x := by cases b <;> simp [sg]

theorem best_neg (mine : Bool) (f g : Mv → Int) : ∀ (l : List Mv) (k : Nat) (b : Int × Int), (∀ m ∈ l, g { to := m.to, gain := -m.gain } = -f m) →
    best (!mine) g (l.map fun m => { to := m.to, gain := -m.gain }) k (-b.1, b.2) = (-(best mine f l k b).1, (best mine f l k b).2)
  | [], _, _, _ => rfl
  | m :: r, k, b, h => by
    rw [List.map_cons, best, best, h m (by simp)]
    simp only [sg_neg]
    by_cases hc : k = 0 ∨ sg mine b.1 < sg mine (f m)
    · rw [if_pos hc, if_pos hc]
      exact best_neg mine f g r (k + 1) (f m, (k : Int)) fun m hm => h m (by simp [hm])
    · rw [if_neg hc, if_neg hc]
      exact best_neg mine f g r (k + 1) b fun m hm => h m (by simp [hm])

theorem vals_neg : ∀ (ns : List Nd) (i : Nat), vals i (ns.map negNd) = (vals i ns).map fun x => (-x.1, x.2)
  | [], _ => rfl
  | nd :: r, i => by
    rw [List.map_cons, vals, vals, List.map_cons, vals_neg r (i + 1)]
    congr 1
    refine best_neg nd.mine _ _ nd.moves 0 (0, -1) fun m _ => ?_
    dsimp only
    have : atv ((vals (i + 1) r).map fun x => (-x.1, x.2)) (i + 1) m.to = -atv (vals (i + 1) r) (i + 1) m.to := by
      unfold atv
      rw [List.getD_eq_getElem?_getD, List.getD_eq_getElem?_getD, List.getElem?_map]
      cases (vals (i + 1) r)[m.to.toNat - (i + 1)]? <;> rfl
    rw [this]; omega

theorem vlist_neg (ns : List Nd) : vlist (ns.map negNd) = (vlist ns).map fun x => -x := by
  unfold vlist; rw [vals_neg, List.map_map, List.map_map]; rfl

theorem right_neg {ns : List Nd} (h : RightP ns) : RightP (ns.map negNd) := by
  refine ⟨by simpa using h.pos, by simpa using h.few, fun i nd m hi hm => ?_, fun i nd hi => ?_⟩
  · rw [List.getElem?_map] at hi
    cases hn : ns[i]? with
    | none => rw [hn] at hi; cases hi
    | some nd0 =>
      rw [hn] at hi; injection hi with hi; subst hi
      obtain ⟨m0, hm0, rfl⟩ := List.mem_map.1 hm
      have := h.mv i nd0 m0 hn hm0
      simp only [List.length_map]
      omega
  · rw [List.getElem?_map] at hi
    cases hn : ns[i]? with
    | none => rw [hn] at hi; cases hi
    | some nd0 =>
      rw [hn] at hi; injection hi with hi; subst hi
      simpa [negNd] using h.len i nd0 hn

/-- With one more move at a node the values change in favour of whoever moves there. -/
theorem grown_le {ns gs : List Nd} (hr : RightP ns) (hg : RightP gs) {a : Nat} {na ng : Nd} (hlen : gs.length = ns.length) (ha : ns[a]? = some na) (hb : gs[a]? = some ng)
    (hmine : ng.mine = na.mine) (hne : na.moves ≠ []) (hsub : ∀ m ∈ na.moves, m ∈ ng.moves) (hoth : ∀ i, i ≠ a → gs[i]? = ns[i]?) :
    ∀ (f i : Nat), i < ns.length → ns.length ≤ f + i → sg na.mine (geti (vlist ns) i) ≤ sg na.mine (geti (vlist gs) i)
  | 0, i, hi, hf => by omega
  | f + 1, i, hi, hf => by
    have hnd : ns[i]? = some ns[i] := List.getElem?_eq_getElem hi
    generalize ns[i] = nd at hnd
    have hge : ∃ gd, gs[i]? = some gd ∧ gd.mine = nd.mine ∧ (nd.moves = [] → gd.moves = []) ∧ (∀ m ∈ nd.moves, m ∈ gd.moves) ∧ (nd.mine = na.mine ∨ ∀ m ∈ gd.moves, m ∈ nd.moves) := by
      by_cases e : i = a
      · subst e
        rw [ha] at hnd; injection hnd with hnd; subst hnd
        exact ⟨ng, hb, hmine, fun h => absurd h hne, hsub, .inl rfl⟩
      · exact ⟨nd, by rw [hoth i e]; exact hnd, rfl, id, fun m h => h, .inr fun m h => h⟩
    obtain ⟨gd, hgd, hm1, hm2, hm3, hm4⟩ := hge
    obtain ⟨s1, s2⟩ := vlist_spec hr hnd
    obtain ⟨t1, t2⟩ := vlist_spec hg hgd
    by_cases hn : nd.moves = []
    · rw [(s1 hn).1, (t1 (hm2 hn)).1]; exact Int.le_refl _
    · have hn2 : gd.moves ≠ [] := fun h => by
        obtain ⟨m, hm⟩ := List.exists_mem_of_ne_nil _ hn
        have := hm3 m hm; rw [h] at this; exact (List.not_mem_nil this).elim
      obtain ⟨j, m, hj, e1, _, k1, _⟩ := s2 hn
      obtain ⟨j', m', hj', f1, _, l1, _⟩ := t2 hn2
      rw [hm1] at l1
      have hmm := List.mem_of_getElem? hj
      have hmm' := List.mem_of_getElem? hj'
      by_cases same : nd.mine = na.mine
      · have h1 := l1 m (hm3 m hmm)
        obtain ⟨g1, g2, _, _⟩ := hr.mv i nd m hnd hmm
        have ih := grown_le hr hg hlen ha hb hmine hne hsub hoth f m.to.toNat (by omega) (by omega)
        rw [same] at h1
        rw [e1]
        unfold sg at h1 ih ⊢
        split at h1 <;> simp_all <;> omega
      · have hin : m' ∈ nd.moves := by
          rcases hm4 with h | h
          · exact absurd h same
          · exact h m' hmm'
        have h1 := k1 m' hin
        obtain ⟨g1, g2, _, _⟩ := hr.mv i nd m' hnd hin
        have ih := grown_le hr hg hlen ha hb hmine hne hsub hoth f m'.to.toNat (by omega) (by omega)
        have hopp : nd.mine = !na.mine := by cases h1 : nd.mine <;> cases h2 : na.mine <;> simp_all
        rw [hopp] at h1
        rw [f1]
        unfold sg at h1 ih ⊢
        cases hna : na.mine <;> simp [hna] at h1 ih ⊢ <;> omega
end Go.Proofs.Ytmjjfafkmfcpnaa
