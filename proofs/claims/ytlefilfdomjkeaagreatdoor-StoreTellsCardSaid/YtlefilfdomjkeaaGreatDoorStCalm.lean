/- Plain laws of a store on a flash that does not fail: where its pages lie, how worn its blocks are, that drops find room. -/
import Derived.Test.YtlefilfdomjkeaaGreatDoorStLive
namespace Go.Proofs.YtlefilfdomjkeaaGreatDoor
open Go

/-! ## Rounds of blocks -/
theorem succ_divmod {M nb : Nat} (h : 0 < nb) : (M % nb + 1 < nb ∧ (M + 1) / nb = M / nb ∧ (M + 1) % nb = M % nb + 1) ∨ (M % nb + 1 = nb ∧ (M + 1) / nb = M / nb + 1 ∧ (M + 1) % nb = 0) := by
  have d := Nat.div_add_mod M nb
  have l := Nat.mod_lt M h
  by_cases c : M % nb + 1 < nb
  · left
    have e : M + 1 = nb * (M / nb) + (M % nb + 1) := by omega
    have e1 : (nb * (M / nb) + (M % nb + 1)) / nb = M / nb := by rw [Nat.mul_add_div h, Nat.div_eq_of_lt c, Nat.add_zero]
    have e2 : (nb * (M / nb) + (M % nb + 1)) % nb = M % nb + 1 := by rw [Nat.mul_add_mod, Nat.mod_eq_of_lt c]
    rw [← e] at e1 e2
    exact ⟨c, e1, e2⟩
  · right
    have e : M + 1 = nb * (M / nb + 1) := by rw [Nat.mul_add]; omega
    refine ⟨by omega, ?_, ?_⟩
    · rw [e, Nat.mul_div_cancel_left _ h]
    · rw [e, Nat.mul_mod_right]
theorem mod_ne {a d nb : Nat} (h1 : a < d) (h2 : d < a + nb) : a % nb ≠ d % nb := by
  intro e
  have hn : 0 < nb := by omega
  have d1 := Nat.div_add_mod a nb
  have d2 := Nat.div_add_mod d nb
  have h3 : nb * (a / nb) < nb * (d / nb) := by omega
  have h4 : a / nb < d / nb := Nat.lt_of_mul_lt_mul_left h3
  have h5 : nb * (a / nb + 1) ≤ nb * (d / nb) := Nat.mul_le_mul_left _ h4
  rw [Nat.mul_add] at h5
  omega
/-- How often block j has been begun when M blocks have. -/
def vis (nb M j : Nat) : Nat := M / nb + if j < M % nb then 1 else 0
theorem vis_succ {nb M j : Nat} (h : 0 < nb) (hj : j < nb) : vis nb (M + 1) j = vis nb M j + if j = M % nb then 1 else 0 := by
  have l := Nat.mod_lt M h
  unfold vis
  rcases succ_divmod (M := M) h with ⟨_, e1, e2⟩ | ⟨e0, e1, e2⟩
  · rw [e1, e2]
    by_cases c : j = M % nb
    · rw [if_pos c, if_pos (by omega), if_neg (by omega)]
    · rw [if_neg c]
      by_cases c2 : j < M % nb
      · rw [if_pos c2, if_pos (by omega)]
      · rw [if_neg c2, if_neg (by omega)]
  · rw [e1, e2, if_neg (by omega)]
    by_cases c : j = M % nb
    · rw [if_pos c, if_neg (by omega)]
    · rw [if_neg c, if_pos (by omega)]
theorem ceil_zero {n k : Nat} (hk : 0 < k) (h : n % k = 0) : (n + k - 1) / k = n / k := by
  have d := Nat.div_add_mod n k
  have e : n + k - 1 = k * (n / k) + (k - 1) := by omega
  have e1 : (k * (n / k) + (k - 1)) / k = n / k := by rw [Nat.mul_add_div hk, Nat.div_eq_of_lt (show k - 1 < k by omega), Nat.add_zero]
  rw [← e] at e1
  exact e1
theorem ceil_pos {n k : Nat} (hk : 0 < k) (h : n % k ≠ 0) : (n + k - 1) / k = n / k + 1 := by
  have d := Nat.div_add_mod n k
  have l := Nat.mod_lt n hk
  have e : n + k - 1 = k * (n / k + 1) + (n % k - 1) := by rw [Nat.mul_add]; omega
  have e1 : (k * (n / k + 1) + (n % k - 1)) / k = n / k + 1 := by rw [Nat.mul_add_div hk, Nat.div_eq_of_lt (show n % k - 1 < k by omega), Nat.add_zero]
  rw [← e] at e1
  exact e1
theorem ceil_succ {n k : Nat} (hk : 0 < k) : (n + 1 + k - 1) / k = n / k + 1 := by
  rw [show n + 1 + k - 1 = n + k by omega, Nat.add_div_right _ hk]

/-! ## Where the pages lie -/
/-- Next pages up to a position have been written, none has failed; M blocks have been begun. -/
structure Pages (F : Fl) (next M : Nat) : Prop where
  ok : F.Ok
  calm : Calm F
  some_ : ∀ p, p < next → M ≤ p / F.np + F.nb → ∃ g, validAt F (p % (F.nb * F.np)) = some g ∧ g.pos = p
  rest : ∀ p, next ≤ p → p / F.np < M → pageAt F (p % (F.nb * F.np)) = none
  fresh : ∀ i, i < F.nb * F.np → next ≤ i → pageAt F i = none
  wear : ∀ j, j < F.nb → (F.blk j).wear = vis F.nb M j - 1
def TidyF (F : Fl) (next : Nat) : Prop := Pages F next ((next + F.np - 1) / F.np)
def OpenF (F : Fl) (next : Nat) : Prop := Pages F next (next / F.np + 1)
theorem Pages.np_pos {F : Fl} {n M : Nat} (h : Pages F n M) : 0 < F.np := by have := h.ok.np; omega
theorem Pages.nb_pos {F : Fl} {n M : Nat} (h : Pages F n M) : 0 < F.nb := by have := h.ok.nb; omega
theorem empty_eq {F : Fl} (hk : 0 < F.np) (q : Nat) : emptyP F q = (pageAt F (q % (F.nb * F.np))).isNone := by
  unfold emptyP pageAt; rw [pos_div hk, pos_mod hk]
theorem valid_page {F : Fl} {i : Nat} {g : Pg} (h : validAt F i = some g) : (pageAt F i).isNone = false := by
  obtain ⟨s, hs, _⟩ := validAt_some h
  rw [hs]; rfl
theorem last_of_block {n k : Nat} (hk : 0 < k) (h : n % k = 0) : (n + k - 1) / k = n / k ∧ n = k * (n / k) := by
  have d := Nat.div_add_mod n k
  exact ⟨ceil_zero hk h, by omega⟩
/-- At a block's first page: is its last page erased? -/
theorem TidyF.first {F : Fl} {next : Nat} (h : TidyF F next) (hz : next % F.np = 0) : (emptyP F (next + F.np - 1) = true ↔ next / F.np < F.nb) := by
  have hk := h.np_pos
  obtain ⟨e1, e2⟩ := last_of_block hk hz
  rw [empty_eq hk]
  constructor
  · intro he
    refine Classical.byContradiction fun hc => ?_
    have hc : F.nb ≤ next / F.np := by omega
    have hm : F.np * F.nb ≤ F.np * (next / F.np) := Nat.mul_le_mul_left _ hc
    have hnn : F.np * 1 ≤ F.np * F.nb := Nat.mul_le_mul_left _ h.nb_pos
    have hcomm : F.nb * F.np = F.np * F.nb := Nat.mul_comm _ _
    obtain ⟨g, hg, _⟩ := h.some_ (next + F.np - 1 - F.nb * F.np) (by omega) (by
      have e : next + F.np - 1 - F.nb * F.np = F.np * (next / F.np - F.nb) + (F.np - 1) := by rw [Nat.mul_sub]; omega
      rw [e, Nat.mul_add_div hk, Nat.div_eq_of_lt (a := F.np - 1) (by omega), e1]
      omega)
    have e3 : (next + F.np - 1) % (F.nb * F.np) = (next + F.np - 1 - F.nb * F.np) % (F.nb * F.np) := by
      rw [← Nat.add_mod_right (next + F.np - 1 - F.nb * F.np)]
      congr 1
      omega
    rw [e3, valid_page hg] at he
    cases he
  · intro hc
    have hm : F.np * (next / F.np + 1) ≤ F.np * F.nb := Nat.mul_le_mul_left _ hc
    rw [Nat.mul_add, Nat.mul_comm F.np F.nb] at hm
    rw [Nat.mod_eq_of_lt (by omega), h.fresh _ (by omega) (by omega)]
    rfl
/-- The block of the next page is begun. -/
theorem TidyF.open_ {F : Fl} {next : Nat} (h : TidyF F next) (hc : ¬ (next % F.np = 0 ∧ emptyP F (next + F.np - 1) = false)) : OpenF F next := by
  have hk := h.np_pos
  by_cases hz : next % F.np = 0
  · have he : emptyP F (next + F.np - 1) = true := by
      cases hx : emptyP F (next + F.np - 1) with
      | true => rfl
      | false => exact absurd ⟨hz, hx⟩ hc
    have hd := (h.first hz).1 he
    obtain ⟨e1, e2⟩ := last_of_block hk hz
    have hp : Pages F next (next / F.np) := by unfold TidyF at h; rw [e1] at h; exact h
    refine ⟨hp.ok, hp.calm, fun p h1 h2 => hp.some_ p h1 (by omega), fun p h1 h2 => ?_, hp.fresh, fun j hj => ?_⟩
    · have a1 : p < F.np * (next / F.np + 1) := by
        have := (Nat.div_lt_iff_lt_mul hk).1 h2
        rw [Nat.mul_comm] at this
        exact this
      have a2 : F.np * (next / F.np + 1) ≤ F.np * F.nb := Nat.mul_le_mul_left _ hd
      rw [Nat.mul_comm F.np F.nb] at a2
      rw [Nat.mod_eq_of_lt (by omega)]
      exact hp.fresh p (by omega) h1
    · rw [hp.wear j hj, vis_succ hp.nb_pos hj, Nat.mod_eq_of_lt hd]
      split
      · rename_i e
        subst e
        unfold vis
        rw [Nat.div_eq_of_lt hj, Nat.mod_eq_of_lt hj, if_neg (by omega)]
      · rfl
  · have e1 := ceil_pos hk hz
    unfold TidyF at h
    rw [e1] at h
    exact h
theorem TidyF.erase_ {F : Fl} {next : Nat} (h : TidyF F next) (hz : next % F.np = 0) (he : emptyP F (next + F.np - 1) = false) (hw : next ≤ 900 * (F.nb * F.np)) :
    ∃ G, F.erase (next / F.np % F.nb : Nat) = (G, 0) ∧ OpenF G next ∧ G.nb = F.nb ∧ G.np = F.np := by
  have hk := h.np_pos
  have hnb := h.nb_pos
  have hd : F.nb ≤ next / F.np := by
    refine Classical.byContradiction fun hc => ?_
    have := (h.first hz).2 (by omega)
    rw [he] at this
    cases this
  obtain ⟨e1, e2⟩ := last_of_block hk hz
  have hp : Pages F next (next / F.np) := by unfold TidyF at h; rw [e1] at h; exact h
  have hn : next / F.np % F.nb < F.nb := Nat.mod_lt _ hnb
  have hv : 1 ≤ next / F.np / F.nb := (Nat.le_div_iff_mul_le hnb).2 (by omega)
  have hv2 : next / F.np / F.nb ≤ 900 := by
    rw [Nat.div_div_eq_div_mul, Nat.mul_comm F.np F.nb]
    exact Nat.div_le_of_le_mul (by rw [Nat.mul_comm]; exact hw)
  have hwear : (F.blk (next / F.np % F.nb)).wear < 1000 := by
    rw [hp.wear _ hn]
    unfold vis
    split <;> omega
  refine ⟨_, hp.calm.erase hp.ok hn hwear, ?_, rfl, rfl⟩
  have hat : ∀ i, pageAt ((F.clear (next / F.np % F.nb) 0).worn (next / F.np % F.nb)) i = if i / F.np = next / F.np % F.nb then none else pageAt F i := by
    intro i
    rw [worn_at, clear_at]
    by_cases hc : i / F.np = next / F.np % F.nb
    · rw [if_pos hc, if_pos ⟨hc, Nat.zero_le _⟩]
    · rw [if_neg hc, if_neg fun x => hc x.1]
  refine ⟨worn_ok (Fl.clear_ok hp.ok _ _) (by rw [Fl.clear_wear]; exact hwear), ⟨hp.calm.down, hp.calm.left, hp.calm.lost⟩, fun p h1 h2 => ?_, fun p h1 h2 => ?_, fun i h1 h2 => ?_, fun j hj => ?_⟩
  · have h2 : next / F.np + 1 ≤ p / F.np + F.nb := h2
    have h3 : p / F.np < next / F.np := (Nat.div_lt_iff_lt_mul hk).2 (by rw [Nat.mul_comm]; omega)
    obtain ⟨g, hg, hgp⟩ := hp.some_ p h1 (by omega)
    refine ⟨g, ?_, hgp⟩
    show validAt _ (p % (F.nb * F.np)) = some g
    refine Eq.trans (validAt_congr (F := F) (G := (F.clear (next / F.np % F.nb) 0).worn (next / F.np % F.nb)) rfl rfl ?_) hg
    rw [hat, if_neg]
    rw [pos_div hk]
    exact mod_ne h3 (by omega)
  · have h2 : p / F.np < next / F.np + 1 := h2
    show pageAt _ (p % (F.nb * F.np)) = none
    have h3 : next / F.np ≤ p / F.np := Nat.div_le_div_right h1
    rw [hat, if_pos]
    rw [pos_div hk, show p / F.np = next / F.np by omega]
  · have h1 : i < F.nb * F.np := h1
    have a1 : F.np * F.nb ≤ F.np * (next / F.np) := Nat.mul_le_mul_left _ hd
    rw [Nat.mul_comm F.np F.nb] at a1
    omega
  · have hj : j < F.nb := hj
    show (((F.clear _ 0).worn _).blk j).wear = vis F.nb (next / F.np + 1) j - 1
    rw [Fl.worn_wear, Fl.clear_wear, hp.wear j hj, vis_succ hnb hj]
    have : 1 ≤ vis F.nb (next / F.np) j := by unfold vis; omega
    split <;> omega
/-- A page is programmed. -/
theorem OpenF.prog {F : Fl} {next : Nat} (h : OpenF F next) {p : Pg} (hp : p.Good) (hpos : p.pos = next) (hl : (txtP p).length ≤ 64) :
    ∃ G, F.program (next / F.np % F.nb : Nat) (next % F.np : Nat) ⟨(txtP p).toArray⟩ = (G, 0) ∧ TidyF G (next + 1) ∧ G.nb = F.nb ∧ G.np = F.np := by
  have hk := h.np_pos
  have hnb := h.nb_pos
  have hn : next / F.np % F.nb < F.nb := Nat.mod_lt _ hnb
  have hg : next % F.np < F.np := Nat.mod_lt _ hk
  have hidx : next / F.np % F.nb * F.np + next % F.np = next % (F.nb * F.np) := (pos_idx hk).symm
  have hN : 0 < F.nb * F.np := mul_pos' h.ok
  refine ⟨_, h.calm.program hn hg (fun k h1 h2 => ?_) (by show (txtP p).toArray.size ≤ 64; simpa using hl), ?_, rfl, rfl⟩
  · have d := Nat.div_add_mod next F.np
    have r := h.rest (F.np * (next / F.np) + k) (by omega) (by rw [Nat.mul_add_div hk, Nat.div_eq_of_lt h2]; omega)
    unfold pageAt at r
    rw [pos_div hk, pos_mod hk, Nat.mul_add_div hk, Nat.div_eq_of_lt h2, Nat.add_zero, Nat.mul_add_mod, Nat.mod_eq_of_lt h2] at r
    exact r
  · have hat : ∀ i, pageAt (F.setPage (next / F.np % F.nb) (next % F.np) ⟨(txtP p).toArray⟩) i = if i = next % (F.nb * F.np) then some ⟨(txtP p).toArray⟩ else pageAt F i := by
      intro i; rw [set_at hg, hidx]
    unfold TidyF
    show Pages _ (next + 1) ((next + 1 + F.np - 1) / F.np)
    rw [ceil_succ hk]
    refine ⟨Fl.setPage_ok h.ok _ _ _, ⟨h.calm.down, h.calm.left, h.calm.lost⟩, fun q h1 h2 => ?_, fun q h1 h2 => ?_, fun i h1 h2 => ?_, fun j hj => ?_⟩
    · have h2 : next / F.np + 1 ≤ q / F.np + F.nb := h2
      show ∃ g, validAt _ (q % (F.nb * F.np)) = some g ∧ g.pos = q
      by_cases hq : q = next
      · subst hq
        refine ⟨p, ?_, hpos⟩
        unfold validAt
        rw [hat, if_pos rfl]
        dsimp only
        rw [if_pos ⟨ok_good hp, by rw [rd_good hp, hpos]; rfl⟩, rd_good hp]
      · obtain ⟨g, hgv, hgp⟩ := h.some_ q (by omega) h2
        refine ⟨g, ?_, hgp⟩
        refine Eq.trans (validAt_congr (F := F) (G := F.setPage (next / F.np % F.nb) (next % F.np) ⟨(txtP p).toArray⟩) rfl rfl ?_) hgv
        · rw [hat, if_neg]
          intro e
          have e1 : q / F.np % F.nb = next / F.np % F.nb := by rw [← pos_div hk, ← pos_div (nb := F.nb) (q := next) hk, e]
          have e2 : q % F.np = next % F.np := by rw [← pos_mod (nb := F.nb) hk, ← pos_mod (nb := F.nb) (q := next) hk, e]
          have d1 := Nat.div_add_mod q F.np
          have d2 := Nat.div_add_mod next F.np
          by_cases hs : q / F.np = next / F.np
          · rw [hs] at d1; omega
          · have : q / F.np ≤ next / F.np := Nat.div_le_div_right (by omega)
            exact mod_ne (by omega) (by omega) e1
    · have h2 : q / F.np < next / F.np + 1 := h2
      show pageAt _ (q % (F.nb * F.np)) = none
      rw [hat, if_neg]
      · exact h.rest q (by omega) h2
      · intro e
        have e2 : q % F.np = next % F.np := by rw [← pos_mod (nb := F.nb) hk, ← pos_mod (nb := F.nb) (q := next) hk, e]
        have h3 : next / F.np ≤ q / F.np := Nat.div_le_div_right (by omega)
        have d1 := Nat.div_add_mod q F.np
        have d2 := Nat.div_add_mod next F.np
        rw [show q / F.np = next / F.np by omega] at d1
        omega
    · have h1 : i < F.nb * F.np := h1
      rw [hat, if_neg]
      · exact h.fresh i h1 (by omega)
      · intro e
        rw [Nat.mod_eq_of_lt (by omega)] at e
        omega
    · rw [Fl.setPage_wear]
      exact h.wear j hj
theorem txt_len {p : Pg} (hp : p.Good) : (txtP p).length ≤ 64 := by
  have h48 := hdr_len (Nat.le_trans hp.kind (by decide)) hp.pos hp.number hp.diff hp.offset hp.rest
  have h := hp.form.2.2
  unfold txtP
  rw [List.length_append]
  unfold roomP at h
  split at h <;> omega
theorem TidyF.write {F : Fl} {S : St} (h : TidyF F S.next) {p : Pg} (hp : p.Good) (hpos : p.pos = S.next) (hw : S.next ≤ 900 * (F.nb * F.np)) :
    ∃ G, writeP F S (txtP p) = (G, { S with next := S.next + 1 }, 0) ∧ TidyF G (S.next + 1) ∧ G.nb = F.nb ∧ G.np = F.np := by
  unfold writeP
  by_cases hc : S.next % F.np = 0 ∧ emptyP F (S.next + F.np - 1) = false
  · rw [if_pos hc]
    obtain ⟨G, e1, h1, n1, k1⟩ := h.erase_ hc.1 hc.2 hw
    rw [e1, if_pos rfl]
    obtain ⟨H, e2, h2, n2, k2⟩ := h1.prog hp hpos (txt_len hp)
    refine ⟨H, ?_, h2, n2.trans n1, k2.trans k1⟩
    unfold progP
    rw [e2, if_pos rfl]
  · rw [if_neg hc]
    obtain ⟨H, e2, h2, n2, k2⟩ := (h.open_ hc).prog hp hpos (txt_len hp)
    refine ⟨H, ?_, h2, n2, k2⟩
    unfold progP
    rw [e2, if_pos rfl]
theorem TidyF.writes : ∀ (l : List Pg) {F : Fl} {S : St}, TidyF F S.next → (∀ p ∈ l, p.Good) → RunP S.next l → S.next + l.length ≤ 900 * (F.nb * F.np) →
    ∃ G, writesP F S (l.map txtP) = (G, { S with next := S.next + l.length }, 0) ∧ TidyF G (S.next + l.length) ∧ G.nb = F.nb ∧ G.np = F.np
  | [], F, S, h, _, _, _ => ⟨F, rfl, h, rfl, rfl⟩
  | p :: l, F, S, h, hg, hr, hw => by
    rw [List.length_cons] at hw
    obtain ⟨G, e1, h1, n1, k1⟩ := h.write (hg p List.mem_cons_self) hr.1 (by omega)
    obtain ⟨H, e2, h2, n2, k2⟩ := TidyF.writes l (F := G) (S := { S with next := S.next + 1 }) h1 (fun q hq => hg q (List.mem_cons_of_mem _ hq)) hr.2 (by rw [n1, k1]; show S.next + 1 + l.length ≤ _; omega)
    refine ⟨H, ?_, ?_, n2.trans n1, k2.trans k1⟩
    · rw [List.map_cons, writesP, e1, if_pos rfl]
      dsimp only
      rw [e2, List.length_cons]
      simp only [Prod.mk.injEq, St.mk.injEq, true_and, and_true]
      omega
    · rw [List.length_cons, show S.next + (l.length + 1) = S.next + 1 + l.length by omega]
      exact h2
theorem tidyF_new {nb np : Nat} (h1 : 1 ≤ nb ∧ nb ≤ 32) (h2 : 1 ≤ np ∧ np ≤ 16) : TidyF (Fl.new nb np) 0 := by
  have hp : ∀ i, pageAt (Fl.new nb np) i = none := fun i => rfl
  refine ⟨Fl.new_ok h1 h2, ⟨rfl, rfl, rfl⟩, fun p h => absurd h (Nat.not_lt_zero _), fun p _ _ => hp _, fun i _ _ => hp _, fun j hj => ?_⟩
  have e : (0 + (Fl.new nb np).np - 1) / (Fl.new nb np).np = 0 := Nat.div_eq_of_lt (by show 0 + np - 1 < np; omega)
  rw [e]
  unfold vis
  simp
  rfl
/-- No block is worn more than once more than another one. -/
theorem TidyF.even {F : Fl} {next : Nat} (h : TidyF F next) {i j : Nat} (hi : i < F.nb) (hj : j < F.nb) : (F.blk i).wear ≤ (F.blk j).wear + 1 := by
  rw [h.wear i hi, h.wear j hj]
  unfold vis
  split <;> split <;> omega

/-! ## A store on such a flash -/
theorem SegsP.ats_mem : ∀ {rs : List (List UInt8)} {n : Nat} {as : List Nat} {l : List Pg}, SegsP n rs as l → ∀ x ∈ as, ∃ p ∈ l, p.pos = x
  | [], _, [], _, _, x, hx => nomatch hx
  | r :: rs, n, a :: as, l, h, x, hx => by
    obtain ⟨att, tl, more, rfl, h1, ⟨p, hp, ha⟩, h3, h4⟩ := h
    rcases List.mem_cons.1 hx with rfl | hx
    · exact ⟨p, List.mem_append_left _ (List.mem_of_mem_head? hp), ha⟩
    · obtain ⟨q, hq, e⟩ := h4.ats_mem x hx
      exact ⟨q, List.mem_append_right _ (List.mem_append_right _ hq), e⟩
theorem SegsP.ats_sorted : ∀ {rs : List (List UInt8)} {n : Nat} {as : List Nat} {l : List Pg}, SegsP n rs as l → SortedP l → as.Pairwise (· < ·)
  | [], _, [], _, _, _ => List.Pairwise.nil
  | r :: rs, n, a :: as, l, h, hs => by
    obtain ⟨att, tl, more, rfl, h1, ⟨p, hp, ha⟩, h3, h4⟩ := h
    obtain ⟨_, s2, s3⟩ := List.pairwise_append.1 hs
    obtain ⟨_, s4, _⟩ := List.pairwise_append.1 s2
    refine List.pairwise_cons.2 ⟨fun x hx => ?_, h4.ats_sorted s4⟩
    obtain ⟨q, hq, e⟩ := h4.ats_mem x hx
    rw [← ha, ← e]
    exact s3 p (List.mem_of_mem_head? hp) q (List.mem_append_right _ hq)
theorem Says.ats_lt {first : Nat} {recs : List (List UInt8)} {ats : List Nat} {L : List Pg} (h : Says first recs ats L) {n a next : Nat} {l : List Nat} (h0 : 0 < n) (hd : ats.drop n = a :: l) : limitP ats next + 1 ≤ a := by
  obtain ⟨old, tail, rfl, h1, h2⟩ := h.parts
  have hp := h2.ats_sorted (List.pairwise_append.1 h.sorted).2.1
  cases ats with
  | nil => rw [List.drop_nil] at hd; cases hd
  | cons b t =>
    obtain ⟨m, rfl⟩ : ∃ m, n = m + 1 := ⟨n - 1, by omega⟩
    rw [List.drop_succ_cons] at hd
    have hm : a ∈ t := List.mem_of_mem_drop (i := m) (by rw [hd]; exact List.mem_cons_self)
    exact (List.pairwise_cons.1 hp).1 a hm
structure Tidy (F : Fl) (S : St) : Prop where
  live : Live F S
  pages : TidyF F S.next
  slack : S.next + F.np ≤ limitP S.ats S.next + F.nb * F.np
theorem seekDn_all {F : Fl} {q : Nat} : ∀ (n s : Nat), q ≤ s → s ≤ q + n → (∀ t, q ≤ t → t < s → emptyP F t = true) → seekDn F q n s = q
  | 0, s, h1, h2, _ => by rw [seekDn]; omega
  | n + 1, s, h1, h2, h3 => by
    rw [seekDn]
    by_cases hq : q < s
    · rw [if_pos ⟨hq, h3 _ (by omega) (by omega)⟩]
      exact seekDn_all n (s - 1) (by omega) (by omega) fun t a b => h3 t a (by omega)
    · rw [if_neg fun x => hq x.1]; omega
theorem TidyF.seek {F : Fl} {next : Nat} (h : TidyF F next) : seekP F next = next := by
  have hk := h.np_pos
  obtain ⟨k, hk2⟩ : ∃ k, F.np = k + 1 := ⟨F.np - 1, by omega⟩
  have up : seekUp F F.np next = next := by
    rw [hk2, seekUp, if_neg]
    intro hc
    have e := h.rest next (Nat.le_refl _) (by rw [ceil_pos hk hc.1]; omega)
    have := hc.2
    rw [empty_eq hk, e] at this
    cases this
  unfold seekP
  rw [up]
  split
  · rename_i hc
    have hd := (h.first hc.1).1 hc.2
    obtain ⟨e1, e2⟩ := last_of_block hk hc.1
    have hm : F.np * (next / F.np + 1) ≤ F.np * F.nb := Nat.mul_le_mul_left _ hd
    rw [Nat.mul_add, Nat.mul_comm F.np F.nb] at hm
    refine seekDn_all _ _ (by omega) (by omega) fun t a b => ?_
    rw [empty_eq hk, Nat.mod_eq_of_lt (by omega), h.fresh t (by omega) a]
    rfl
  · rfl
theorem Tidy.last {F : Fl} {S : St} (h : Tidy F S) : fromP (pagesP F) = S.next := by
  have hk := h.pages.np_pos
  have hnb := h.pages.nb_pos
  unfold fromP newestP
  cases hl : (pagesP F).getLast? with
  | none =>
    have e := List.getLast?_eq_none_iff.1 hl
    cases hn : S.next with
    | zero => rfl
    | succ n =>
      have hs := h.pages.some_
      rw [hn] at hs
      obtain ⟨g, hg, _⟩ := hs n (by omega) (by
        rw [ceil_succ hk]; omega)
      have : g ∈ pagesP F := mem_pages.2 ⟨_, Nat.mod_lt _ (mul_pos' h.live.ok), hg⟩
      rw [e] at this
      cases this
  | some q =>
    dsimp only
    have h1 := h.live.lt q (List.mem_of_getLast? hl)
    have hs := h.pages.some_
    cases hn : S.next with
    | zero => omega
    | succ n =>
      rw [hn] at hs
      obtain ⟨g, hg, hgp⟩ := hs n (by omega) (by rw [ceil_succ hk]; omega)
      have hgm : g ∈ pagesP F := mem_pages.2 ⟨_, Nat.mod_lt _ (mul_pos' h.live.ok), hg⟩
      have := last_ge h.live.says.sorted hl g hgm
      omega
/-- Opened again, it is as it was. -/
theorem Tidy.open_ {F : Fl} {S : St} (h : Tidy F S) : openP F = S := by
  obtain ⟨c1, c2⟩ := h.live.says.coll
  unfold openP
  rw [h.live.says.first, c1, c2, h.last, h.pages.seek]
theorem tidy_new {nb np : Nat} (h1 : 2 ≤ nb ∧ nb ≤ 32) (h2 : 1 ≤ np ∧ np ≤ 16) : Tidy (Fl.new nb np) ⟨0, 0, [], []⟩ := by
  have K := kept_new h1 h2
  have hv : pagesP (Fl.new nb np) = [] := by
    cases hp : pagesP (Fl.new nb np) with
    | nil => rfl
    | cons p l => exact absurd (K.lt p (by rw [hp]; simp)) (Nat.not_lt_zero _)
  refine ⟨⟨K.ok, K.nb, rfl, K.inv, by rw [hv]; exact says_nil, fun p hp => (by rw [hv] at hp; cases hp), fun p hp => (by rw [hv] at hp; cases hp)⟩, tidyF_new (by omega) h2, ?_⟩
  show 0 + np ≤ 0 + nb * np
  have := Nat.mul_le_mul_right np (show 1 ≤ nb by omega)
  omega
theorem new_open {nb np : Nat} (h1 : 2 ≤ nb ∧ nb ≤ 32) (h2 : 1 ≤ np ∧ np ≤ 16) : openP (Fl.new nb np) = ⟨0, 0, [], []⟩ := (tidy_new h1 h2).open_
theorem limit_snoc (ats : List Nat) (n m : Nat) : limitP (ats ++ [n]) m = limitP ats n := by cases ats <;> rfl
/-- A record is appended. -/
inductive AppendT (F : Fl) (S : St) (r : List UInt8) : Fl × St × Int → Prop
  | long (h : 4000 < r.length) : AppendT F S r (F, S, 3)
  | full (h : fitsP F S (S.next + (recP S r).length - 1 + F.np) = false) : AppendT F S r (F, S, 6)
  | done (G : Fl) (h : Tidy G { S with next := S.next + (recP S r).length, recs := S.recs ++ [r], ats := S.ats ++ [S.next] }) (hn : G.nb = F.nb) (hk : G.np = F.np) (hx : S.next + (recP S r).length ≤ S.next + F.nb * F.np)
      (hf : fitsP F S (S.next + (recP S r).length - 1 + F.np) = true) : AppendT F S r (G, { S with next := S.next + (recP S r).length, recs := S.recs ++ [r], ats := S.ats ++ [S.next] }, 0)
theorem ceil_up (n k : Nat) (hk : 0 < k) : n + 1 ≤ (n / k + 1) * k := by
  have d := Nat.div_add_mod n k
  have l := Nat.mod_lt n hk
  rw [Nat.add_mul, Nat.mul_comm (n / k) k]; omega
theorem Tidy.append {F : Fl} {S : St} {r : List UInt8} (h : Tidy F S) (hs : S.Small r) (hw : S.next + F.nb * F.np ≤ 900 * (F.nb * F.np)) : AppendT F S r (appendP F S r) := by
  have L := append_law h.live hs
  have hk := h.pages.np_pos
  by_cases h1 : 4000 < r.length
  · have e : appendP F S r = (F, S, 3) := by unfold appendP; rw [if_pos h1]
    rw [e]; exact .long h1
  · cases hf : fitsP F S (S.next + (recP S r).length - 1 + F.np) with
    | false =>
      have e : appendP F S r = (F, S, 6) := by unfold appendP; rw [if_neg h1, if_pos hf]
      rw [e]; exact .full hf
    | true =>
      have hlen : 0 < (recP S r).length := List.length_pos_iff.2 (att_ne (rec_att hs))
      have hfi := fits_iff (S := S) (F := F) (q := S.next + (recP S r).length - 1 + F.np) (by rw [hf]; decide)
      rw [Nat.add_div_right _ hk, Nat.add_mul] at hfi
      have hc := ceil_up (S.next + (recP S r).length - 1) F.np hk
      have hfi : ((S.next + (recP S r).length - 1) / F.np + 1) * F.np + 1 * F.np ≤ limitP S.ats S.next + F.nb * F.np := hfi
      have hlim := h.live.says.limit_le h.live.lt
      obtain ⟨G, e1, h2, n1, k1⟩ := h.pages.writes (recP S r) (fun p hp => (rec_all hs p hp).1) (rec_run S r) (by omega)
      have e : appendP F S r = (G, { S with next := S.next + (recP S r).length, recs := S.recs ++ [r], ats := S.ats ++ [S.next] }, 0) := by
        unfold appendP
        rw [if_neg h1, if_neg (by rw [hf]; decide), e1, if_pos rfl]
      rw [e] at L ⊢
      refine .done G ⟨(L.good rfl).1, h2, ?_⟩ n1 k1 (by omega) hf
      show S.next + (recP S r).length + G.np ≤ limitP (S.ats ++ [S.next]) _ + G.nb * G.np
      rw [limit_snoc, n1, k1]
      omega
theorem Tidy.drop {F : Fl} {S : St} {n : Nat} (h : Tidy F S) (hs : S.Small []) (h0 : 0 < n) (hn : n ≤ S.recs.length) (hw : S.next + F.nb * F.np ≤ 900 * (F.nb * F.np)) :
    ∃ G, dropP F S n = (G, ⟨S.first + n, S.next + 1, S.recs.drop n, S.ats.drop n⟩, 0) ∧ Tidy G ⟨S.first + n, S.next + 1, S.recs.drop n, S.ats.drop n⟩ ∧ G.nb = F.nb ∧ G.np = F.np := by
  have hk := h.pages.np_pos
  have L := drop_law h.live hs h0 hn
  have hsl := h.slack
  have hf : fitsP F S S.next = true := by
    unfold fitsP
    rw [limit_eq, decide_eq_true_iff, Nat.add_mul]
    have := Nat.div_mul_le_self S.next F.np
    omega
  obtain ⟨G, e1, h2, n1, k1⟩ := h.pages.write (p := dropPg S n) (drop_good hs) rfl (by omega)
  have e : dropP F S n = (G, ⟨S.first + n, S.next + 1, S.recs.drop n, S.ats.drop n⟩, 0) := by
    unfold dropP
    rw [if_neg (by omega), if_neg (by omega), if_neg (by rw [hf]; decide), Int.toNat_natCast, e1, if_pos rfl]
  rw [e] at L
  refine ⟨G, e, ⟨(L.good rfl).1, h2, ?_⟩, n1, k1⟩
  show S.next + 1 + G.np ≤ limitP (S.ats.drop n) (S.next + 1) + G.nb * G.np
  rw [n1, k1]
  have hN := Nat.mul_le_mul_right F.np h.pages.nb_pos
  cases hd : S.ats.drop n with
  | nil => show S.next + 1 + F.np ≤ S.next + 1 + F.nb * F.np; omega
  | cons a l =>
    show S.next + 1 + F.np ≤ a + F.nb * F.np
    have := h.live.says.ats_lt (next := S.next) h0 hd
    have e2 : limitP S.ats S.next + 1 ≤ a := this
    omega
end Go.Proofs.YtlefilfdomjkeaaGreatDoor
