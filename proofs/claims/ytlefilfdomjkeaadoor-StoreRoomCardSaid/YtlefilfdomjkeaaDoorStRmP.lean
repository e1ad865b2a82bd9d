/- Plain: short records on a flash that does not fail. -/
import Derived.Test.YtlefilfdomjkeaaDoorStT
namespace Go.Proofs.YtlefilfdomjkeaaDoor
open Go
theorem rec_short {S : St} {r : List UInt8} (hs : S.Small r) (hr : r.length ≤ 20) : (recP S r).length = 1 := by
  have h1 := hs.next; have h2 := hs.len
  have z : (numE ((0 : Nat) : Int)).length = 2 := by decide +kernel
  have hh : (hdrP (headP S r 0 0)).length ≤ 36 := by
    unfold hdrP headP
    simp only [List.length_append]
    have a1 := numE_small (show S.next + 0 ≤ 1000000 by omega)
    have a2 := numE_small h2
    have a3 := numE_small (show S.recs.length ≤ 1000000 by unfold St.len at h2; omega)
    have a4 := numE_small (show r.length - 0 ≤ 1000000 by omega)
    omega
  obtain ⟨_, e⟩ := piece_len hs (Nat.zero_le r.length) (Nat.zero_le 0)
  have e2 : (pieceP S r 0 0).bytes.length = r.length := by omega
  unfold recP
  rw [piecesP, if_pos (.inr rfl), e2]
  have e3 : ∀ n, piecesP S r n (0 + 1) (0 + r.length) = [] := fun n => by
    cases n with
    | zero => rfl
    | succ n => rw [piecesP, if_neg (by omega)]
  rw [e3]
  rfl
/-- A short record is appended. -/
theorem Quiet.short {j nb np : Nat} {F : Fl} {S : St} (h : Quiet j nb np F S) (h1 : nb ≤ 6) (h2 : np ≤ 6) (hj : j ≤ 800) {r : List UInt8} (hr : r.length ≤ 20) {R : Fl × St × Int} (hR : appendP F S r = R) :
    Quiet (j + 1) nb np R.1 R.2.1 ∧ (((S.next + np) / np + 1) * np ≤ limitP S.ats S.next + nb * np ∧ R.2.2 = 0 ∧ R.2.1 = { S with next := S.next + 1, recs := S.recs ++ [r], ats := S.ats ++ [S.next] } ∨
      ¬ ((S.next + np) / np + 1) * np ≤ limitP S.ats S.next + nb * np ∧ R.2.2 = 6 ∧ R.1 = F ∧ R.2.1 = S) := by
  have Q := (h.append h1 h2 hj (by omega) hR).1
  subst hR
  refine ⟨Q, ?_⟩
  have hA := h.tidy.append (r := r) (h.small h1 h2 hj (by omega)) (h.room hj)
  have e1 := rec_short (h.small h1 h2 hj (r := r) (by omega)) hr
  have hf : fitsP F S (S.next + (recP S r).length - 1 + F.np) = decide (((S.next + np) / np + 1) * np ≤ limitP S.ats S.next + nb * np) := by
    unfold fitsP
    rw [e1, limit_eq, h.hnb, h.hnp, Nat.add_sub_cancel]
  generalize appendP F S r = R at hA
  cases hA with
  | long h => omega
  | full hx => rw [hf] at hx; exact .inr ⟨of_decide_eq_false hx, rfl, rfl, rfl⟩
  | done G ht hn hk hx hx2 => rw [hf] at hx2; rw [e1]; exact .inl ⟨of_decide_eq_true hx2, rfl, rfl⟩
theorem fits_new {nb np i : Nat} (hb : 2 ≤ nb) (hp : 0 < np) : ((i + np) / np + 1) * np ≤ 0 + nb * np ↔ i < (nb - 1) * np := by
  rw [Nat.add_div_right _ hp, Nat.zero_add]
  have e : nb = (nb - 1) + 1 := by omega
  constructor
  · intro h
    have h := Nat.le_of_mul_le_mul_right h hp
    have h3 : i / np < nb - 1 := by omega
    exact (Nat.div_lt_iff_lt_mul hp).1 h3
  · intro h
    have h3 := (Nat.div_lt_iff_lt_mul hp).2 h
    exact Nat.mul_le_mul_right _ (by omega)
theorem fits_few {nb np n L : Nat} (hp : 0 < np) (h : ((n + np) / np + 1) * np ≤ L + nb * np) : n + np < L + nb * np := by
  have := (next_block (n := n + np) hp).2
  rw [Nat.add_mul, Nat.one_mul] at h
  omega
theorem fits_free {nb np n : Nat} (hb : 2 ≤ nb) (hp : 0 < np) : ((n + np) / np + 1) * np ≤ n + nb * np := by
  rw [Nat.add_div_right _ hp]
  have h1 := Nat.div_mul_le_self n np
  have h2 := Nat.mul_le_mul_right np hb
  rw [Nat.add_mul, Nat.add_mul]
  omega
theorem Quiet.limit {j nb np : Nat} {F : Fl} {S : St} (h : Quiet j nb np F S) : limitP S.ats S.next ≤ S.next := h.tidy.live.says.limit_le h.tidy.live.lt
end Go.Proofs.YtlefilfdomjkeaaDoor
