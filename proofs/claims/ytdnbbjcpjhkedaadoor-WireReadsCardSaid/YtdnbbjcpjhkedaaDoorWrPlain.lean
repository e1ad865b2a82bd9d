/- Plain laws of readers and encodings. No program in sight. -/
import Derived.Test.YtdnbbjcpjhkedaaDoorWrModel
namespace Go.Proofs.YtdnbbjcpjhkedaaDoor
open Go

theorem intF_len' (r : RS) : (intF r).2.rest.length ≤ r.rest.length - 1 := numberF_len _ _ _
theorem intF_nil' (r : RS) (h : r.rest = []) : (intF r).2.bad = true := by
  unfold intF numberF
  rw [h, numRd_nil]; rfl
theorem textF_nil' (r : RS) (h : r.rest = []) : (textF r).2.bad = true := by
  have : numberF 58 0 r = (0, failS) := by unfold numberF; rw [h, numRd_nil]
  unfold textF
  rw [this]; rfl
theorem items_len {α : Type} {one : RS → α × RS} (hl : ∀ r : RS, (one r).2.rest.length ≤ r.rest.length - 1) (ho : ∀ r : RS, r.Ok → (one r).2.Ok) (hb : ∀ r : RS, r.rest = [] → (one r).2.bad = true) {r : RS} (h : r.Ok) : (itemsF one r).1.length ≤ r.rest.length + 1 := by
  have h1 := itemsL_bound hl ho hb (numberF 91 0 r).1.toNat (numberF 91 0 r).2 [] (numberF_ok 91 0 h)
  have h2 := numberF_len 91 0 r
  rw [List.length_nil] at h1
  unfold itemsF
  split <;> dsimp only
  · simp
  · omega
theorem nums_len {r : RS} (h : r.Ok) : (numsF r).1.length ≤ r.rest.length + 1 := items_len intF_len' (fun _ h => intF_ok h) intF_nil' h
theorem texts_len {r : RS} (h : r.Ok) : (textsF r).1.length ≤ r.rest.length + 1 := items_len textF_len (fun _ h => textF_ok h) textF_nil' h
theorem itemsL_all {α : Type} {one : RS → α × RS} {P : α → Prop} {N : Nat} (hl : ∀ r : RS, (one r).2.rest.length ≤ r.rest.length - 1) (hp : ∀ r : RS, r.rest.length ≤ N → P (one r).1) : ∀ (n : Nat) (r : RS) (out : List α), r.rest.length ≤ N → (∀ x ∈ out, P x) → ∀ x ∈ (itemsL one n r out).1, P x
  | 0, _, _, _, ho => ho
  | n + 1, r, out, hr, ho => by
    rw [itemsL]
    split
    · exact ho
    · refine itemsL_all hl hp n _ _ (by have := hl r; omega) fun x hx => ?_
      rcases List.mem_append.1 hx with hx | hx
      · exact ho x hx
      · rw [List.mem_singleton] at hx; subst hx; exact hp r hr
theorem texts_elem {r : RS} : ∀ x ∈ (textsF r).1, x.length ≤ r.rest.length := by
  have h := itemsL_all (one := textF) (P := fun x => x.length ≤ r.rest.length) (N := r.rest.length) textF_len (fun r' h => Nat.le_trans (textF_vlen r') h) (numberF 91 0 r).1.toNat (numberF 91 0 r).2 [] (by have := numberF_len 91 0 r; omega) (fun x hx => (List.not_mem_nil hx).elim)
  unfold textsF itemsF
  split
  · exact fun x hx => (List.not_mem_nil hx).elim
  · exact h
theorem nums_elem {r : RS} : ∀ x ∈ (numsF r).1, I64 x := by
  have h := itemsL_all (one := intF) (P := fun x => I64 x) (N := r.rest.length) intF_len' (fun r' _ => numberF_i64 _ _ _) (numberF 91 0 r).1.toNat (numberF 91 0 r).2 [] (by have := numberF_len 91 0 r; omega) (fun x hx => (List.not_mem_nil hx).elim)
  unfold numsF itemsF
  split
  · exact fun x hx => (List.not_mem_nil hx).elim
  · exact h
theorem flat_len {α : Type} (f : α → List UInt8) (c : Nat) : ∀ (l : List α), (∀ x ∈ l, (f x).length ≤ c) → ((l.map f).flatten).length ≤ c * l.length
  | [], _ => by simp
  | x :: l, h => by
    have h1 := h x (by simp)
    have h2 := flat_len f c l fun y hy => h y (by simp [hy])
    rw [List.map_cons, List.flatten_cons, List.length_append, List.length_cons, Nat.mul_add]
    omega
theorem listE_len {α : Type} (f : α → List UInt8) (c : Nat) (l : List α) (hl : l.length ≤ 1000000) (h : ∀ x ∈ l, (f x).length ≤ c) : (listE f l).length ≤ 22 + c * l.length := by
  have h1 := flat_len f c l h
  have h2 := itoa_len (n := l.length) (by unfold I64; omega)
  unfold listE
  simp only [List.length_append, List.length_cons, List.length_nil]
  omega
theorem intE_len {n : Int} (h : I64 n) : (intE n).length ≤ 21 := by
  have := itoa_len h
  unfold intE; simp; omega
theorem numE_len {n : Int} (h : I64 n) : (numE n).length ≤ 21 := by
  unfold numE
  split
  · simp
  · exact intE_len h
theorem textE_len {s : List UInt8} (h : s.length ≤ 100000000) : (textE s).length ≤ s.length + 22 := by
  have := itoa_len (n := s.length) (by unfold I64; omega)
  unfold textE; simp; omega
theorem numsE_len {l : List Int} (hl : l.length ≤ 1000000) (h : ∀ x ∈ l, I64 x) : (numsE l).length ≤ 22 + 21 * l.length := listE_len intE 21 l hl fun x hx => intE_len (h x hx)
theorem textsE_len {l : List (List UInt8)} {c : Nat} (hl : l.length ≤ 1000000) (hc : c ≤ 10000000) (h : ∀ x ∈ l, x.length ≤ c) : (textsE l).length ≤ 22 + (c + 22) * l.length :=
  listE_len textE (c + 22) l hl fun x hx => by have := h x hx; have := textE_len (s := x) (by omega); omega

/-- A value is read, and encoded again. -/
def againF (k : Int) (r : RS) : List UInt8 × RS :=
  if k = 0 then (numE (numF r).1, (numF r).2) else if k = 1 then (intE (intF r).1, (intF r).2) else if k = 2 then (textE (textF r).1, (textF r).2) else if k = 3 then (numsE (numsF r).1, (numsF r).2) else (textsE (textsF r).1, (textsF r).2)
theorem again_good {k : Int} {r : RS} (h : (againF k r).2.bad = false) : r.rest = (againF k r).1 ++ (againF k r).2.rest := by
  unfold againF at h ⊢
  by_cases k0 : k = 0
  · rw [if_pos k0] at h ⊢; exact (numF_good h).1
  rw [if_neg k0] at h ⊢
  by_cases k1 : k = 1
  · rw [if_pos k1] at h ⊢; exact (intF_good h).1
  rw [if_neg k1] at h ⊢
  by_cases k2 : k = 2
  · rw [if_pos k2] at h ⊢; exact (textF_good h).1
  rw [if_neg k2] at h ⊢
  by_cases k3 : k = 3
  · rw [if_pos k3] at h ⊢; exact (numsF_good h).1
  rw [if_neg k3] at h ⊢
  exact (textsF_good h).1
theorem again_ok {k : Int} {r : RS} (h : r.Ok) : (againF k r).2.Ok := by
  unfold againF
  split
  · exact numF_ok h
  split
  · exact intF_ok h
  split
  · exact textF_ok h
  split
  · exact numsF_ok h
  · exact textsF_ok h
end Go.Proofs.YtdnbbjcpjhkedaaDoor
