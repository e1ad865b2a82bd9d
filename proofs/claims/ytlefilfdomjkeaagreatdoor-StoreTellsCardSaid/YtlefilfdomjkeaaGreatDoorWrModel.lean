/- A plain model of layer 1: encodings and readers, and what they have to do with each other. No program in sight. -/
import Derived.Lib.ItoaLen
import Derived.Lib.AtoiAll
import Derived.Lib.Bytealg
namespace Go.Proofs.YtlefilfdomjkeaaGreatDoor
open Go

/-- An int of 64 bits. -/
def I64 (n : Int) : Prop := -9223372036854775808 ≤ n ∧ n ≤ 9223372036854775807
def minI : Int := -9223372036854775808
def intE (n : Int) : List UInt8 := Lib.itoa n ++ [59]
def numE (n : Int) : List UInt8 := if n < 0 then [] else intE n
def textE (s : List UInt8) : List UInt8 := Lib.itoa s.length ++ 58 :: (s ++ [44])
def listE {α : Type} (f : α → List UInt8) (l : List α) : List UInt8 := Lib.itoa l.length ++ 91 :: ((l.map f).flatten ++ [93])
def numsE : List Int → List UInt8 := listE intE
def textsE : List (List UInt8) → List UInt8 := listE textE

/-! ## The decimal form -/

theorem digit_byte (u : Nat) : 48 ≤ (UInt8.ofNat (48 + u % 10)).toNat ∧ (UInt8.ofNat (48 + u % 10)).toNat ≤ 57 ∧ (UInt8.ofNat (48 + u % 10)).toNat - 48 = u % 10 := by
  have h : u % 10 < 10 := Nat.mod_lt _ (by decide)
  have e : (UInt8.ofNat (48 + u % 10)).toNat = 48 + u % 10 := by
    rw [UInt8.toNat_ofNat']
    omega
  omega
theorem dec_bytes : ∀ (u : Nat) (b : UInt8), b ∈ Lib.decDigits u → 48 ≤ b.toNat ∧ b.toNat ≤ 57 := by
  intro u
  induction u using Nat.strongRecOn with
  | _ u ih =>
    intro b hb
    by_cases h : u < 10
    · rw [Lib.decDigits, dif_pos h, List.mem_singleton] at hb
      subst hb
      have := digit_byte u
      rw [Nat.mod_eq_of_lt h] at this
      omega
    · rw [Lib.decDigits, dif_neg h, List.mem_append, List.mem_singleton] at hb
      rcases hb with hb | rfl
      · exact ih (u / 10) (by omega) b hb
      · have := digit_byte u; omega
theorem dec_ne (u : Nat) : Lib.decDigits u ≠ [] := by
  by_cases h : u < 10
  · rw [Lib.decDigits, dif_pos h]; simp
  · rw [Lib.decDigits, dif_neg h]; simp
theorem itoa_bytes {n : Int} {b : UInt8} (h : b ∈ Lib.itoa n) : b.toNat = 45 ∨ (48 ≤ b.toNat ∧ b.toNat ≤ 57) := by
  unfold Lib.itoa at h
  split at h
  · rcases List.mem_cons.1 h with rfl | h
    · exact .inl rfl
    · exact .inr (dec_bytes _ _ h)
  · exact .inr (dec_bytes _ _ h)
theorem itoa_ne (n : Int) : Lib.itoa n ≠ [] := by
  unfold Lib.itoa
  split
  · simp
  · exact dec_ne _
theorem dec_len : ∀ (k u : Nat), u < 10 ^ (k + 1) → (Lib.decDigits u).length ≤ k + 1
  | 0, u, h => by rw [Lib.decDigits, dif_pos (by simpa using h)]; simp
  | k + 1, u, h => by
    by_cases h10 : u < 10
    · rw [Lib.decDigits, dif_pos h10]; simp
    · rw [Lib.decDigits, dif_neg h10, List.length_append, List.length_singleton]
      have := dec_len k (u / 10) (by rw [Nat.pow_succ] at h; omega)
      omega
theorem itoa_len {n : Int} (h : I64 n) : (Lib.itoa n).length ≤ 20 := by
  obtain ⟨h1, h2⟩ := h
  have hp : (10 : Nat) ^ (18 + 1) = 10000000000000000000 := by decide
  unfold Lib.itoa
  split
  · rw [List.length_cons]
    have := dec_len 18 n.natAbs (by rw [hp]; omega)
    omega
  · have := dec_len 18 n.toNat (by rw [hp]; omega)
    omega
theorem itoa_len_small (n : Nat) (h : n < 10000000) : (Lib.itoa n).length ≤ 7 := by
  unfold Lib.itoa
  rw [if_neg (by omega)]
  exact dec_len 6 _ (by simpa using h)

theorem parse_snoc : ∀ (l : List UInt8) (acc a : Nat) (c : UInt8), Lib.parseUint10 acc l = .ok a → Lib.parseUint10 acc (l ++ [c]) = Lib.parseUint10 a [c]
  | [], acc, a, c, h => by
    rw [Lib.parseUint10] at h
    injection h with h
    rw [h]; rfl
  | d :: r, acc, a, c, h => by
    rw [List.cons_append, Lib.parseUint10]
    rw [Lib.parseUint10] at h
    split at h
    · rename_i h0
      rw [if_pos h0]
      split at h
      · cases h
      · rename_i h1
        rw [if_neg h1]
        split at h
        · cases h
        · rename_i h2
          rw [if_neg h2]
          exact parse_snoc r _ a c h
    · cases h
theorem parse_dec : ∀ (u : Nat), u < 18446744073709551616 → Lib.parseUint10 0 (Lib.decDigits u) = .ok u := by
  intro u
  induction u using Nat.strongRecOn with
  | _ u ih =>
    intro hu
    have hd := digit_byte u
    by_cases h : u < 10
    · rw [Nat.mod_eq_of_lt h] at hd
      rw [Lib.decDigits, dif_pos h, Lib.parseUint10, if_pos ⟨hd.1, hd.2.1⟩, if_neg (by omega), if_neg (by omega), Lib.parseUint10]
      congr 1
      omega
    · rw [Lib.decDigits, dif_neg h, parse_snoc _ 0 (u / 10) _ (ih (u / 10) (by omega) (by omega)), Lib.parseUint10, if_pos ⟨hd.1, hd.2.1⟩, if_neg (by omega), if_neg (by omega), Lib.parseUint10]
      congr 1
      omega
theorem mag_dec (u : Nat) (hu : u < 18446744073709551616) : Lib.parseMag (Lib.decDigits u) = .ok u := by
  unfold Lib.parseMag
  rw [if_neg (dec_ne u), parse_dec u hu]
theorem atoi_itoa {n : Int} (h : I64 n) : Lib.atoiAll (Lib.itoa n) = .ok n := by
  obtain ⟨h1, h2⟩ := h
  unfold Lib.itoa
  split
  · rename_i hn
    unfold Lib.atoiAll
    dsimp only
    rw [if_pos (.inr (by decide)), mag_dec _ (by omega)]
    dsimp only
    rw [if_neg (fun h => absurd rfl h.1), if_neg (by omega), if_pos (by decide)]
    congr 1
    omega
  · rename_i hn
    cases hd : Lib.decDigits n.toNat with
    | nil => exact absurd hd (dec_ne _)
    | cons c r =>
      have hc := dec_bytes n.toNat c (by rw [hd]; simp)
      unfold Lib.atoiAll
      dsimp only
      rw [if_neg (by omega), ← hd, mag_dec _ (by omega)]
      dsimp only
      rw [if_neg (by omega), if_neg (by omega), if_neg (by omega)]
      congr 1
      omega
theorem itoa_inj {m n : Int} (hm : I64 m) (hn : I64 n) (h : Lib.itoa m = Lib.itoa n) : m = n := by
  have h1 := atoi_itoa hm
  have h2 := atoi_itoa hn
  rw [h, h2] at h1
  injection h1 with h1
  exact h1.symm
theorem atoi_i64 {l : List UInt8} {n : Int} (h : Lib.atoiAll l = .ok n) : I64 n := by
  unfold Lib.atoiAll at h
  split at h
  · cases h
  · dsimp only at h
    split at h
    · cases h
    · cases h
    · split at h
      · cases h
      · split at h
        · cases h
        · injection h with h
          unfold I64
          split at h <;> omega

/-! ## Readers -/

structure RS where
  rest : List UInt8
  bad : Bool
def failS : RS := ⟨[], true⟩
/-- A reader that has failed has nothing left. -/
def RS.Ok (r : RS) : Prop := r.bad = true → r.rest = []

/-- What is read of a number: itself, and what follows. -/
def numRd (e : UInt8) (least : Int) (r : List UInt8) : Option (Int × List UInt8) :=
  if Lib.indexByte (r.take 21) e < 0 then none
  else match Lib.atoiAll (r.take (Lib.indexByte (r.take 21) e).toNat) with
    | .ok n => if Lib.itoa n = r.take (Lib.indexByte (r.take 21) e).toNat ∧ least ≤ n then some (n, r.drop ((Lib.indexByte (r.take 21) e).toNat + 1)) else none
    | _ => none
def numberF (e : UInt8) (least : Int) (r : RS) : Int × RS :=
  match numRd e least r.rest with
  | some (n, t) => (n, ⟨t, r.bad⟩)
  | none => (0, failS)
def closeF (c : UInt8) (r : RS) : RS :=
  match r.rest with
  | b :: t => if b = c then ⟨t, r.bad⟩ else failS
  | [] => failS
def textF (r : RS) : List UInt8 × RS :=
  if ((numberF 58 0 r).2.rest.length : Int) < (numberF 58 0 r).1 then ([], failS)
  else if (closeF 44 ⟨(numberF 58 0 r).2.rest.drop (numberF 58 0 r).1.toNat, (numberF 58 0 r).2.bad⟩).bad then ([], closeF 44 ⟨(numberF 58 0 r).2.rest.drop (numberF 58 0 r).1.toNat, (numberF 58 0 r).2.bad⟩)
  else ((numberF 58 0 r).2.rest.take (numberF 58 0 r).1.toNat, closeF 44 ⟨(numberF 58 0 r).2.rest.drop (numberF 58 0 r).1.toNat, (numberF 58 0 r).2.bad⟩)
def itemsL {α : Type} (one : RS → α × RS) : Nat → RS → List α → List α × RS
  | 0, r, out => (out, r)
  | n + 1, r, out => if r.bad then (out, r) else itemsL one n (one r).2 (out ++ [(one r).1])
def itemsF {α : Type} (one : RS → α × RS) (r : RS) : List α × RS :=
  if (closeF 93 (itemsL one (numberF 91 0 r).1.toNat (numberF 91 0 r).2 []).2).bad then ([], closeF 93 (itemsL one (numberF 91 0 r).1.toNat (numberF 91 0 r).2 []).2)
  else ((itemsL one (numberF 91 0 r).1.toNat (numberF 91 0 r).2 []).1, closeF 93 (itemsL one (numberF 91 0 r).1.toNat (numberF 91 0 r).2 []).2)
def numF : RS → Int × RS := numberF 59 0
def intF : RS → Int × RS := numberF 59 minI
def numsF : RS → List Int × RS := itemsF intF
def textsF : RS → List (List UInt8) × RS := itemsF textF

theorem index_none {l : List UInt8} {e : UInt8} (h : e ∉ l) : Lib.indexByte l e = -1 := by
  induction l with
  | nil => rfl
  | cons b l ih =>
    unfold Lib.indexByte
    rw [if_neg (by simp only [beq_iff_eq]; intro hb; exact h (by rw [hb]; simp)), ih (fun hm => h (List.mem_cons_of_mem _ hm))]
    rfl
theorem index_at {l : List UInt8} {e : UInt8} (t : List UInt8) (h : e ∉ l) : Lib.indexByte (l ++ e :: t) e = l.length := by
  induction l with
  | nil => unfold Lib.indexByte; simp
  | cons b l ih =>
    rw [List.cons_append]
    unfold Lib.indexByte
    rw [if_neg (by simp only [beq_iff_eq]; intro hb; exact h (by rw [hb]; simp)), ih (fun hm => h (List.mem_cons_of_mem _ hm)), if_neg (by simp only [beq_iff_eq]; omega), List.length_cons]
    omega
theorem index_some {l : List UInt8} {e : UInt8} (h : 0 ≤ Lib.indexByte l e) : ∃ p t, l = p ++ e :: t ∧ e ∉ p ∧ Lib.indexByte l e = p.length := by
  by_cases hm : e ∈ l
  · obtain ⟨p, t, rfl, hp⟩ := List.eq_append_cons_of_mem hm
    exact ⟨p, t, rfl, hp, index_at t hp⟩
  · rw [index_none hm] at h; omega

/-- An end that no number has. -/
def EndB (e : UInt8) : Prop := e.toNat ≠ 45 ∧ (e.toNat < 48 ∨ 57 < e.toNat)
theorem end_not {e : UInt8} (h : EndB e) (n : Int) : e ∉ Lib.itoa n := fun hm => by
  have := itoa_bytes hm
  unfold EndB at h
  omega
theorem numRd_mk {e : UInt8} (he : EndB e) {least n : Int} (hn : I64 n) (hl : least ≤ n) (t : List UInt8) : numRd e least (Lib.itoa n ++ e :: t) = some (n, t) := by
  have hlen := itoa_len hn
  have h21 : (Lib.itoa n ++ e :: t).take 21 = Lib.itoa n ++ e :: t.take (20 - (Lib.itoa n).length) := by
    rw [List.take_append, List.take_of_length_le (by omega), show 21 - (Lib.itoa n).length = (20 - (Lib.itoa n).length) + 1 by omega, List.take_succ_cons]
  have hi : Lib.indexByte ((Lib.itoa n ++ e :: t).take 21) e = (Lib.itoa n).length := by rw [h21]; exact index_at _ (end_not he n)
  unfold numRd
  rw [hi, if_neg (by omega), Int.toNat_natCast, List.take_left, atoi_itoa hn]
  dsimp only
  rw [if_pos ⟨rfl, hl⟩, List.drop_append, List.drop_eq_nil_of_le (by omega), show (Lib.itoa n).length + 1 - (Lib.itoa n).length = 1 by omega]
  rfl
theorem numRd_some {e : UInt8} {least n : Int} {r t : List UInt8} (h : numRd e least r = some (n, t)) : r = Lib.itoa n ++ e :: t ∧ I64 n ∧ least ≤ n := by
  unfold numRd at h
  split at h
  · cases h
  · rename_i h0
    split at h
    · rename_i m hm
      split at h
      · rename_i hc
        injection h with h
        injection h with h1 h2
        subst h1
        obtain ⟨p, q, hp, _, hi⟩ := index_some (l := r.take 21) (e := e) (by omega)
        rw [hi, Int.toNat_natCast] at hc h2
        obtain ⟨u, hr⟩ : ∃ u, r = p ++ e :: u := ⟨q ++ r.drop 21, by
          have := List.take_append_drop 21 r
          rw [hp] at this
          simpa using this.symm⟩
        subst hr
        rw [List.take_left] at hc
        refine ⟨?_, atoi_i64 hm, hc.2⟩
        rw [hc.1, ← h2, List.drop_append, List.drop_eq_nil_of_le (by omega), show p.length + 1 - p.length = 1 by omega]
        rfl
      · cases h
    · cases h
theorem numRd_iff {e : UInt8} (he : EndB e) {least n : Int} {r t : List UInt8} : numRd e least r = some (n, t) ↔ r = Lib.itoa n ++ e :: t ∧ I64 n ∧ least ≤ n :=
  ⟨numRd_some, fun ⟨h1, h2, h3⟩ => by rw [h1]; exact numRd_mk he h2 h3 t⟩
theorem numRd_nil (e : UInt8) (least : Int) : numRd e least [] = none := by
  unfold numRd
  rw [if_pos (show Lib.indexByte ([].take 21) e < 0 from (show (-1 : Int) < 0 by decide))]

theorem end59 : EndB 59 := by unfold EndB; decide
theorem end58 : EndB 58 := by unfold EndB; decide
theorem end91 : EndB 91 := by unfold EndB; decide

theorem numberF_mk {e : UInt8} (he : EndB e) {least n : Int} (hn : I64 n) (hl : least ≤ n) (t : List UInt8) (b : Bool) : numberF e least ⟨Lib.itoa n ++ e :: t, b⟩ = (n, ⟨t, b⟩) := by
  unfold numberF; dsimp only; rw [numRd_mk he hn hl]
theorem numberF_cases (e : UInt8) (least : Int) (r : RS) :
    (∃ n t, numRd e least r.rest = some (n, t) ∧ numberF e least r = (n, ⟨t, r.bad⟩) ∧ r.rest = Lib.itoa n ++ e :: t ∧ I64 n ∧ least ≤ n) ∨ (numRd e least r.rest = none ∧ numberF e least r = (0, failS)) := by
  cases h : numRd e least r.rest with
  | none => exact .inr ⟨rfl, by unfold numberF; rw [h]⟩
  | some x =>
    obtain ⟨n, t⟩ := x
    obtain ⟨h1, h2, h3⟩ := numRd_some h
    exact .inl ⟨n, t, rfl, by unfold numberF; rw [h], h1, h2, h3⟩
theorem numberF_ok (e : UInt8) (least : Int) {r : RS} (h : r.Ok) : (numberF e least r).2.Ok := by
  rcases numberF_cases e least r with ⟨n, t, _, h2, h3, _⟩ | ⟨_, h2⟩
  · rw [h2]
    intro hb
    have := h hb
    rw [this] at h3
    exact absurd h3.symm (by simp)
  · rw [h2]; exact fun _ => rfl
theorem numberF_i64 (e : UInt8) (least : Int) (r : RS) : I64 (numberF e least r).1 := by
  rcases numberF_cases e least r with ⟨n, t, _, h2, _, h3, _⟩ | ⟨_, h2⟩
  · rw [h2]; exact h3
  · rw [h2]; unfold I64; omega
theorem numberF_len (e : UInt8) (least : Int) (r : RS) : (numberF e least r).2.rest.length ≤ r.rest.length - 1 := by
  rcases numberF_cases e least r with ⟨n, t, _, h2, h3, _⟩ | ⟨_, h2⟩
  · rw [h2, h3]; simp
  · rw [h2]; simp [failS]
theorem closeF_len (c : UInt8) (r : RS) : (closeF c r).rest.length ≤ r.rest.length - 1 := by
  unfold closeF
  split
  · rename_i h; rw [h]
    split
    · simp
    · simp [failS]
  · simp [failS]
theorem closeF_ok (c : UInt8) {r : RS} (h : r.Ok) : (closeF c r).Ok := by
  unfold closeF
  split
  · rename_i hr
    split
    · intro hb
      have := h hb
      rw [this] at hr; cases hr
    · exact fun _ => rfl
  · exact fun _ => rfl
theorem closeF_mk (c : UInt8) (t : List UInt8) (b : Bool) : closeF c ⟨c :: t, b⟩ = ⟨t, b⟩ := by
  unfold closeF; dsimp only; rw [if_pos rfl]
theorem closeF_good {c : UInt8} {r : RS} (h : (closeF c r).bad = false) : r.bad = false ∧ r.rest = c :: (closeF c r).rest := by
  unfold closeF at h ⊢
  split at h
  · rename_i b t hr
    rw [hr]
    split at h
    · rename_i hb
      subst hb
      simp only [if_true] at h ⊢
      exact ⟨h, trivial⟩
    · cases h
  · cases h

theorem textF_mk (s t : List UInt8) (b : Bool) (h : I64 s.length) (hb : b = false) : textF ⟨textE s ++ t, b⟩ = (s, ⟨t, b⟩) := by
  have e : textE s ++ t = Lib.itoa (s.length : Int) ++ 58 :: (s ++ 44 :: t) := by simp [textE]
  unfold textF
  rw [e, numberF_mk end58 h (by omega)]
  dsimp only
  rw [if_neg (by simp; omega), Int.toNat_natCast, List.drop_left, closeF_mk, if_neg (by dsimp only; rw [hb]; decide), List.take_left]
theorem textF_ok {r : RS} (h : r.Ok) : (textF r).2.Ok := by
  have h1 := numberF_ok 58 0 h
  unfold textF
  split
  · exact fun _ => rfl
  · have h2 : RS.Ok ⟨(numberF 58 0 r).2.rest.drop (numberF 58 0 r).1.toNat, (numberF 58 0 r).2.bad⟩ := fun hb => by
      have h3 := h1 hb
      dsimp only
      rw [h3]; simp
    split
    · exact closeF_ok 44 h2
    · exact closeF_ok 44 h2
theorem textF_len (r : RS) : (textF r).2.rest.length ≤ r.rest.length - 1 := by
  have h1 := numberF_len 58 0 r
  unfold textF
  split
  · simp [failS]
  · have := closeF_len 44 ⟨(numberF 58 0 r).2.rest.drop (numberF 58 0 r).1.toNat, (numberF 58 0 r).2.bad⟩
    dsimp only at this
    rw [List.length_drop] at this
    split <;> dsimp only <;> omega
theorem textF_vlen (r : RS) : (textF r).1.length ≤ r.rest.length := by
  have h1 := numberF_len 58 0 r
  unfold textF
  split
  · simp
  · split
    · simp
    · dsimp only; rw [List.length_take]; omega
theorem textF_good {r : RS} (h : (textF r).2.bad = false) : r.rest = textE (textF r).1 ++ (textF r).2.rest ∧ r.bad = false ∧ I64 (textF r).1.length := by
  unfold textF at h ⊢
  split at h
  · cases h
  · rename_i h0
    rw [if_neg h0]
    split at h
    · rename_i h1
      rw [h1] at h; cases h
    · rename_i h1
      rw [if_neg h1]
      have h1 : (closeF 44 ⟨(numberF 58 0 r).2.rest.drop (numberF 58 0 r).1.toNat, (numberF 58 0 r).2.bad⟩).bad = false := by simpa using h1
      obtain ⟨g1, g2⟩ := closeF_good h1
      dsimp only at g1 g2
      rcases numberF_cases 58 0 r with ⟨n, t, _, h2, h3, h4, h5⟩ | ⟨_, h2⟩
      · rw [h2] at h0 g1 g2 ⊢
        dsimp only at h0 g1 g2 ⊢
        have hl : (t.take n.toNat).length = n.toNat := by rw [List.length_take]; omega
        refine ⟨?_, g1, ?_⟩
        · rw [h3, textE, hl, show ((n.toNat : Nat) : Int) = n by omega]
          conv => lhs; rw [← List.take_append_drop n.toNat t, g2]
          simp
        · rw [hl]; unfold I64 at h4 ⊢; omega
      · rw [h2] at g1; cases g1

theorem itemsL_snoc {α : Type} (one : RS → α × RS) : ∀ (n : Nat) (r : RS) (out : List α), r.bad = true → itemsL one n r out = (out, r)
  | 0, r, out, _ => rfl
  | n + 1, r, out, h => by rw [itemsL, if_pos h]
theorem itemsL_mk {α : Type} (one : RS → α × RS) (f : α → List UInt8) : ∀ (l : List α) (t : List UInt8) (out : List α), (∀ x ∈ l, ∀ t, one ⟨f x ++ t, false⟩ = (x, ⟨t, false⟩)) →
    itemsL one l.length ⟨(l.map f).flatten ++ t, false⟩ out = (out ++ l, ⟨t, false⟩)
  | [], t, out, _ => by simp [itemsL]
  | x :: l, t, out, h => by
    rw [List.length_cons, itemsL, if_neg (by simp)]
    have e : ((x :: l).map f).flatten ++ t = f x ++ ((l.map f).flatten ++ t) := by simp
    rw [e, h x (by simp)]
    dsimp only
    rw [itemsL_mk one f l t (out ++ [x]) fun y hy => h y (by simp [hy])]
    simp
theorem itemsF_mk {α : Type} (one : RS → α × RS) (f : α → List UInt8) (l : List α) (t : List UInt8) (hl : I64 l.length) (h : ∀ x ∈ l, ∀ t, one ⟨f x ++ t, false⟩ = (x, ⟨t, false⟩)) : itemsF one ⟨listE f l ++ t, false⟩ = (l, ⟨t, false⟩) := by
  have e : listE f l ++ t = Lib.itoa (l.length : Int) ++ 91 :: ((l.map f).flatten ++ 93 :: t) := by simp [listE]
  unfold itemsF
  rw [e, numberF_mk end91 hl (by omega)]
  dsimp only
  rw [Int.toNat_natCast, itemsL_mk one f l _ [] h]
  dsimp only
  rw [closeF_mk, if_neg (by simp)]
  rfl
theorem itemsL_ok {α : Type} {one : RS → α × RS} (h1 : ∀ r : RS, r.Ok → (one r).2.Ok) : ∀ (n : Nat) (r : RS) (out : List α), r.Ok → (itemsL one n r out).2.Ok
  | 0, _, _, h => h
  | n + 1, r, out, h => by
    rw [itemsL]
    split
    · exact h
    · exact itemsL_ok h1 n _ _ (h1 r h)
theorem itemsF_ok {α : Type} {one : RS → α × RS} (h1 : ∀ r : RS, r.Ok → (one r).2.Ok) {r : RS} (h : r.Ok) : (itemsF one r).2.Ok := by
  have h2 := closeF_ok 93 (itemsL_ok h1 (numberF 91 0 r).1.toNat _ [] (numberF_ok 91 0 h))
  unfold itemsF
  split <;> exact h2
/-- What is read is what its encoding is read from. -/
theorem itemsL_good {α : Type} {one : RS → α × RS} {f : α → List UInt8} (h1 : ∀ r : RS, (one r).2.bad = false → r.rest = f (one r).1 ++ (one r).2.rest ∧ r.bad = false) :
    ∀ (n : Nat) (r : RS) (out : List α), (itemsL one n r out).2.bad = false → ∃ l, (itemsL one n r out).1 = out ++ l ∧ l.length = n ∧ r.rest = (l.map f).flatten ++ (itemsL one n r out).2.rest ∧ r.bad = false
  | 0, r, out, h => ⟨[], by simp [itemsL], rfl, by simp [itemsL], h⟩
  | n + 1, r, out, h => by
    rw [itemsL] at h ⊢
    split at h
    · rename_i hb
      rw [hb] at h; cases h
    · rename_i hb
      rw [if_neg hb]
      obtain ⟨l, e1, e2, e3, e4⟩ := itemsL_good h1 n _ _ h
      obtain ⟨g1, g2⟩ := h1 r e4
      refine ⟨(one r).1 :: l, by rw [e1]; simp, by simp [e2], ?_, g2⟩
      rw [g1, e3]; simp
theorem itemsF_good {α : Type} {one : RS → α × RS} {f : α → List UInt8} (h1 : ∀ r : RS, (one r).2.bad = false → r.rest = f (one r).1 ++ (one r).2.rest ∧ r.bad = false) {r : RS} (h : (itemsF one r).2.bad = false) :
    r.rest = listE f (itemsF one r).1 ++ (itemsF one r).2.rest ∧ r.bad = false ∧ I64 (itemsF one r).1.length := by
  unfold itemsF at h ⊢
  split at h
  · rename_i h0
    rw [h0] at h; cases h
  · rename_i h0
    rw [if_neg h0]
    dsimp only at h ⊢
    obtain ⟨g1, g2⟩ := closeF_good h
    obtain ⟨l, e1, e2, e3, e4⟩ := itemsL_good h1 _ _ _ g1
    rw [e1, List.nil_append]
    rcases numberF_cases 91 0 r with ⟨n, t, _, h2, h3, h4, h5⟩ | ⟨_, h2⟩
    · rw [h2] at e1 e2 e3 e4 g2 h ⊢
      dsimp only at e1 e2 e3 e4 g2 h ⊢
      refine ⟨?_, e4, ?_⟩
      · rw [h3, listE, e2, show ((n.toNat : Nat) : Int) = n by omega]
        conv => lhs; rw [e3, g2]
        simp
      · rw [e2]; unfold I64 at h4 ⊢; omega
    · rw [h2] at e4; cases e4

theorem intF_mk {n : Int} (h : I64 n) (t : List UInt8) (b : Bool) : intF ⟨intE n ++ t, b⟩ = (n, ⟨t, b⟩) := by
  have e : intE n ++ t = Lib.itoa n ++ 59 :: t := by simp [intE]
  unfold intF; rw [e]; exact numberF_mk end59 h h.1 t b
theorem numF_mk {n : Int} (h : I64 n) (h0 : 0 ≤ n) (t : List UInt8) (b : Bool) : numF ⟨numE n ++ t, b⟩ = (n, ⟨t, b⟩) := by
  have e : numE n ++ t = Lib.itoa n ++ 59 :: t := by unfold numE; rw [if_neg (by omega)]; simp [intE]
  unfold numF; rw [e]; exact numberF_mk end59 h h0 t b
theorem numsF_mk {l : List Int} (hl : I64 l.length) (h : ∀ x ∈ l, I64 x) (t : List UInt8) : numsF ⟨numsE l ++ t, false⟩ = (l, ⟨t, false⟩) := itemsF_mk intF intE l t hl fun x hx t => intF_mk (h x hx) t false
theorem textsF_mk {l : List (List UInt8)} (hl : I64 l.length) (h : ∀ x ∈ l, I64 x.length) (t : List UInt8) : textsF ⟨textsE l ++ t, false⟩ = (l, ⟨t, false⟩) := itemsF_mk textF textE l t hl fun x hx t => textF_mk x t false (h x hx) rfl
theorem intF_good {r : RS} (h : (intF r).2.bad = false) : r.rest = intE (intF r).1 ++ (intF r).2.rest ∧ r.bad = false := by
  unfold intF at h ⊢
  rcases numberF_cases 59 minI r with ⟨n, t, _, h2, h3, h4, h5⟩ | ⟨_, h2⟩
  · rw [h2] at h ⊢
    exact ⟨by rw [h3]; simp [intE], h⟩
  · rw [h2] at h; cases h
theorem numF_good {r : RS} (h : (numF r).2.bad = false) : r.rest = numE (numF r).1 ++ (numF r).2.rest ∧ r.bad = false := by
  unfold numF at h ⊢
  rcases numberF_cases 59 0 r with ⟨n, t, _, h2, h3, h4, h5⟩ | ⟨_, h2⟩
  · rw [h2] at h ⊢
    exact ⟨by rw [h3, numE, if_neg (by dsimp only; omega)]; simp [intE], h⟩
  · rw [h2] at h; cases h
theorem numsF_good {r : RS} (h : (numsF r).2.bad = false) : r.rest = numsE (numsF r).1 ++ (numsF r).2.rest ∧ r.bad = false ∧ I64 (numsF r).1.length := itemsF_good (f := intE) (fun r h => intF_good h) h
theorem textsF_good {r : RS} (h : (textsF r).2.bad = false) : r.rest = textsE (textsF r).1 ++ (textsF r).2.rest ∧ r.bad = false ∧ I64 (textsF r).1.length := itemsF_good (f := textE) (fun r h => ⟨(textF_good h).1, (textF_good h).2.1⟩) h
theorem intF_ok {r : RS} (h : r.Ok) : (intF r).2.Ok := numberF_ok _ _ h
theorem numF_ok {r : RS} (h : r.Ok) : (numF r).2.Ok := numberF_ok _ _ h
theorem numsF_ok {r : RS} (h : r.Ok) : (numsF r).2.Ok := itemsF_ok (fun _ h => intF_ok h) h
theorem textsF_ok {r : RS} (h : r.Ok) : (textsF r).2.Ok := itemsF_ok (fun _ h => textF_ok h) h
theorem itemsL_bound {α : Type} {one : RS → α × RS} (hl : ∀ r : RS, (one r).2.rest.length ≤ r.rest.length - 1) (ho : ∀ r : RS, r.Ok → (one r).2.Ok) (hb : ∀ r : RS, r.rest = [] → (one r).2.bad = true) : ∀ (n : Nat) (r : RS) (out : List α), r.Ok →
    (itemsL one n r out).1.length + (itemsL one n r out).2.rest.length ≤ out.length + r.rest.length + 1
  | 0, r, out, _ => by rw [itemsL]; dsimp only; omega
  | n + 1, r, out, h => by
    rw [itemsL]
    split
    · dsimp only; omega
    · by_cases hr : r.rest = []
      · rw [itemsL_snoc one n _ _ (hb r hr)]
        dsimp only
        have h1 := hl r
        have h2 : r.rest.length = 0 := by rw [hr]; rfl
        rw [List.length_append, List.length_singleton]
        omega
      · have h1 := itemsL_bound hl ho hb n (one r).2 (out ++ [(one r).1]) (ho r h)
        have h2 := hl r
        have h3 : 0 < r.rest.length := List.length_pos_iff.2 hr
        rw [List.length_append, List.length_singleton] at h1
        omega
end Go.Proofs.YtlefilfdomjkeaaGreatDoor
