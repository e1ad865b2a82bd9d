/- A plain model of layer 11: parts, requests and boxes. No program in sight. -/
import Derived.Test.YtabnniabofhihaaDoorWrModel
import Derived.Test.YtabnniabofhihaaDoorFm
namespace Go.Proofs.YtabnniabofhihaaDoor
open Go

abbrev Bs := List UInt8
def maxMark : Int := 1073741824
theorem maxMark_eq : maxMark = 1073741824 := rfl

/-! ## Parts -/

structure Pt where
  id : Int
  index : Int
  count : Int
  bytes : Bs
def partE (id i c : Int) (b : Bs) : Bs := numE id ++ numE i ++ numE c ++ b
/-- What the reader has read of a part. -/
def rawF (s : Bs) : Pt :=
  ⟨(numF ⟨s, false⟩).1, (numF (numF ⟨s, false⟩).2).1, (numF (numF (numF ⟨s, false⟩).2).2).1, (numF (numF (numF ⟨s, false⟩).2).2).2.rest⟩
/-- It is a part. -/
def PtOk (s : Bs) (p : Pt) : Prop := p.id ≤ maxMark ∧ p.index < p.count ∧ p.count ≤ 2500 ∧ s.length ≤ 140 ∧ (p.bytes ≠ [] ∨ p.count = 1) ∧ partE p.id p.index p.count p.bytes = s
instance (s : Bs) (p : Pt) : Decidable (PtOk s p) := by unfold PtOk; exact inferInstance
def partF (s : Bs) : Option Pt := if PtOk s (rawF s) then some (rawF s) else none
theorem numF_ge (r : RS) : 0 ≤ (numF r).1 := by
  unfold numF
  rcases numberF_cases 59 0 r with ⟨n, t, _, h2, _, _, h⟩ | ⟨_, h2⟩
  · rw [h2]; exact h
  · rw [h2]; exact Int.le_refl 0
theorem partF_some {s : Bs} {p : Pt} (h : partF s = some p) : PtOk s p ∧ 0 ≤ p.id ∧ 0 ≤ p.index := by
  unfold partF at h
  split at h
  · rename_i hp
    injection h with h
    subst h
    exact ⟨hp, numF_ge _, numF_ge _⟩
  · cases h
theorem rawF_mk {id i c : Int} {b : Bs} (hid : 0 ≤ id ∧ id ≤ maxMark) (hi : 0 ≤ i) (hic : i < c) (hc : c ≤ 2500) : rawF (partE id i c b) = ⟨id, i, c, b⟩ := by
  have hm := maxMark_eq
  have e : partE id i c b = numE id ++ (numE i ++ (numE c ++ b)) := by unfold partE; simp
  unfold rawF
  rw [e, numF_mk (by unfold I64; omega) hid.1, numF_mk (by unfold I64; omega) hi, numF_mk (by unfold I64; omega) (by omega)]
theorem partF_mk {id i c : Int} {b : Bs} (hid : 0 ≤ id ∧ id ≤ maxMark) (hi : 0 ≤ i) (hic : i < c) (hc : c ≤ 2500) (hl : (partE id i c b).length ≤ 140) (hb : b ≠ [] ∨ c = 1) : partF (partE id i c b) = some ⟨id, i, c, b⟩ := by
  unfold partF
  rw [rawF_mk hid hi hic hc, if_pos ⟨hid.2, hic, hc, hl, hb, rfl⟩]
theorem partF_no {id i c : Int} (hid : 0 ≤ id ∧ id ≤ maxMark) (hi : 0 ≤ i) (hic : i < c) (hc : c ≤ 2500) (h1 : c ≠ 1) : partF (partE id i c []) = none := by
  unfold partF
  rw [rawF_mk hid hi hic hc, if_neg]
  rintro ⟨_, _, _, _, h, _⟩
  rcases h with h | h
  · exact h rfl
  · exact h1 h

/-! ## Split -/

def cntF (len n : Nat) : Nat := max 1 ((len + n - 1) / n)
def chunk (msg : Bs) (n i : Nat) : Bs := (msg.drop (i * n)).take n
def splitL (id : Int) (msg : Bs) (n : Nat) : List Bs := (List.range (cntF msg.length n)).map fun i => partE id (i : Nat) (cntF msg.length n : Nat) (chunk msg n i)
theorem splitL_len (id : Int) (msg : Bs) (n : Nat) : (splitL id msg n).length = cntF msg.length n := by unfold splitL; simp
theorem splitL_get {id : Int} {msg : Bs} {n i : Nat} (h : i < cntF msg.length n) : (splitL id msg n)[i]? = some (partE id (i : Nat) (cntF msg.length n : Nat) (chunk msg n i)) := by
  unfold splitL; rw [List.getElem?_map, List.getElem?_range h]; rfl
theorem cnt_pos (len n : Nat) : 1 ≤ cntF len n := by unfold cntF; omega
theorem cnt_cover {len n : Nat} (hn : 0 < n) : len ≤ cntF len n * n := by
  have h1 : (len + n - 1) / n ≤ cntF len n := by unfold cntF; omega
  have h2 := Nat.mul_le_mul_right n h1
  have h3 := Nat.div_add_mod (len + n - 1) n
  have h4 := Nat.mod_lt (len + n - 1) hn
  rw [Nat.mul_comm] at h3
  omega
theorem cnt_tight {len n i : Nat} (hn : 0 < n) (hi : i < cntF len n) (h1 : cntF len n ≠ 1) : i * n < len := by
  have h3 : i < (len + n - 1) / n := by unfold cntF at hi h1; omega
  have h4 : i + 1 ≤ (len + n - 1) / n := h3
  rw [Nat.le_div_iff_mul_le hn, Nat.add_mul] at h4
  omega
theorem cnt_le {len n : Nat} (hn : 8 ≤ n) (hl : len ≤ 20000) : cntF len n ≤ 2500 := by
  unfold cntF
  have h : (len + n - 1) / n ≤ 2500 := by
    rw [← Nat.lt_succ_iff, Nat.div_lt_iff_lt_mul (by omega)]
    have : 2501 * n = 2501 * 8 + 2501 * (n - 8) := by rw [← Nat.mul_add]; congr 1; omega
    show len + n - 1 < 2501 * n
    omega
  omega
theorem cnt_mono {len n m : Nat} (hn : 0 < n) (h : n ≤ m) : cntF len m ≤ cntF len n := by
  have h1 : (len + m - 1) / m ≤ (len + n - 1) / n := by
    have hm : 0 < m := by omega
    have hq : len ≤ (len + n - 1) / n * n := by
      have h3 := Nat.div_add_mod (len + n - 1) n
      have h4 := Nat.mod_lt (len + n - 1) hn
      rw [Nat.mul_comm] at h3
      omega
    have hq2 : len ≤ (len + n - 1) / n * m := Nat.le_trans hq (Nat.mul_le_mul_left _ h)
    rw [← Nat.lt_succ_iff, Nat.div_lt_iff_lt_mul hm, Nat.succ_mul]
    omega
  unfold cntF
  omega
theorem chunk_len {msg : Bs} {n i : Nat} (h : (i + 1) * n ≤ msg.length) : (chunk msg n i).length = n := by
  unfold chunk
  rw [List.length_take, List.length_drop]
  rw [Nat.add_mul] at h
  omega
theorem chunk_le (msg : Bs) (n i : Nat) : (chunk msg n i).length ≤ n := by unfold chunk; rw [List.length_take]; omega
theorem chunk_full {msg : Bs} {n i : Nat} (hn : 0 < n) (hi : i + 1 < cntF msg.length n) : (chunk msg n i).length = n :=
  chunk_len (Nat.le_of_lt (cnt_tight hn hi (by omega)))
theorem chunk_ne {msg : Bs} {n i : Nat} (hn : 0 < n) (hi : i < cntF msg.length n) : chunk msg n i ≠ [] ∨ cntF msg.length n = 1 := by
  by_cases h1 : cntF msg.length n = 1
  · exact .inr h1
  · left
    have := cnt_tight hn hi h1
    intro h
    have h2 : (chunk msg n i).length = 0 := by rw [h]; rfl
    unfold chunk at h2
    rw [List.length_take, List.length_drop] at h2
    omega
theorem chunks_take (msg : Bs) (n : Nat) : ∀ k, ((List.range k).map (chunk msg n)).flatten = msg.take (k * n)
  | 0 => by simp
  | k + 1 => by
    rw [List.range_succ, List.map_append, List.flatten_append, chunks_take msg n k, Nat.add_mul, Nat.one_mul, List.take_add]
    unfold chunk; simp
theorem chunks_all {msg : Bs} {n : Nat} (hn : 0 < n) : ((List.range (cntF msg.length n)).map (chunk msg n)).flatten = msg := by
  rw [chunks_take, List.take_of_length_le (cnt_cover hn)]

/-- So few bytes a number has. -/
theorem num_len {n : Int} {k : Nat} (h0 : 0 ≤ n) (h : n < 10 ^ (k + 1)) : (numE n).length ≤ k + 2 := by
  unfold numE intE
  rw [if_neg (by omega), List.length_append, List.length_singleton]
  unfold Lib.itoa
  rw [if_neg (by omega)]
  have := dec_len k n.toNat (by
    have : ((10 ^ (k + 1) : Nat) : Int) = 10 ^ (k + 1) := by simp
    omega)
  omega
theorem part_len {id i c : Int} {b : Bs} (hid : 0 ≤ id ∧ id ≤ maxMark) (hi : 0 ≤ i) (hic : i < c) (hc : c ≤ 2500) : (partE id i c b).length ≤ 21 + b.length := by
  have hm := maxMark_eq
  have h1 := num_len (k := 9) hid.1 (by omega)
  have h2 := num_len (k := 3) hi (by omega)
  have h3 := num_len (n := c) (k := 3) (by omega) (by omega)
  unfold partE
  rw [List.length_append, List.length_append, List.length_append]
  omega
/-- A part of a message is a part. -/
theorem split_part {id : Int} {msg : Bs} {n i : Nat} (hid : 0 ≤ id ∧ id ≤ maxMark) (hn : 8 ≤ n) (hn2 : n ≤ 116) (hl : msg.length ≤ 20000) (hi : i < cntF msg.length n) :
    partF (partE id (i : Nat) (cntF msg.length n : Nat) (chunk msg n i)) = some ⟨id, (i : Nat), (cntF msg.length n : Nat), chunk msg n i⟩ := by
  have hc := cnt_le hn hl
  have hlen := part_len (b := chunk msg n i) hid (i := (i : Nat)) (c := (cntF msg.length n : Nat)) (by omega) (by omega) (by omega)
  have hch := chunk_le msg n i
  refine partF_mk hid (by omega) (by omega) (by omega) (by omega) ?_
  rcases chunk_ne (by omega) hi with h | h
  · exact .inl h
  · exact .inr (by rw [h]; rfl)
theorem split_size {id : Int} {msg : Bs} {n i : Nat} (hid : 0 ≤ id ∧ id ≤ maxMark) (hn : 8 ≤ n) (hl : msg.length ≤ 20000) (hi : i < cntF msg.length n) :
    (partE id (i : Nat) (cntF msg.length n : Nat) (chunk msg n i)).length ≤ n + 24 := by
  have hc := cnt_le hn hl
  have hlen := part_len (b := chunk msg n i) hid (i := (i : Nat)) (c := (cntF msg.length n : Nat)) (by omega) (by omega) (by omega)
  have hch := chunk_le msg n i
  omega

/-! ## Requests -/

def upB : List Int → Bool
  | [] => true
  | [_] => true
  | a :: b :: r => decide (a < b) && upB (b :: r)
def ReqOk (s : Bs) (id : Int) (l : List Int) (r : RS) : Prop :=
  r.bad = false ∧ r.rest = [] ∧ s.length ≤ 140 ∧ id ≤ maxMark ∧ l ≠ [] ∧ l.length % 2 = 0 ∧ l.getLastD 0 ≤ 2500 ∧ upB l = true ∧ numE id ++ numsE l = s
instance (s : Bs) (id : Int) (l : List Int) (r : RS) : Decidable (ReqOk s id l r) := by unfold ReqOk; exact inferInstance
def requestF (s : Bs) : Option (Int × List Int) :=
  if ReqOk s (numF ⟨s, false⟩).1 (numsF (numF ⟨s, false⟩).2).1 (numsF (numF ⟨s, false⟩).2).2 then some ((numF ⟨s, false⟩).1, (numsF (numF ⟨s, false⟩).2).1) else none
/-- Those of the parts that a request names. -/
def sel {α : Type} (parts : List α) : List Int → List α
  | a :: b :: r => (parts.drop a.toNat).take (b.toNat - a.toNat) ++ sel parts r
  | _ => []
/-- All parts of one message. -/
def fitB (id : Int) (n : Nat) : Nat → List Bs → Bool
  | _, [] => true
  | i, p :: r => (match partF p with | some q => decide (q.id = id) && decide (q.index = (i : Int)) && decide (q.count = (n : Int)) | none => false) && fitB id n (i + 1) r
def resumeF (parts : List Bs) (ask : Bs) : List Bs × Int :=
  match requestF ask with
  | none => ([], 2)
  | some (id, l) =>
    if fitB id parts.length 0 parts = false then ([], 1)
    else if parts = [] then ([], 1)
    else if (parts.length : Int) < l.getLastD 0 then ([], 3)
    else (sel parts l, 0)

/-! ## Boxes -/

structure Ms where
  count : Nat
  parts : List (Int × Bs)
abbrev Bx := List (Int × Ms)
def setM {α : Type} (l : List (Int × α)) (x : Int) (v : α) : List (Int × α) := l.map fun p => if p.1 = x then (x, v) else p
def addPart (m : Ms) (i : Int) (b : Bs) : Ms := ⟨m.count, putM m.parts i b⟩
def takeF (bx : Bx) (s : Bs) : Int × Bx :=
  match partF s with
  | none => (2, bx)
  | some p =>
    match bx.lookup p.id with
    | some m => if (m.count : Int) ≠ p.count ∨ ((m.parts.lookup p.index).getD p.bytes) ≠ p.bytes then (5, bx) else (0, setM bx p.id (addPart m p.index p.bytes))
    | none => if 100 ≤ bx.length then (6, bx) else (0, putM bx p.id ⟨p.count.toNat, [(p.index, p.bytes)]⟩)
def missL (m : Ms) : List Int := ((List.range m.count).map fun i : Nat => (i : Int)).filter fun i => (m.parts.lookup i).isNone
def missF (bx : Bx) (id : Int) : List Int × Int := match bx.lookup id with | none => ([], 4) | some m => (missL m, 0)
def allB (m : Ms) (n : Nat) : Bs := ((List.range n).map fun i : Nat => (m.parts.lookup (i : Int)).getD []).flatten
def doneX (bx : Bx) (id : Int) : Bs × Bool := match bx.lookup id with | none => ([], false) | some m => if m.parts.length < m.count then ([], false) else (allB m m.count, true)
/-- How far the numbers go up by one. -/
def runTo : Int → List Int → Int × List Int
  | x, [] => (x, [])
  | x, y :: r => if y = x + 1 then runTo y r else (x, y :: r)
theorem runTo_len : ∀ (x : Int) (r : List Int), (runTo x r).2.length ≤ r.length
  | x, [] => Nat.le_refl _
  | x, y :: r => by
    unfold runTo
    split
    · exact Nat.le_trans (runTo_len y r) (Nat.le_succ _)
    · exact Nat.le_refl _
def askL (id : Int) (l : List Int) (out : Bs) : List Int → Bs
  | [] => out
  | x :: r =>
    if (numE id ++ numsE (l ++ [x, (runTo x r).1 + 1])).length > 140 then out
    else askL id (l ++ [x, (runTo x r).1 + 1]) (numE id ++ numsE (l ++ [x, (runTo x r).1 + 1])) (runTo x r).2
termination_by ms => ms.length
decreasing_by exact Nat.lt_succ_of_le (runTo_len x r)
def askF (bx : Bx) (id : Int) : Bs × Int :=
  if (missF bx id).2 ≠ 0 then ([], (missF bx id).2)
  else if (missF bx id).1 = [] then ([], 7)
  else (askL id [] [] (missF bx id).1, 0)

/-- What every box keeps. -/
structure MsOk (m : Ms) : Prop where
  pos : 1 ≤ m.count
  few : m.count ≤ 2500
  nodup : (m.parts.map Prod.fst).Nodup
  part : ∀ p ∈ m.parts, 0 ≤ p.1 ∧ p.1 < m.count ∧ p.2.length ≤ 140
structure BxOk (bx : Bx) : Prop where
  nodup : (bx.map Prod.fst).Nodup
  few : bx.length ≤ 100
  ms : ∀ p ∈ bx, 0 ≤ p.1 ∧ p.1 ≤ maxMark ∧ MsOk p.2
theorem setM_fst {α : Type} (l : List (Int × α)) (x : Int) (v : α) : (setM l x v).map Prod.fst = l.map Prod.fst := by
  unfold setM
  rw [List.map_map]
  refine List.map_congr_left fun p _ => ?_
  simp only [Function.comp]
  split
  · rename_i h; exact h.symm
  · rfl
theorem lookup_set {α : Type} (l : List (Int × α)) (x y : Int) (v : α) (h : (l.lookup x).isSome) : (setM l x v).lookup y = if y = x then some v else l.lookup y := by
  unfold setM
  induction l with
  | nil => cases h
  | cons p r ih =>
    obtain ⟨a, b⟩ := p
    rw [List.map_cons]
    by_cases hax : a = x
    · subst hax
      dsimp only
      rw [if_pos rfl]
      by_cases hy : y = a
      · subst hy; simp
      · rw [List.lookup_cons, beq_eq_false_iff_ne.2 hy, if_neg hy, List.lookup_cons, beq_eq_false_iff_ne.2 hy]
        dsimp only
        clear ih h
        induction r with
        | nil => rfl
        | cons q r ih2 =>
          obtain ⟨c, d⟩ := q
          rw [List.map_cons]
          by_cases hc : c = a
          · subst hc
            dsimp only
            rw [if_pos rfl, List.lookup_cons, List.lookup_cons, beq_eq_false_iff_ne.2 hy]
            exact ih2
          · dsimp only
            rw [if_neg hc, List.lookup_cons, List.lookup_cons, ih2]
    · dsimp only
      rw [if_neg hax]
      rw [List.lookup_cons, beq_eq_false_iff_ne.2 (Ne.symm hax)] at h
      rw [List.lookup_cons, List.lookup_cons, ih h]
      by_cases hya : y = a
      · subst hya; simp [hax]
      · rw [beq_eq_false_iff_ne.2 hya]
theorem ms_of {bx : Bx} (h : BxOk bx) {id : Int} {m : Ms} (hm : bx.lookup id = some m) : MsOk m := (h.ms _ (lookup_mem hm)).2.2
theorem putM_mem {α : Type} {l : List (Int × α)} {x : Int} {v : α} {p : Int × α} (h : p ∈ putM l x v) : p = (x, v) ∨ p ∈ l := by
  unfold putM delM at h
  rcases List.mem_cons.1 h with h | h
  · exact .inl h
  · exact .inr (List.mem_filter.1 h).1
theorem setM_mem {α : Type} {l : List (Int × α)} {x : Int} {v : α} {p : Int × α} (h : p ∈ setM l x v) : p = (x, v) ∨ p ∈ l := by
  unfold setM at h
  obtain ⟨q, hq, rfl⟩ := List.mem_map.1 h
  split
  · exact .inl rfl
  · exact .inr hq
theorem addPart_ok {m : Ms} {i : Int} {b : Bs} (h : MsOk m) (hi : 0 ≤ i ∧ i < m.count) (hb : b.length ≤ 140) : MsOk (addPart m i b) :=
  ⟨h.pos, h.few, nodup_put h.nodup i b, fun p hp => by
    rcases putM_mem hp with rfl | hp
    · exact ⟨hi.1, hi.2, hb⟩
    · exact h.part p hp⟩
theorem part_bytes {s : Bs} {p : Pt} (h : partF s = some p) : p.bytes.length ≤ 140 := by
  obtain ⟨⟨_, _, _, hl, _, he⟩, _⟩ := partF_some h
  have : (partE p.id p.index p.count p.bytes).length = s.length := by rw [he]
  unfold partE at this
  simp only [List.length_append] at this
  omega
theorem takeF_ok {bx : Bx} (h : BxOk bx) (s : Bs) : BxOk (takeF bx s).2 := by
  unfold takeF
  cases hp : partF s with
  | none => exact h
  | some p =>
    obtain ⟨⟨h1, h2, h3, h4, h5, h6⟩, h7, h8⟩ := partF_some hp
    have hb := part_bytes hp
    dsimp only
    cases hm : bx.lookup p.id with
    | some m =>
      dsimp only
      split
      · exact h
      · rename_i hc
        have hc1 : (m.count : Int) = p.count := Classical.byContradiction fun e => hc (.inl e)
        refine ⟨by rw [setM_fst]; exact h.nodup, by unfold setM; rw [List.length_map]; exact h.few, fun q hq => ?_⟩
        rcases setM_mem hq with rfl | hq
        · exact ⟨h7, h1, addPart_ok (ms_of h hm) ⟨h8, by omega⟩ hb⟩
        · exact h.ms q hq
    | none =>
      dsimp only
      split
      · exact h
      · refine ⟨nodup_put h.nodup _ _, by rw [len_put h.nodup, hm]; simp; omega, fun q hq => ?_⟩
        rcases putM_mem hq with rfl | hq
        · refine ⟨h7, h1, ⟨by dsimp only; omega, by dsimp only; omega, by simp, fun q hq => ?_⟩⟩
          obtain rfl := List.mem_singleton.1 hq
          exact ⟨h8, by dsimp only; omega, hb⟩
        · exact h.ms q hq
theorem boxOk_nil : BxOk [] := ⟨List.nodup_nil, Nat.zero_le _, fun p h => by cases h⟩
end Go.Proofs.YtabnniabofhihaaDoor
