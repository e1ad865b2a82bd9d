/- A plain model of layer 3: pages, what an opened store has, how it writes. No program in sight. -/
import Derived.Test.YtlefilfdomjkeaaGreatDoorFlModel
import Derived.Test.YtlefilfdomjkeaaGreatDoorWrModel
namespace Go.Proofs.YtlefilfdomjkeaaGreatDoor
open Go

/-- What a page says. -/
structure Pg where
  kind : Nat
  pos : Nat
  number : Nat
  diff : Nat
  offset : Nat
  rest : Nat
  bytes : List UInt8
def hdrP (p : Pg) : List UInt8 := numE p.kind ++ numE p.pos ++ numE p.number ++ numE p.diff ++ numE p.offset ++ numE p.rest
def roomP (p : Pg) : Int := if p.kind = 1 then 0 else min (p.rest : Int) (64 - ((hdrP p).length : Int))
def txtP (p : Pg) : List UInt8 := hdrP p ++ p.bytes
def FormP (p : Pg) : Prop := (p.kind = 0 ∨ p.kind = 1 ∧ p.offset = 0 ∧ p.rest = 0) ∧ p.diff ≤ p.number ∧ (p.bytes.length : Int) = roomP p
instance (p : Pg) : Decidable (FormP p) := by unfold FormP; exact inferInstance
def rdPg (s : List UInt8) : Pg :=
  let a := numF ⟨s, false⟩
  let b := numF a.2
  let c := numF b.2
  let d := numF c.2
  let e := numF d.2
  let f := numF e.2
  ⟨a.1.toNat, b.1.toNat, c.1.toNat, d.1.toNat, e.1.toNat, f.1.toNat, f.2.rest⟩
def rdOk (s : List UInt8) : Prop := txtP (rdPg s) = s ∧ FormP (rdPg s)
instance (s : List UInt8) : Decidable (rdOk s) := by unfold rdOk; exact inferInstance
/-- A page that the store writes. -/
structure Pg.Good (p : Pg) : Prop where
  form : FormP p
  pos : p.pos ≤ 1000000
  number : p.number ≤ 1000000
  offset : p.offset ≤ 1000000
  rest : p.rest ≤ 1000000

/-! ## Pages are read back -/
theorem num_i64 {n : Nat} (h : n ≤ 1000000) : I64 (n : Int) := by unfold I64; omega
theorem numN_mk {n : Nat} (h : n ≤ 1000000) (t : List UInt8) (b : Bool) : numF ⟨numE n ++ t, b⟩ = ((n : Int), ⟨t, b⟩) := numF_mk (num_i64 h) (by omega) t b
theorem Pg.Good.kind {p : Pg} (h : p.Good) : p.kind ≤ 1 := by rcases h.form.1 with h | h <;> omega
theorem Pg.Good.diff {p : Pg} (h : p.Good) : p.diff ≤ 1000000 := Nat.le_trans h.form.2.1 h.number
theorem rd_nums {p : Pg} (h1 : p.kind ≤ 1000000) (h2 : p.pos ≤ 1000000) (h3 : p.number ≤ 1000000) (h4 : p.diff ≤ 1000000) (h5 : p.offset ≤ 1000000) (h6 : p.rest ≤ 1000000) (t : List UInt8) :
    rdPg (hdrP p ++ t) = { p with bytes := t } := by
  unfold rdPg hdrP
  simp only [List.append_assoc]
  rw [numN_mk h1, numN_mk h2, numN_mk h3, numN_mk h4, numN_mk h5, numN_mk h6]
  simp
theorem rd_good {p : Pg} (h : p.Good) : rdPg (txtP p) = p := by
  unfold txtP
  rw [rd_nums (Nat.le_trans h.kind (by decide)) h.pos h.number h.diff h.offset h.rest]
theorem ok_good {p : Pg} (h : p.Good) : rdOk (txtP p) := by
  unfold rdOk
  rw [rd_good h]
  exact ⟨rfl, h.form⟩
theorem numF_nat (r : RS) : ((numF r).1.toNat : Int) = (numF r).1 := by
  unfold numF
  rcases numberF_cases 59 0 r with ⟨n, t, _, h2, _, _, h0⟩ | ⟨_, h2⟩
  · rw [h2]; dsimp only; omega
  · rw [h2]; rfl
theorem numN_len {n : Nat} : 0 < (numE n).length := by
  unfold numE; rw [if_neg (by omega)]; unfold intE; simp
/-- Two numbers that begin the same text are equal. -/
theorem numE_head {m n : Nat} (hm : m ≤ 1000000) (hn : I64 (n : Int)) {s t : List UInt8} (h : numE n ++ s = numE m ++ t) : n = m ∧ s = t := by
  have h1 := numN_mk hm t false
  have h2 := numF_mk hn (by omega) s false
  rw [h] at h2
  rw [h2] at h1
  injection h1 with h3 h4
  injection h4 with h5
  exact ⟨by omega, h5⟩
theorem numF_i64n (r : RS) : I64 (((numF r).1.toNat : Nat) : Int) := by
  rw [numF_nat]
  exact numberF_i64 _ _ _
theorem rdPg_i64 (s : List UInt8) : I64 ((rdPg s).kind : Int) ∧ I64 ((rdPg s).pos : Int) ∧ I64 ((rdPg s).number : Int) ∧ I64 ((rdPg s).diff : Int) ∧ I64 ((rdPg s).offset : Int) ∧ I64 ((rdPg s).rest : Int) := by
  unfold rdPg
  dsimp only
  exact ⟨numF_i64n _, numF_i64n _, numF_i64n _, numF_i64n _, numF_i64n _, numF_i64n _⟩
/-- A text that is read, and with which the text of a good page begins or goes on, is it. -/
theorem rd_prefix {p : Pg} (hp : p.Good) {s : List UInt8} (hs : s <+: txtP p) (hr : rdOk s) : s = txtP p := by
  obtain ⟨u, hu⟩ := hs
  obtain ⟨h1, h2⟩ := hr
  obtain ⟨q, hq⟩ : ∃ q, rdPg s = q := ⟨_, rfl⟩
  have hn := rdPg_i64 s
  rw [hq] at hn
  obtain ⟨n1, n2, n3, n4, n5, n6⟩ := hn
  rw [hq] at h1 h2
  have e : hdrP q ++ (q.bytes ++ u) = hdrP p ++ p.bytes := by
    rw [← List.append_assoc, show hdrP q ++ q.bytes = s from h1, hu]; rfl
  unfold hdrP at e
  simp only [List.append_assoc] at e
  obtain ⟨e1, e⟩ := numE_head (Nat.le_trans hp.kind (by decide)) n1 e
  obtain ⟨e2, e⟩ := numE_head hp.pos n2 e
  obtain ⟨e3, e⟩ := numE_head hp.number n3 e
  obtain ⟨e4, e⟩ := numE_head hp.diff n4 e
  obtain ⟨e5, e⟩ := numE_head hp.offset n5 e
  obtain ⟨e6, e⟩ := numE_head hp.rest n6 e
  have hh : hdrP q = hdrP p := by unfold hdrP; rw [e1, e2, e3, e4, e5, e6]
  have hrm : roomP q = roomP p := by unfold roomP; rw [e1, e6, hh]
  have hl : q.bytes.length = p.bytes.length := by
    have a := h2.2.2; have b := hp.form.2.2; rw [hrm] at a; omega
  have hu0 : u = [] := by
    have := congrArg List.length e
    rw [List.length_append, hl] at this
    exact List.length_eq_zero_iff.1 (by omega)
  rw [← hu, hu0, List.append_nil]

/-! ## What lies on the flash -/
def pageAt (F : Fl) (i : Nat) : Option ByteArray := (F.blk (i / F.np)).page (i % F.np)
def validAt (F : Fl) (i : Nat) : Option Pg :=
  match pageAt F i with
  | none => none
  | some s => if rdOk s.data.toList ∧ (rdPg s.data.toList).pos % (F.nb * F.np) = i then some (rdPg s.data.toList) else none
def vals (F : Fl) : List Pg := (List.range (F.nb * F.np)).filterMap (validAt F)
def insP (p : Pg) : List Pg → List Pg
  | [] => [p]
  | q :: l => if p.pos < q.pos then p :: q :: l else q :: insP p l
def srtP (l : List Pg) : List Pg := l.foldl (fun acc p => insP p acc) []
def pagesP (F : Fl) : List Pg := srtP (vals F)

/-! ## Records -/
structure Cs where
  number : Int
  at_ : Nat
  text : List UInt8
  recs : List (List UInt8)
  ats : List Nat
def finC (first : Nat) (c : Cs) (p : Pg) : Cs :=
  if c.text.length = p.offset + p.rest then
    if c.number = ((first + c.recs.length : Nat) : Int) then ⟨-1, c.at_, c.text, c.recs ++ [c.text], c.ats ++ [c.at_]⟩ else { c with number := -1 }
  else c
def stepC (first : Nat) (c : Cs) (p : Pg) : Cs :=
  if p.kind = 0 ∧ p.offset = 0 then finC first { c with number := p.number, at_ := p.pos, text := p.bytes } p
  else if p.kind = 0 ∧ (p.number : Int) = c.number ∧ p.offset = c.text.length then finC first { c with text := c.text ++ p.bytes } p
  else c
def collP (first : Nat) (l : List Pg) : Cs := l.foldl (stepC first) ⟨-1, 0, [], [], []⟩

/-! ## A store -/
structure St where
  first : Nat
  next : Nat
  recs : List (List UInt8)
  ats : List Nat
def St.len (S : St) : Nat := S.first + S.recs.length
def emptyP (F : Fl) (q : Nat) : Bool := ((F.blk (q / F.np % F.nb)).page (q % F.np)).isNone
def seekUp (F : Fl) : Nat → Nat → Nat
  | 0, q => q
  | n + 1, q => if q % F.np ≠ 0 ∧ emptyP F q = false then seekUp F n (q + 1) else q
def seekDn (F : Fl) (q : Nat) : Nat → Nat → Nat
  | 0, s => s
  | n + 1, s => if q < s ∧ emptyP F (s - 1) = true then seekDn F q n (s - 1) else s
def seekP (F : Fl) (q : Nat) : Nat :=
  if seekUp F F.np q % F.np = 0 ∧ emptyP F (seekUp F F.np q + F.np - 1) = true then seekDn F (seekUp F F.np q) F.np (seekUp F F.np q + F.np - 1) else seekUp F F.np q
def newestP (l : List Pg) : Option Pg := l.getLast?
def firstP (l : List Pg) : Nat := match newestP l with | some p => p.number - p.diff | none => 0
def fromP (l : List Pg) : Nat := match newestP l with | some p => p.pos + 1 | none => 0
def openP (F : Fl) : St := ⟨firstP (pagesP F), seekP F (fromP (pagesP F)), (collP (firstP (pagesP F)) (pagesP F)).recs, (collP (firstP (pagesP F)) (pagesP F)).ats⟩
def St.limit (S : St) : Nat := match S.ats with | [] => S.next | a :: _ => a
def fitsP (F : Fl) (S : St) (q : Nat) : Bool := decide ((q / F.np + 1) * F.np ≤ S.limit + F.nb * F.np)
/-- A page is written at the next position. -/
def progP (F : Fl) (S : St) (s : List UInt8) : Fl × St × Int :=
  if (F.program (S.next / F.np % F.nb : Nat) (S.next % F.np : Nat) ⟨s.toArray⟩).2 = 0 then ((F.program (S.next / F.np % F.nb : Nat) (S.next % F.np : Nat) ⟨s.toArray⟩).1, { S with next := S.next + 1 }, 0)
  else ((F.program (S.next / F.np % F.nb : Nat) (S.next % F.np : Nat) ⟨s.toArray⟩).1, S, (F.program (S.next / F.np % F.nb : Nat) (S.next % F.np : Nat) ⟨s.toArray⟩).2)
def writeP (F : Fl) (S : St) (s : List UInt8) : Fl × St × Int :=
  if S.next % F.np = 0 ∧ emptyP F (S.next + F.np - 1) = false then
    if (F.erase (S.next / F.np % F.nb : Nat)).2 = 0 then progP (F.erase (S.next / F.np % F.nb : Nat)).1 S s
    else ((F.erase (S.next / F.np % F.nb : Nat)).1, S, (F.erase (S.next / F.np % F.nb : Nat)).2)
  else progP F S s
def writesP (F : Fl) (S : St) : List (List UInt8) → Fl × St × Int
  | [] => (F, S, 0)
  | s :: l => if (writeP F S s).2.2 = 0 then writesP (writeP F S s).1 (writeP F S s).2.1 l else writeP F S s
/-- The i-th piece of a record, from a byte on. -/
def headP (S : St) (r : List UInt8) (i from_ : Nat) : Pg := ⟨0, S.next + i, S.len, S.recs.length, from_, r.length - from_, []⟩
def pieceP (S : St) (r : List UInt8) (i from_ : Nat) : Pg := { headP S r i from_ with bytes := (r.drop from_).take (roomP (headP S r i from_)).toNat }
def piecesP (S : St) (r : List UInt8) : Nat → Nat → Nat → List Pg
  | 0, _, _ => []
  | n + 1, i, from_ => if from_ < r.length ∨ i = 0 then pieceP S r i from_ :: piecesP S r n (i + 1) (from_ + (pieceP S r i from_).bytes.length) else []
def recP (S : St) (r : List UInt8) : List Pg := piecesP S r (r.length + 1) 0 0
def appendP (F : Fl) (S : St) (r : List UInt8) : Fl × St × Int :=
  if 4000 < r.length then (F, S, 3)
  else if fitsP F S (S.next + (recP S r).length - 1 + F.np) = false then (F, S, 6)
  else if (writesP F S ((recP S r).map txtP)).2.2 = 0 then ((writesP F S ((recP S r).map txtP)).1, { (writesP F S ((recP S r).map txtP)).2.1 with recs := S.recs ++ [r], ats := S.ats ++ [S.next] }, 0)
  else writesP F S ((recP S r).map txtP)
def dropPg (S : St) (n : Nat) : Pg := ⟨1, S.next, S.len, S.recs.length - n, 0, 0, []⟩
def dropP (F : Fl) (S : St) (n : Int) : Fl × St × Int :=
  if n < 0 ∨ (S.recs.length : Int) < n then (F, S, 1)
  else if n = 0 then (F, S, 0)
  else if fitsP F S S.next = false then (F, S, 6)
  else if (writeP F S (txtP (dropPg S n.toNat))).2.2 = 0 then ((writeP F S (txtP (dropPg S n.toNat))).1, ⟨S.first + n.toNat, (writeP F S (txtP (dropPg S n.toNat))).2.1.next, S.recs.drop n.toNat, S.ats.drop n.toNat⟩, 0)
  else ((writeP F S (txtP (dropPg S n.toNat))).1, S, (writeP F S (txtP (dropPg S n.toNat))).2.2)
end Go.Proofs.YtlefilfdomjkeaaGreatDoor
