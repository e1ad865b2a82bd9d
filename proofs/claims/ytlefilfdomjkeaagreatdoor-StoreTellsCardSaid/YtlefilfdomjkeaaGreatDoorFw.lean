/- How Go data in memory read as Lean data: readers for numbers, bools, strings, structs and slices, which stay true while their own memory stays as it is. -/
import Derived.Test.YtlefilfdomjkeaaGreatDoorRows
import Derived.WalkKit
import Derived.WalkSpells
import Derived.WalkLawsBesides
import Derived.ProofKit
import Derived.OpenShut
import Derived.ChangeOld
import Derived.Deep.Slices
import Derived.BigFrame
namespace Go.Proofs.YtlefilfdomjkeaaGreatDoor
open Go.RowKit Go.ChangeShapes Go.WideShapes Go.Deep

theorem hid {p : Prop} (h : p) : Hid p := h

/-- All blocks but those of S are as they were. -/
structure Upd (S : Nat → Prop) (w w' : World) : Prop where
  os : w'.os = w.os
  tape : w'.tape = w.tape
  output : w'.output = w.output
  size : w.heap.size ≤ w'.heap.size
  block : ∀ k, k < w.heap.size → ¬ S k → w'.heap[k]? = w.heap[k]?

theorem Upd.refl (S : Nat → Prop) (w : World) : Upd S w w := ⟨rfl, rfl, rfl, Nat.le_refl _, fun _ _ _ => rfl⟩
theorem Upd.trans {S : Nat → Prop} {a b c : World} (h : Upd S a b) (k : Upd S b c) : Upd S a c :=
  ⟨k.os.trans h.os, k.tape.trans h.tape, k.output.trans h.output, Nat.le_trans h.size k.size, fun i hi hs => (k.block i (Nat.lt_of_lt_of_le hi h.size) hs).trans (h.block i hi hs)⟩
theorem Upd.mono {S T : Nat → Prop} {a b : World} (h : Upd S a b) (hs : ∀ k, S k → T k) : Upd T a b :=
  ⟨h.os, h.tape, h.output, h.size, fun i hi ht => h.block i hi fun hk => ht (hs i hk)⟩
theorem Upd.drew {S : Nat → Prop} {a w : World} (h : Upd S a w) : Upd S a w.drew := ⟨h.os, h.tape, h.output, h.size, h.block⟩
theorem Upd.drewN {S : Nat → Prop} {a w : World} (h : Upd S a w) (n : Nat) : Upd S a (w.drewN n) := ⟨h.os, h.tape, h.output, h.size, h.block⟩
theorem Upd.alloc {S : Nat → Prop} {a w : World} (h : Upd S a w) (o : Obj) : Upd S a (w.alloc o) :=
  h.trans ⟨rfl, rfl, rfl, by simp, fun k hk _ => Below.heap_alloc _ _ _ hk⟩
theorem Upd.setCell {S : Nat → Prop} {a w : World} (h : Upd S a w) (p : Addr) (u : Value) (hp : S p.block ∨ a.heap.size ≤ p.block) : Upd S a (w.setCell p u) :=
  ⟨h.os, h.tape, h.output, by simpa using h.size, fun k hk hs => (Below.heap_setCell _ _ _ _ (by
    intro e; subst e; rcases hp with hp | hp
    · exact hs hp
    · omega)).trans (h.block k hk hs)⟩
theorem Upd.at_ {p : Nat} {a w : World} (h : Upd (· = p) a w) (o : Nat) (u : Value) : Upd (· = p) a (w.setCell ⟨p, o, none⟩ u) := h.setCell _ u (.inl rfl)
theorem Upd.below {S : Nat → Prop} {B : Nat} {a b : World} (h : Upd S a b) (hB : B ≤ a.heap.size) (hs : ∀ k, S k → B ≤ k) : Below B a b :=
  ⟨h.os, h.tape, h.output, h.size, fun k hk => h.block k (by omega) fun hS => by have := hs k hS; omega⟩
theorem Upd.of_below {B : Nat} {a b : World} {S : Nat → Prop} (h : Below B a b) (hs : ∀ k, k < a.heap.size → ¬ S k → k < B) : Upd S a b :=
  ⟨h.os, h.tape, h.output, h.size, fun k hk hS => h.block k (hs k hk hS)⟩
theorem Upd.grown {S : Nat → Prop} {a w w' : World} {row : Option Nat} (h : Upd S a w) (hg : w.grownBy w' row) (hr : ∀ k, row = some k → S k ∨ a.heap.size ≤ k) : Upd S a w' :=
  ⟨hg.os.trans h.os, hg.tape.trans h.tape, hg.output.trans h.output, Nat.le_trans h.size hg.size, fun k hk hS => (hg.block k (Nat.lt_of_lt_of_le hk h.size) (fun e => by
    rcases hr k e.symm with h1 | h1
    · exact hS h1
    · omega)).trans (h.block k hk hS)⟩

def Obj.setAt (a : Addr) (u : Value) : Obj → Obj
  | .cells c e f => .cells (if a.spot.isSome then c else c.setIfInBounds a.off u) e f
  | o => o

theorem heap_setCell (w : World) (a : Addr) (u : Value) (k : Nat) : (w.setCell a u).heap[k]? = if a.block = k then (w.heap[k]?).map (Obj.setAt a u) else w.heap[k]? := by
  simp only [World.setCell, Array.getElem?_modify]
  split
  · rfl
  · rfl
theorem heap_setCell_same {w : World} {p : Addr} {c : Array Value} {t : TypeId} {fr : Nat × Nat} {u : Value} (hp : p.spot = none) (h : w.heap[p.block]? = some (.cells c t fr)) :
    (w.setCell p u).heap[p.block]? = some (.cells (c.setIfInBounds p.off u) t fr) := by
  simp [World.setCell, Array.getElem?_modify, h, hp]
theorem heap_setCell_other {w : World} {p : Addr} {u : Value} {k : Nat} (h : k ≠ p.block) : (w.setCell p u).heap[k]? = w.heap[k]? := Below.heap_setCell _ _ _ _ h
theorem heap_alloc_old {w : World} {o : Obj} {k : Nat} (h : k < w.heap.size) : (w.alloc o).heap[k]? = w.heap[k]? := Below.heap_alloc _ _ _ h
theorem heap_alloc_new {w : World} {o : Obj} : (w.alloc o).heap[w.heap.size]? = some o := by show (w.heap.push o)[_]? = _; simp
theorem heap_drew {w : World} {k : Nat} : w.drew.heap[k]? = w.heap[k]? := rfl
theorem heap_lt {w : World} {k : Nat} {o : Obj} (h : w.heap[k]? = some o) : k < w.heap.size := by
  rcases Nat.lt_or_ge k w.heap.size with g | g
  · exact g
  · simp [Array.getElem?_eq_none g] at h
theorem cell_of_block {w : World} {p o : Nat} {c : Array Value} {t : TypeId} {fr : Nat × Nat} (h : w.heap[p]? = some (.cells c t fr)) : w.cell? ⟨p, o, none⟩ = c[o]? := by
  simp [World.cell?, h]
theorem frozen_of_block {w : World} {p o : Nat} {c : Array Value} {t : TypeId} (h : w.heap[p]? = some (.cells c t (0, 0))) : w.frozen? ⟨p, o, none⟩ = false := by
  simp [World.frozen?, h]
theorem cell_kept {w w' : World} {a : Addr} {v : Value} (h : w.cell? a = some v) (e : w'.heap[a.block]? = w.heap[a.block]?) : w'.cell? a = some v := by
  rw [World.cell?_of_block (w := w) e]; exact h

/-- An append of which the run is known. -/
theorem wpList_append_run {P : Program} {w w' : World} {ops : Array Oper} {rest : List Oper} {o : Oper} {a : Act} {Q : Exit → Act → World → Prop} (hg : o.guard = none) (s x : Operand) (t t' : TypeId)
    (ho : o.op = .call { callee := .builtin .append, args := #[s, x], argTypes := #[t, t'] }) {v0 v1 v' : Value} (hs : a.eval s = v0) (hx : a.eval x = v1)
    (hrun : (Builtin.append_ #[t, t'] o.type #[v0, v1]).run P w = .ok v' w') (h : wpList P ops Q rest (a.put o.dst v') w') : wpList P ops Q (o :: rest) a w := by
  refine wpList_plain hg fun K hK' => ?_
  unfold Oper.wp execOp
  simp only [ho, resolve, invoke, builtin, Sem.run_bind, Sem.run_pure, Result.andThen_ok, List.map_toArray, List.map_cons, List.map_nil, hs, hx, hrun]
  exact hK' _ _ h

/-! ## Readers -/

/-- The memory of the blocks of A is in w' as it was in w. -/
def Same (A : Nat → Prop) (w w' : World) : Prop := ∀ b, A b → b < w.heap.size → w'.heap[b]? = w.heap[b]?

theorem Same.of_upd {A S : Nat → Prop} {w w' : World} (u : Upd S w w') (h : ∀ b, A b → ¬ S b) : Same A w w' := fun b hb hl => u.block b hl (h b hb)
theorem Same.of_below {A : Nat → Prop} {B : Nat} {w w' : World} (u : Below B w w') (h : ∀ b, A b → b < B) : Same A w w' := fun b hb _ => u.block b (h b hb)

/-- A reader: how many cells a datum takes, and when cells read as it. -/
structure Knd (α : Type) where
  size : Nat
  rep : (Nat → Prop) → World → List Value → α → Prop
  len : ∀ {A w cs x}, rep A w cs x → cs.length = size
  keep : ∀ {A w w' cs x}, rep A w cs x → Same A w w' → rep A w' cs x
  mono : ∀ {A A' : Nat → Prop} {w cs x}, rep A w cs x → (∀ b, A b → A' b) → rep A' w cs x

def kInt (k : IntKind) : Knd Int where
  size := 1
  rep _ _ cs x := cs = [.int k x] ∧ (Lit.int k x).wf = true
  len h := by rw [h.1]; rfl
  keep h _ := h
  mono h _ := h

def kBool : Knd Bool where
  size := 1
  rep _ _ cs x := cs = [.bool x]
  len h := by rw [h]; rfl
  keep h _ := h
  mono h _ := h

def kStr : Knd ByteArray where
  size := 1
  rep _ _ cs x := cs = [.string x] ∧ x.size ≤ maxLen
  len h := by rw [h.1]; rfl
  keep h _ := h
  mono h _ := h

def kPair {α β : Type} (K : Knd α) (L : Knd β) : Knd (α × β) where
  size := K.size + L.size
  rep A w cs x := ∃ c d, cs = c ++ d ∧ K.rep A w c x.1 ∧ L.rep A w d x.2
  len h := by obtain ⟨c, d, rfl, h1, h2⟩ := h; rw [List.length_append, K.len h1, L.len h2]
  keep h s := by obtain ⟨c, d, e, h1, h2⟩ := h; exact ⟨c, d, e, K.keep h1 s, L.keep h2 s⟩
  mono h s := by obtain ⟨c, d, e, h1, h2⟩ := h; exact ⟨c, d, e, K.mono h1 s, L.mono h2 s⟩

/-- The same data under another name. -/
def kMap {α β : Type} (K : Knd α) (f : β → α) : Knd β where
  size := K.size
  rep A w cs x := K.rep A w cs (f x)
  len h := K.len h
  keep h s := K.keep h s
  mono h s := K.mono h s

/-- The cells of block b from o on are cs. -/
def CellsAt (w : World) (b o : Nat) (cs : List Value) : Prop := ∀ j, j < cs.length → w.cell? ⟨b, o + j, none⟩ = cs[j]?

theorem CellsAt.keep {w w' : World} {b o : Nat} {cs : List Value} (h : CellsAt w b o cs) (e : b < w.heap.size → w'.heap[b]? = w.heap[b]?) : CellsAt w' b o cs := by
  intro j hj
  have hj' := h j hj
  have hs : cs[j]? = some cs[j] := List.getElem?_eq_getElem hj
  rw [hs] at hj' ⊢
  exact cell_kept hj' (e (World.block_lt_of_cell? _ _ hj'))

/-- The elements of a slice. -/
def Elems {α : Type} (K : Knd α) (A : Nat → Prop) (w : World) (b o : Nat) (l : List α) : Prop :=
  ∀ i (h : i < l.length), ∃ cs, K.rep A w cs l[i] ∧ CellsAt w b (o + i * K.size) cs

theorem Elems.keep {α : Type} {K : Knd α} {A : Nat → Prop} {w w' : World} {b o : Nat} {l : List α} (h : Elems K A w b o l) (s : Same A w w') (hb : A b) : Elems K A w' b o l := fun i hi =>
  let ⟨cs, h1, h2⟩ := h i hi
  ⟨cs, K.keep h1 s, h2.keep fun hl => s b hb hl⟩
theorem Elems.mono {α : Type} {K : Knd α} {A A' : Nat → Prop} {w : World} {b o : Nat} {l : List α} (h : Elems K A w b o l) (s : ∀ b, A b → A' b) : Elems K A' w b o l := fun i hi =>
  let ⟨cs, h1, h2⟩ := h i hi
  ⟨cs, K.mono h1 s, h2⟩

/-- A slice: empty, nil or not; or a row of elements. -/
def kSlice {α : Type} (K : Knd α) : Knd (List α) where
  size := 1
  rep A w cs l := (∃ a cap, cs = [.slice a 0 cap] ∧ cap ≤ maxLen ∧ l = []) ∨
    ∃ b o cap, cs = [.slice (some ⟨b, o, none⟩) l.length cap] ∧ l.length ≤ cap ∧ cap ≤ maxLen ∧ A b ∧ Elems K A w b o l
  len h := by rcases h with ⟨_, _, rfl, _⟩ | ⟨_, _, _, rfl, _⟩ <;> rfl
  keep h s := by
    rcases h with h | ⟨b, o, cap, h1, h2, h3, h4, h5⟩
    · exact .inl h
    · exact .inr ⟨b, o, cap, h1, h2, h3, h4, h5.keep s h4⟩
  mono h s := by
    rcases h with h | ⟨b, o, cap, h1, h2, h3, h4, h5⟩
    · exact .inl h
    · exact .inr ⟨b, o, cap, h1, h2, h3, s b h4, h5.mono s⟩

/-- A slice, its base left open where it is empty. -/
theorem slice_open {α : Type} {K : Knd α} {A : Nat → Prop} {w : World} {v : Value} {l : List α} (h : (kSlice K).rep A w [v] l) :
    ∃ a cap, v = .slice a l.length cap ∧ l.length ≤ cap ∧ cap ≤ maxLen ∧ (0 < l.length → ∃ b o, a = some ⟨b, o, none⟩ ∧ A b ∧ Elems K A w b o l) := by
  rcases h with ⟨a, cap, hv, h1, rfl⟩ | ⟨b, o, cap, hv, h1, h2, h3, h4⟩
  · injection hv with hv _
    exact ⟨a, cap, hv, Nat.zero_le _, h1, fun h => absurd h (Nat.lt_irrefl 0)⟩
  · injection hv with hv _
    exact ⟨_, cap, hv, h1, h2, fun _ => ⟨b, o, rfl, h3, h4⟩⟩

/-- The one cell of element i, field j. -/
theorem Elems.cell {α : Type} {K : Knd α} {A : Nat → Prop} {w : World} {b o : Nat} {l : List α} (h : Elems K A w b o l) {i : Nat} (hi : i < l.length) :
    ∃ cs, K.rep A w cs l[i] ∧ ∀ j, j < K.size → w.cell? ⟨b, o + i * K.size + j, none⟩ = cs[j]? := by
  obtain ⟨cs, h1, h2⟩ := h i hi
  exact ⟨cs, h1, fun j hj => h2 j (by rw [K.len h1]; exact hj)⟩

/-! ## What a reading of the arguments gives -/
section
variable {H : Type} {enc : TypeId × Value → H} {P : Program} {w : World} {spare : Nat → Bool} {held : Bool}

/-- The reader K reads what the model reads at type t. -/
def Reads (P : Program) (t : TypeId) {α : Type} (K : Knd α) : Prop :=
  P.cellsOf t = K.size ∧ ∀ (H : Type) (enc : TypeId × Value → H) (w : World) (spare : Nat → Bool) (held : Bool) (n : Nat) (cs : List Value) (y : DataW H × List MemPlace),
    DataW.trod enc P w 0 spare held n t cs = some y → ∃ x, K.rep (· < w.heap.size) w cs x

theorem reads_int {t : TypeId} {k : IntKind} (ht : P.underlying t = some (.int k)) (hc : P.cellsOf t = 1) : Reads P t (kInt k) :=
  ⟨hc, fun H enc w spare held n cs y h => by
    obtain ⟨x, h1, _, h3⟩ := DataW.trod_int ht h
    exact ⟨x, h1, h3⟩⟩
theorem reads_bool {t : TypeId} (ht : P.underlying t = some .bool) (hc : P.cellsOf t = 1) : Reads P t kBool :=
  ⟨hc, fun H enc w spare held n cs y h => by
    obtain ⟨x, h1, _⟩ := DataW.trod_bool ht h
    exact ⟨x, h1⟩⟩
theorem reads_str {t : TypeId} (ht : P.underlying t = some .string) (hc : P.cellsOf t = 1) : Reads P t kStr :=
  ⟨hc, fun H enc w spare held n cs y h => by
    obtain ⟨x, h1, _, h3⟩ := DataW.trod_string ht h
    exact ⟨x, h1, h3⟩⟩

theorem cells?_cellsAt {w : World} {a : Addr} {n : Nat} {cs : List Value} (h : w.cells? 0 a n = some cs) : cs.length = n ∧ ∀ j, j < n → w.cell? (a.add j) = cs[j]? := by
  obtain ⟨_, h1, h2⟩ := World.cells?_some h
  exact ⟨h1, h2⟩

theorem reads_slice {t e : TypeId} {α : Type} {K : Knd α} (ht : P.underlying t = some (.slice e)) (hc : P.cellsOf t = 1) (hK : Reads P e K) (hpos : 0 < K.size) : Reads P t (kSlice K) :=
  ⟨hc, fun H enc w spare held n cs y h => by
    obtain ⟨hsz, hr⟩ := hK
    rcases open_slice ht h with ⟨h0, _⟩ | ⟨a, len, cap, m, n, D, Pl, hcs, _, hl, hm, hmm, _, hi⟩
    · exact ⟨[], .inl ⟨none, 0, h0, Nat.zero_le _, rfl⟩⟩
    · have hml : len ≤ m := by rw [hmm]; split <;> omega
      by_cases hne : len = 0
      · subst hne
        exact ⟨[], .inl ⟨some a, cap, hcs, hm, rfl⟩⟩
      · have hel : ∀ i, i < len → ∃ x cs', K.rep (· < w.heap.size) w cs' x ∧ ∀ j, j < K.size → w.cell? (a.add (i * K.size + j)) = cs'[j]? := by
          intro i hil
          obtain ⟨cs', h1, h2⟩ := hi i (by omega)
          rw [hsz] at h1
          obtain ⟨x, hx⟩ := hr _ _ _ _ _ _ _ _ h2
          obtain ⟨_, g2⟩ := cells?_cellsAt h1
          exact ⟨x, cs', hx, fun j hj => by rw [← Go.Deep.add_add]; exact g2 j hj⟩
        obtain ⟨x0, cs0, r0, c0⟩ := hel 0 (by omega)
        have hl0 : 0 < cs0.length := by rw [K.len r0]; exact hpos
        have hc0 := c0 0 hpos
        rw [List.getElem?_eq_getElem hl0] at hc0
        have hsp := World.cell?_spot hc0
        have hbl := World.block_lt_of_cell? _ _ hc0
        obtain ⟨b, o, sp⟩ := a
        have hsp : sp = none := by simpa [Addr.add] using hsp
        subst hsp
        have hb : b < w.heap.size := by simpa [Addr.add] using hbl
        have hch : ∃ f : Nat → α, ∀ i, i < len → ∃ cs', K.rep (· < w.heap.size) w cs' (f i) ∧ ∀ j, j < K.size → w.cell? (Addr.add ⟨b, o, none⟩ (i * K.size + j)) = cs'[j]? :=
          ⟨fun i => if hil : i < len then (hel i hil).choose else x0, fun i hil => by
            show ∃ cs', K.rep _ w cs' (if hil : i < len then (hel i hil).choose else x0) ∧ _
            rw [dif_pos hil]; exact (hel i hil).choose_spec⟩
        obtain ⟨f, hf⟩ := hch
        refine ⟨(List.range len).map f, .inr ⟨b, o, cap, by simpa using hcs, by simpa using hl, hm, hb, fun i hi' => ?_⟩⟩
        have hil : i < len := by simpa using hi'
        obtain ⟨cs', h1, h2⟩ := hf i hil
        refine ⟨cs', by simpa using h1, fun j hj => ?_⟩
        rw [← h2 j (by rw [← K.len h1]; exact hj)]
        simp only [Addr.add, Nat.add_assoc]
        split
        · rename_i h0
          rw [show i * K.size + j = 0 by simpa using h0]; rfl
        · rfl⟩

/-- The fields of a struct from field i on, at offset 'off'. -/
def TailReads (P : Program) (fs : Array Field) (_i off total : Nat) {α : Type} (K : Knd α) : Prop :=
  off + K.size = total ∧ ∀ (H : Type) (enc : TypeId × Value → H) (w : World) (spare : Nat → Bool) (held : Bool) (n : Nat) (cs : List Value) (xs : List (DataW H × List MemPlace)),
    cs.length = total → xs.length = fs.size → (∀ (j : Nat) (f : Field), fs[j]? = some f → DataW.trod enc P w 0 spare held n f.type ((cs.drop f.offset).take (P.cellsOf f.type)) = xs[j]?) →
    ∃ x, K.rep (· < w.heap.size) w (cs.drop off) x

theorem tail_last {fs : Array Field} {i off total : Nat} {α : Type} {K : Knd α} {f : Field} (hf : fs[i]? = some f) (ho : f.offset = off) (hK : Reads P f.type K) (ht : off + K.size = total) : TailReads P fs i off total K :=
  ⟨ht, fun H enc w spare held n cs xs hl hx h => by
    have h1 := h i f hf
    have hi : i < xs.length := by
      rw [hx]
      rcases Nat.lt_or_ge i fs.size with g | g
      · exact g
      · rw [Array.getElem?_eq_none g] at hf; cases hf
    rw [List.getElem?_eq_getElem hi, ho, hK.1, List.take_of_length_le (by simp; omega)] at h1
    exact hK.2 _ _ _ _ _ _ _ _ h1⟩

theorem tail_cons {fs : Array Field} {i off total : Nat} {α β : Type} {K : Knd α} {L : Knd β} {f : Field} (hf : fs[i]? = some f) (ho : f.offset = off) (hK : Reads P f.type K)
    (hL : TailReads P fs (i + 1) (off + K.size) total L) : TailReads P fs i off total (kPair K L) :=
  ⟨by show off + (K.size + L.size) = total; rw [← hL.1]; omega, fun H enc w spare held n cs xs hl hx h => by
    have h1 := h i f hf
    have hi : i < xs.length := by
      rw [hx]
      rcases Nat.lt_or_ge i fs.size with g | g
      · exact g
      · rw [Array.getElem?_eq_none g] at hf; cases hf
    rw [List.getElem?_eq_getElem hi, ho, hK.1] at h1
    obtain ⟨x, hx1⟩ := hK.2 _ _ _ _ _ _ _ _ h1
    obtain ⟨y, hy1⟩ := hL.2 H enc w spare held n cs xs hl hx h
    refine ⟨(x, y), _, _, ?_, hx1, hy1⟩
    rw [← List.drop_drop, List.take_append_drop]⟩

theorem reads_struct {t : TypeId} {fs : Array Field} {α : Type} {K : Knd α} (ht : P.underlying t = some (.struct fs)) (h : TailReads P fs 0 0 (P.cellsOf t) K) : Reads P t K :=
  ⟨by have := h.1; omega, fun H enc w spare held n cs y hy => by
    obtain ⟨xs, n', _, _, hl, hxl, hf⟩ := DataW.trod_struct ht hy
    have := h.2 H enc w spare held n' cs xs hl hxl hf
    rwa [List.drop_zero] at this⟩

theorem reads_map {t : TypeId} {α β : Type} {K : Knd α} {f : β → α} (g : α → β) (hg : ∀ x, f (g x) = x) (h : Reads P t K) : Reads P t (kMap K f) :=
  ⟨h.1, fun H enc w spare held n cs y hy => by
    obtain ⟨x, hx⟩ := h.2 H enc w spare held n cs y hy
    exact ⟨g x, by show K.rep _ _ _ (f (g x)); rw [hg]; exact hx⟩⟩

/-- A parameter reads as a datum. -/
theorem Reads.arg {H : Type} {enc : TypeId × Value → H} {w : World} {spare : Nat → Bool} {held : Bool} {t : TypeId} {α : Type} {K : Knd α} (hK : Reads P t K) {v : Value} {d : DataW H} {p : List MemPlace}
    (h : DataW.Trod enc P w 0 spare held t v d p) : ∃ x, K.rep (· < w.heap.size) w v.cells.toList x := by
  obtain ⟨n, hn⟩ := h
  exact hK.2 _ _ _ _ _ _ _ _ hn

/-- The arguments read as they did. -/
theorem law_args {H : Type} {enc : TypeId × Value → H} (hl : laidOutB P = true) {W W' : World} (hb : Below W.heap.size W W') : ∀ (ts : List TypeId) (vs : List Value) (ds : List (DataW H)) (ps : List MemPlace),
    (∀ t ∈ ts, P.readableRec t = true ∧ t < P.types.size) → DataW.TrodAll enc P W 0 (fun _ => true) true ts vs ds ps → DataW.TrodAll enc P W' 0 (fun b => decide (b < W.heap.size)) true ts vs ds ps
  | [], vs, ds, ps, _, h => by
    obtain ⟨rfl, rfl, rfl⟩ := trodAll_nil h
    exact trodAll_mk0
  | t :: ts, vs, ds, ps, hok, h => by
    obtain ⟨v, vs', d, ds', p, q, rfl, rfl, rfl, h1, h2⟩ := trodAll_cons h
    have hlt : ∀ x ∈ p, x.block < W.heap.size := by obtain ⟨m, hm⟩ := h1; exact DataW.trod_lt m _ _ _ hm
    exact trodAll_cons_mk (Below.trod hl (hok t (by simp)).1 (hok t (by simp)).2 h1 hb hlt) (law_args hl hb ts vs' ds' q (fun u hu => hok u (by simp [hu])) h2)
end
end Go.Proofs.YtlefilfdomjkeaaGreatDoor
