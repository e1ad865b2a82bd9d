/- Encodings of lists. -/
import Derived.Test.YtlefilfdomjkeaaGreatDoorWrBase
namespace Go.Proofs.YtlefilfdomjkeaaGreatDoor
open Go.RowKit Go.Deep

def kStrs : Knd (List (List UInt8)) := kSlice (kMap kStr fun l => ⟨l.toArray⟩)
theorem reads_strs : Reads Tryz.prog 50 kStrs :=
  reads_slice Tryz.underlying50 (by kernel_rfl) (reads_map (fun x => x.data.toList) (fun _ => rfl) (reads_str Tryz.underlying9 (by kernel_rfl))) (by decide)
theorem str_cells {A : Nat → Prop} {w : World} {b o : Nat} {l : List (List UInt8)} (h : Elems (kMap kStr fun l => ⟨l.toArray⟩) A w b o l) {j : Nat} (hk : j < l.length) :
    w.cell? ⟨b, o + j, none⟩ = some (.string ⟨l[j].toArray⟩) := by
  obtain ⟨cs, h1, h2⟩ := h.cell hk
  obtain ⟨rfl, _⟩ := h1
  have := h2 0 (Nat.lt_succ_self 0)
  rw [show (kMap kStr fun l : List UInt8 => ⟨l.toArray⟩).size = 1 from rfl, Nat.mul_one] at this
  exact this
theorem rep_keep {α : Type} {K : Knd α} {v : List Value} {l : α} {w w' : World} (h : K.rep (· < w.heap.size) w v l) (u : Upd (fun _ => False) w w') : K.rep (· < w'.heap.size) w' v l :=
  K.mono (K.keep h (Same.of_upd u fun _ _ => id)) fun _ hx => Nat.lt_of_lt_of_le hx u.size
theorem rep_keep_ne {α : Type} {K : Knd α} {v : List Value} {l : α} {w w' : World} {S : Nat → Prop} {A : Nat → Prop} (h : K.rep A w v l) (u : Upd S w w') (hS : ∀ b, A b → ¬ S b) : K.rep A w' v l :=
  K.keep h (Same.of_upd u hS)

/-- What has been encoded of a list. -/
def preE {α : Type} (f : α → List UInt8) (l : List α) (k : Nat) : List UInt8 := Lib.itoa l.length ++ 91 :: ((l.take k).map f).flatten
theorem preE_zero {α : Type} (f : α → List UInt8) (l : List α) : preE f l 0 = Lib.itoa l.length ++ [91] := by simp [preE]
theorem preE_succ {α : Type} (f : α → List UInt8) (l : List α) {k : Nat} (hk : k < l.length) : preE f l (k + 1) = preE f l k ++ f l[k] := by
  unfold preE
  rw [List.take_succ_eq_append_getElem hk, List.map_append, List.flatten_append, List.map_singleton, List.flatten_singleton]
  simp only [List.append_assoc, List.cons_append]
theorem preE_last {α : Type} (f : α → List UInt8) (l : List α) : preE f l l.length ++ [93] = listE f l := by
  unfold preE listE
  rw [List.take_of_length_le (Nat.le_refl _)]
  simp
theorem preE_len {α : Type} (f : α → List UInt8) (l : List α) (k : Nat) : (preE f l k).length ≤ (listE f l).length := by
  have h : (l.map f).flatten = ((l.take k).map f).flatten ++ ((l.drop k).map f).flatten := by
    rw [← List.flatten_append, ← List.map_append, List.take_append_drop]
  unfold preE listE
  rw [h]
  simp <;> omega
theorem elem_len {α : Type} (f : α → List UInt8) (l : List α) {k : Nat} (hk : k < l.length) : (preE f l k).length + (f l[k]).length ≤ (listE f l).length := by
  have := preE_len f l (k + 1)
  rw [preE_succ f l hk, List.length_append] at this
  exact this

/-- A builder stays one while new blocks are laid. -/
theorem builder_keep {T e : TypeId} {B b : Nat} {bs : List Value} {w w' : World} (h : Lib.IsBuilder T e B b bs w) (u : Upd (fun _ => False) w w') : Lib.IsBuilder T e B b bs w' := by
  have aux : ∀ p, Lib.BuilderAt T e B b p bs w → Lib.BuilderAt T e B b p bs w' := fun p ⟨hB, v, hb, ho, hne⟩ => ⟨hB, v, (u.block b (heap_lt hb) id).trans hb, ownsRow_upd ho u (fun _ _ => id), hne⟩
  exact h.elim (fun h => .inl (aux _ h)) (fun h => .inr (aux _ h))

end Go.Proofs.YtlefilfdomjkeaaGreatDoor
