/- Readers: lists. -/
import Derived.Test.YtlefilfdomjkeaaGreatDoorWrC2
namespace Go.Proofs.YtlefilfdomjkeaaGreatDoor
open Go.RowKit Go.Deep

theorem elemI : ElemTy Tryz.prog 51 3 1 8 := .mk' Tryz.underlying51 (z := .int .i64 0) (by kernel_rfl) (by rfl) (by decide)
theorem elemS : ElemTy Tryz.prog 50 9 1 16 := .mk' Tryz.underlying50 (z := .string ⟨#[]⟩) (by kernel_rfl) (by rfl) (by decide)
theorem owns_set {P : Nat → Prop} {w w' : World} {base : Nat} {e : TypeId} {v : Value} {n : Nat} {xs : List Value} (h : w.ownsRow base e 1 v n xs) (u : Upd P w w') (hP : ∀ k, P k → k < base) : w'.ownsRow base e 1 v n xs :=
  ownsRow_upd h u fun g hg hp => by have := (h.lt g hg).1; have := hP g hp; omega
theorem textF_vok (r : RS) (h : r.rest.length ≤ 10000000) : (textF r).1.length ≤ 10000000 := Nat.le_trans (textF_vlen r) h
theorem intF_vok (r : RS) (_ : r.rest.length ≤ 10000000) : I64 (intF r).1 := numberF_i64 _ _ _
theorem intF_len (r : RS) : (intF r).2.rest.length ≤ r.rest.length - 1 := numberF_len _ _ _
theorem intF_nil (r : RS) (h : r.rest = []) : (intF r).2.bad = true := by
  unfold intF numberF
  rw [h, numRd_nil]; rfl
theorem textF_nil (r : RS) (h : r.rest = []) : (textF r).2.bad = true := by
  have : numberF 58 0 r = (0, failS) := by unfold numberF; rw [h, numRd_nil]
  unfold textF
  rw [this]; rfl

theorem intRep {A : Nat → Prop} {w : World} (x : Int) (h : I64 x) : (kInt .i64).rep A w [.int .i64 x] x := ⟨rfl, iwf h⟩
def ItemsIntPost (b : Nat) (r : RS) (w : World) (e : Ending) (w' : World) : Prop :=
  ∃ a n c, e = .returned (.slice a n c) ∧ kInts.rep (fun g => w.heap.size ≤ g ∧ g < w'.heap.size) w' [.slice a n c] (itemsF intF r).1 ∧ RdAt w' b (itemsF intF r).2 ∧ Upd (· = b) w w'
theorem itemsInt_fin {b : Nat} {r : RS} {w w' : World} {v : Value} {out : List Int} (hbad : (itemsF intF r).2.bad = false) (ho : (itemsF intF r).1 = out) (h : w'.ownsRow w.heap.size 3 1 v out.length (out.map fun x => .int .i64 x)) (hw : ∀ x ∈ out, I64 x) (hr : RdAt w' b (itemsF intF r).2) (u : Upd (· = b) w w') : ItemsIntPost b r w (.returned v) w' := by
  have hrep := ownsRow_rep1 (K := (kInt .i64)) (A := fun g => w.heap.size ≤ g ∧ g < w'.heap.size) rfl (fun x => .int .i64 x) h (fun x hx => intRep x (hw x hx)) fun g hg => h.lt g hg
  obtain ⟨a, c, e, _⟩ := slice_open hrep
  subst e
  exact ⟨_, _, _, rfl, by rw [ho]; exact hrep, hr, u⟩
theorem itemsInt_nil {b : Nat} {r : RS} {w w' : World} (ho : (itemsF intF r).1 = []) (hr : RdAt w' b (itemsF intF r).2) (u : Upd (· = b) w w') : ItemsIntPost b r w (.returned (.slice none 0 0)) w' :=
  ⟨_, _, _, rfl, by rw [ho]; exact .inl ⟨none, 0, rfl, Nat.zero_le _, rfl⟩, hr, u⟩

theorem strRep {A : Nat → Prop} {w : World} (x : (List UInt8)) (h : x.length ≤ 10000000) : (kMap kStr fun l : List UInt8 => ⟨l.toArray⟩).rep A w [.string ⟨x.toArray⟩] x := ⟨rfl, by show (ByteArray.mk x.toArray).size ≤ maxLen; simp [ByteArray.size]; unfold maxLen; omega⟩
def ItemsTextPost (b : Nat) (r : RS) (w : World) (e : Ending) (w' : World) : Prop :=
  ∃ a n c, e = .returned (.slice a n c) ∧ kStrs.rep (fun g => w.heap.size ≤ g ∧ g < w'.heap.size) w' [.slice a n c] (itemsF textF r).1 ∧ RdAt w' b (itemsF textF r).2 ∧ Upd (· = b) w w'
theorem itemsText_fin {b : Nat} {r : RS} {w w' : World} {v : Value} {out : List (List UInt8)} (hbad : (itemsF textF r).2.bad = false) (ho : (itemsF textF r).1 = out) (h : w'.ownsRow w.heap.size 9 1 v out.length (out.map fun x => .string ⟨x.toArray⟩)) (hw : ∀ x ∈ out, x.length ≤ 10000000) (hr : RdAt w' b (itemsF textF r).2) (u : Upd (· = b) w w') : ItemsTextPost b r w (.returned v) w' := by
  have hrep := ownsRow_rep1 (K := (kMap kStr fun l : List UInt8 => ⟨l.toArray⟩)) (A := fun g => w.heap.size ≤ g ∧ g < w'.heap.size) rfl (fun x => .string ⟨x.toArray⟩) h (fun x hx => strRep x (hw x hx)) fun g hg => h.lt g hg
  obtain ⟨a, c, e, _⟩ := slice_open hrep
  subst e
  exact ⟨_, _, _, rfl, by rw [ho]; exact hrep, hr, u⟩
theorem itemsText_nil {b : Nat} {r : RS} {w w' : World} (ho : (itemsF textF r).1 = []) (hr : RdAt w' b (itemsF textF r).2) (u : Upd (· = b) w w') : ItemsTextPost b r w (.returned (.slice none 0 0)) w' :=
  ⟨_, _, _, rfl, by rw [ho]; exact .inl ⟨none, 0, rfl, Nat.zero_le _, rfl⟩, hr, u⟩

end Go.Proofs.YtlefilfdomjkeaaGreatDoor
