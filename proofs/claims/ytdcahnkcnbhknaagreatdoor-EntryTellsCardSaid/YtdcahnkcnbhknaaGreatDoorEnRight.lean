/- Walks: Right. -/
import Derived.Test.YtdcahnkcnbhknaaGreatDoorEnNum
import Derived.Test.YtdcahnkcnbhknaaGreatDoorEnPlain
import Derived.Test.YtdcahnkcnbhknaaGreatDoorEnNrm
import Derived.Test.YtdcahnkcnbhknaaGreatDoorSortS
import Derived.Shelf.SlicesG.Turned
namespace Go.Proofs.YtdcahnkcnbhknaaGreatDoor
open Go.RowKit Go.Deep

def en13 (e : En) (a1 a2 a3 : Option Addr) (c1 c2 c3 : Nat) : Array Value := #[.int .i64 e.author, .int .i64 e.seq, .int .i64 e.day, .slice a1 e.knows.length c1, .int .i64 e.kind, .int .i64 e.circle, .int .i64 e.who, .int .i64 e.n, .int .i64 e.m, .int .i64 e.ref, .slice a2 e.keys.length c2, .slice a3 e.spans.length c3, .string ⟨e.text.toArray⟩]
/-- An entry's slices in memory. -/
structure EnRep (A : Nat → Prop) (w : World) (e : En) (a1 a2 a3 : Option Addr) (c1 c2 c3 : Nat) : Prop where
  knows : kInts.rep A w [.slice a1 e.knows.length c1] e.knows
  keys : kInts.rep A w [.slice a2 e.keys.length c2] e.keys
  spans : kSps.rep A w [.slice a3 e.spans.length c3] e.spans
theorem EnRep.keep {A : Nat → Prop} {w w' : World} {e : En} {a1 a2 a3 : Option Addr} {c1 c2 c3 : Nat} (h : EnRep A w e a1 a2 a3 c1 c2 c3) (u : Upd (fun _ => False) w w') : EnRep A w' e a1 a2 a3 c1 c2 c3 :=
  ⟨kInts.keep h.knows (Same.of_upd u fun _ _ => id), kInts.keep h.keys (Same.of_upd u fun _ _ => id), kSps.keep h.spans (Same.of_upd u fun _ _ => id)⟩
theorem cells13 {w : World} {p : Nat} {e : En} {a1 a2 a3 : Option Addr} {c1 c2 c3 : Nat} {t : TypeId} (h : w.heap[p]? = some (.cells (en13 e a1 a2 a3 c1 c2 c3) t (0, 0))) :
    w.cell? ⟨p, 0, none⟩ = some (.int .i64 e.author) ∧ w.cell? ⟨p, 1, none⟩ = some (.int .i64 e.seq) ∧ w.cell? ⟨p, 2, none⟩ = some (.int .i64 e.day) ∧ w.cell? ⟨p, 3, none⟩ = some (.slice a1 e.knows.length c1) ∧ w.cell? ⟨p, 4, none⟩ = some (.int .i64 e.kind) ∧ w.cell? ⟨p, 5, none⟩ = some (.int .i64 e.circle) ∧ w.cell? ⟨p, 6, none⟩ = some (.int .i64 e.who) ∧ w.cell? ⟨p, 7, none⟩ = some (.int .i64 e.n) ∧ w.cell? ⟨p, 8, none⟩ = some (.int .i64 e.m) ∧ w.cell? ⟨p, 9, none⟩ = some (.int .i64 e.ref) ∧ w.cell? ⟨p, 10, none⟩ = some (.slice a2 e.keys.length c2) ∧ w.cell? ⟨p, 11, none⟩ = some (.slice a3 e.spans.length c3) ∧ w.cell? ⟨p, 12, none⟩ = some (.string ⟨e.text.toArray⟩) := by
  refine ⟨?_, ?_, ?_, ?_, ?_, ?_, ?_, ?_, ?_, ?_, ?_, ?_, ?_⟩ <;> (rw [cell_of_block h]; rfl)
theorem kinds_any (k : Int) (w : World) : Calls Tryz.prog 63 #[.slice (some ⟨w.heap.size, 0, none⟩) 3 3, .int .i64 k] (w.alloc (.cells #[.int .i64 5, .int .i64 6, .int .i64 7] 3 (0, 0)))
    fun e w' => e = .returned (.bool (decide (k = 5 ∨ k = 6 ∨ k = 7))) ∧ Upd (fun _ => False) w w' := by
  have h := AnyG.slices_Contains_int Tryz.containsA w.heap.size 0 3 3 [5, 6, 7] k (w.alloc (.cells #[.int .i64 5, .int .i64 6, .int .i64 7] 3 (0, 0))) (by decide) (by decide) (fun j hj => by
    have : j = 0 ∨ j = 1 ∨ j = 2 := by simp at hj; omega
    rw [cell_of_block heap_alloc_new]
    rcases this with rfl | rfl | rfl <;> rfl)
  refine h.mono fun e w' ⟨he, hw⟩ => ⟨?_, by rw [hw]; exact (Upd.refl _ _).alloc _⟩
  rw [he]
  refine ret_b ?_
  simp
theorem kinds_yes (k : Int) (h : k = 5 ∨ k = 6 ∨ k = 7) (w : World) : Calls Tryz.prog 63 #[.slice (some ⟨w.heap.size, 0, none⟩) 3 3, .int .i64 k] (w.alloc (.cells #[.int .i64 5, .int .i64 6, .int .i64 7] 3 (0, 0)))
    fun e w' => e = .returned (.bool true) ∧ Upd (fun _ => False) w w' := (kinds_any k w).mono fun _ _ g => ⟨by rw [g.1, decide_eq_true h], g.2⟩
theorem kinds_no (k : Int) (h : ¬ (k = 5 ∨ k = 6 ∨ k = 7)) (w : World) : Calls Tryz.prog 63 #[.slice (some ⟨w.heap.size, 0, none⟩) 3 3, .int .i64 k] (w.alloc (.cells #[.int .i64 5, .int .i64 6, .int .i64 7] 3 (0, 0)))
    fun e w' => e = .returned (.bool false) ∧ Upd (fun _ => False) w w' := (kinds_any k w).mono fun _ _ g => ⟨by rw [g.1, decide_eq_false h], g.2⟩
theorem or_no {A B : Prop} (h : A ∨ ¬ B) (hb : B) (ha : ¬ A) : False := h.elim ha fun g => g hb
theorem or_no3 {e : En} (h : e.spans = [] ∨ 40 < (e.spans.length : Int) ∨ ¬ nrmP e.spans) (hb : nrmP e.spans) (ha : ¬ 40 < (e.spans.length : Int)) (g1 : e.spans ≠ []) : False := h.elim g1 fun h => h.elim ha fun g => g hb
theorem or_no4 {e : En} (h : (((e.spans.length : Int) == 0) = true ∨ 40 < (e.spans.length : Int)) ∨ ¬ nrmP e.spans) (hb : nrmP e.spans) (ha : ¬ 40 < (e.spans.length : Int)) (g1 : e.spans ≠ []) : False :=
  h.elim (fun h => h.elim (fun h => g1 (List.length_eq_zero_iff.1 (by have := beq_iff_eq.1 h; omega))) ha) fun g => g hb
theorem nd_f {p : Prop} [Decidable p] : ((!decide p) = false) = p := by simp
theorem nd_t {p : Prop} [Decidable p] : ((!decide p) = true) = ¬ p := by simp
theorem slice_caps {α : Type} {K : Knd α} {A : Nat → Prop} {w : World} {a : Option Addr} {c : Nat} {l : List α} (h : (kSlice K).rep A w [.slice a l.length c] l) : l.length ≤ c ∧ c ≤ 9223372036854775807 := by
  obtain ⟨_, _, hv, h1, h2, _⟩ := slice_open h
  injection hv with _ _ e
  subst e
  exact ⟨h1, h2⟩
end Go.Proofs.YtdcahnkcnbhknaaGreatDoor
