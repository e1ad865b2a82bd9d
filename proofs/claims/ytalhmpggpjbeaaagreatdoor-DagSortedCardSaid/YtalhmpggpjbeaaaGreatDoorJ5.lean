/- Walks: numbers. -/
import Derived.Test.YtalhmpggpjbeaaaGreatDoorJ2
import Derived.Test.YtalhmpggpjbeaaaGreatDoorJ3
import Derived.Test.YtalhmpggpjbeaaaGreatDoorCEnNrm
import Derived.Test.YtalhmpggpjbeaaaGreatDoorSortS
import Derived.Test.YtalhmpggpjbeaaaGreatDoorShelf
import Derived.Test.YtalhmpggpjbeaaaGreatDoorJ1
import Derived.Shelf.SlicesG.Turned
import Derived.Shelf.SlSortCmp.WholeK
import Derived.Shelf.SlSortCmp.NoneTotal
import Derived.Deep.RegionHeld3
import Derived.Shelf.SlicesQ.IndexFunc
import Derived.Lib.AppendZeros
namespace Go.Proofs.YtalhmpggpjbeaaaGreatDoor
open Go.RowKit Go.Deep

set_option maxRecDepth 100000 in
set_option maxHeartbeats 40000000 in
theorem numbers_any (e : En) (hk : 0 ≤ e.kind ∧ e.kind < 21) (a1 a2 a3 : Option Addr) (c1 c2 c3 : Nat) (w : World) : Calls Tryz.prog 140 #[enV e a1 a2 a3 c1 c2 c3] w fun en w' => en = .returned (.bool (decide (numbersP e))) ∧ Upd (fun _ => False) w w' := by
  have h : e.kind = 0 ∨ e.kind = 1 ∨ e.kind = 2 ∨ e.kind = 3 ∨ e.kind = 4 ∨ e.kind = 5 ∨ e.kind = 6 ∨ e.kind = 7 ∨ e.kind = 8 ∨ e.kind = 9 ∨ e.kind = 10 ∨ e.kind = 11 ∨ e.kind = 12 ∨ e.kind = 13 ∨ e.kind = 14 ∨ e.kind = 15 ∨ e.kind = 16 ∨ e.kind = 17 ∨ e.kind = 18 ∨ e.kind = 19 ∨ e.kind = 20 := by omega
  clear hk
  unfold enV
  rcases h with hk | hk | hk | hk | hk | hk | hk | hk | hk | hk | hk | hk | hk | hk | hk | hk | hk | hk | hk | hk | hk <;> (
  rw [hk]
  have HK := hid hk
  clear hk
  go_enter Tryz.func140, Tryz.ntmps140
  go_wp2_with (first
    | (go_at_call 136; refine (mark_any _ _).mono ?_; rintro e w' ⟨rfl, rfl⟩)
    | (go_at_call 132; refine (key_any _ _).mono ?_; rintro e w' ⟨rfl, rfl⟩)
    | (go_at_call 133; refine (day_any _ _).mono ?_; rintro e w' ⟨rfl, rfl⟩))
  all_goals
    go_ret
    refine ⟨?_, (Upd.refl _ _).alloc _⟩
    have hk := HK.out
    clear HK
    refine ret_b ?_
    try simp only [Bool.or_eq_true, decide_eq_true_eq, beq_iff_eq, bne_iff_ne, Bool.false_eq_true, false_iff, true_iff, ne_eq]
    try simp only [numbersP, hk, markP, dayP, keyP, coinsP, Int.reduceEq, if_true, if_false, or_self, or_true, or_false, ne_eq] at *
    first | done | omega | exact decide_eq_true_iff (p := markP _) | exact decide_eq_true_iff (p := dayP _) | simp_all)
end Go.Proofs.YtalhmpggpjbeaaaGreatDoor
namespace Go.Proofs.YtalhmpggpjbeaaaGreatDoor
open Go.RowKit Go.Deep

def en13 (e : En) (a1 a2 a3 : Option Addr) (c1 c2 c3 : Nat) : Array Value := #[.int .i64 e.author, .int .i64 e.seq, .int .i64 e.day, .slice a1 e.knows.length c1, .int .i64 e.kind, .int .i64 e.circle, .int .i64 e.who, .int .i64 e.n, .int .i64 e.m, .int .i64 e.ref, .slice a2 e.keys.length c2, .slice a3 e.spans.length c3, .string ⟨e.text.toArray⟩]
/-- An entry's slices in memory. -/
structure EnRep (A : Nat → Prop) (w : World) (e : En) (a1 a2 a3 : Option Addr) (c1 c2 c3 : Nat) : Prop where
  knows : kInts.rep A w [.slice a1 e.knows.length c1] e.knows
  keys : kInts.rep A w [.slice a2 e.keys.length c2] e.keys
  spans : kSps.rep A w [.slice a3 e.spans.length c3] e.spans
theorem EnRep.keep {A : Nat → Prop} {w w' : World} {e : En} {a1 a2 a3 : Option Addr} {c1 c2 c3 : Nat} (h : EnRep A w e a1 a2 a3 c1 c2 c3) (u : Upd (fun _ => False) w w') : EnRep A w' e a1 a2 a3 c1 c2 c3 :=
  ⟨kInts.keep h.knows (Same.of_upd u fun _ _ => id), kInts.keep h.keys (Same.of_upd u fun _ _ => id), kSps.keep h.spans (Same.of_upd u fun _ _ => id)⟩
theorem cells13 {w : World} {p : Nat} {e : En} {a1 a2 a3 : Option Addr} {c1 c2 c3 : Nat} {t : TypeId} (h : w.heap[p]? = some (.cells (en13 e a1 a2 a3 c1 c2 c3) t (0, 0))) :
    w.cell? ⟨p, 0, none⟩ = some (.int .i64 e.author) ∧ w.cell? ⟨p, 1, none⟩ = some (.int .i64 e.seq) ∧ w.cell? ⟨p, 2, none⟩ = some (.int .i64 e.day) ∧ w.cell? ⟨p, 3, none⟩ = some (.slice a1 e.knows.length c1) ∧ w.cell? ⟨p, 4, none⟩ = some (.int .i64 e.kind) ∧ w.cell? ⟨p, 5, none⟩ = some (.int .i64 e.circle) ∧ w.cell? ⟨p, 6, none⟩ = some (.int .i64 e.who) ∧ w.cell? ⟨p, 7, none⟩ = some (.int .i64 e.n) ∧ w.cell? ⟨p, 8, none⟩ = some (.int .i64 e.m) ∧ w.cell? ⟨p, 9, none⟩ = some (.int .i64 e.ref) ∧ w.cell? ⟨p, 10, none⟩ = some (.slice a2 e.keys.length c2) ∧ w.cell? ⟨p, 11, none⟩ = some (.slice a3 e.spans.length c3) ∧ w.cell? ⟨p, 12, none⟩ = some (.string ⟨e.text.toArray⟩) := by
  refine ⟨?_, ?_, ?_, ?_, ?_, ?_, ?_, ?_, ?_, ?_, ?_, ?_, ?_⟩ <;> (rw [cell_of_block h]; rfl)
theorem kinds_any (k : Int) (w : World) : Calls Tryz.prog 137 #[.slice (some ⟨w.heap.size, 0, none⟩) 3 3, .int .i64 k] (w.alloc (.cells #[.int .i64 5, .int .i64 6, .int .i64 7] 3 (0, 0)))
    fun e w' => e = .returned (.bool (decide (k = 5 ∨ k = 6 ∨ k = 7))) ∧ Upd (fun _ => False) w w' := by
  have h := AnyG.slices_Contains_int Tryz.containsA w.heap.size 0 3 3 [5, 6, 7] k (w.alloc (.cells #[.int .i64 5, .int .i64 6, .int .i64 7] 3 (0, 0))) (by decide) (by decide) (fun j hj => by
    have : j = 0 ∨ j = 1 ∨ j = 2 := by simp at hj; omega
    rw [cell_of_block heap_alloc_new]
    rcases this with rfl | rfl | rfl <;> rfl)
  refine h.mono fun e w' ⟨he, hw⟩ => ⟨?_, by rw [hw]; exact (Upd.refl _ _).alloc _⟩
  rw [he]
  refine ret_b ?_
  simp
theorem kinds_yes (k : Int) (h : k = 5 ∨ k = 6 ∨ k = 7) (w : World) : Calls Tryz.prog 137 #[.slice (some ⟨w.heap.size, 0, none⟩) 3 3, .int .i64 k] (w.alloc (.cells #[.int .i64 5, .int .i64 6, .int .i64 7] 3 (0, 0)))
    fun e w' => e = .returned (.bool true) ∧ Upd (fun _ => False) w w' := (kinds_any k w).mono fun _ _ g => ⟨by rw [g.1, decide_eq_true h], g.2⟩
theorem kinds_no (k : Int) (h : ¬ (k = 5 ∨ k = 6 ∨ k = 7)) (w : World) : Calls Tryz.prog 137 #[.slice (some ⟨w.heap.size, 0, none⟩) 3 3, .int .i64 k] (w.alloc (.cells #[.int .i64 5, .int .i64 6, .int .i64 7] 3 (0, 0)))
    fun e w' => e = .returned (.bool false) ∧ Upd (fun _ => False) w w' := (kinds_any k w).mono fun _ _ g => ⟨by rw [g.1, decide_eq_false h], g.2⟩
theorem or_no {A B : Prop} (h : A ∨ ¬ B) (hb : B) (ha : ¬ A) : False := h.elim ha fun g => g hb
theorem or_no3 {e : En} (h : e.spans = [] ∨ 40 < (e.spans.length : Int) ∨ ¬ nrmP e.spans) (hb : nrmP e.spans) (ha : ¬ 40 < (e.spans.length : Int)) (g1 : e.spans ≠ []) : False := h.elim g1 fun h => h.elim ha fun g => g hb
theorem or_no4 {e : En} (h : (((e.spans.length : Int) == 0) = true ∨ 40 < (e.spans.length : Int)) ∨ ¬ nrmP e.spans) (hb : nrmP e.spans) (ha : ¬ 40 < (e.spans.length : Int)) (g1 : e.spans ≠ []) : False :=
  h.elim (fun h => h.elim (fun h => g1 (List.length_eq_zero_iff.1 (by have := beq_iff_eq.1 h; omega))) ha) fun g => g hb
theorem nd_f {p : Prop} [Decidable p] : ((!decide p) = false) = p := by simp
theorem nd_t {p : Prop} [Decidable p] : ((!decide p) = true) = ¬ p := by simp
theorem slice_caps {α : Type} {K : Knd α} {A : Nat → Prop} {w : World} {a : Option Addr} {c : Nat} {l : List α} (h : (kSlice K).rep A w [.slice a l.length c] l) : l.length ≤ c ∧ c ≤ 9223372036854775807 := by
  obtain ⟨_, _, hv, h1, h2, _⟩ := slice_open h
  injection hv with _ _ e
  subst e
  exact ⟨h1, h2⟩
end Go.Proofs.YtalhmpggpjbeaaaGreatDoor
namespace Go.Proofs.YtalhmpggpjbeaaaGreatDoor
open Go.RowKit Go.Deep Go.Sort

def orV (a b : Int) : Int := if a = 0 then b else a
theorem or_any (a b : Int) (g : Nat) (w : World) (h0 : w.cell? ⟨g, 0, none⟩ = some (.int .i64 a)) (h1 : w.cell? ⟨g, 1, none⟩ = some (.int .i64 b)) :
    Calls Tryz.prog 142 #[.slice (some ⟨g, 0, none⟩) 2 2] w fun e w' => e = .returned (.int .i64 (orV a b)) ∧ w = w' := by
  by_cases ha : a = 0
  · subst ha
    have hr := hid (show orV 0 b = b from if_pos rfl)
    go_enter Tryz.func142, Tryz.ntmps142
    go_wp2_with fail
    go_loopg [8] 2 (fun gg s8 wr => ∃ k : Nat, k ≤ 2 ∧ gg = 2 - k ∧ s8 = .int .i64 k ∧ (k = 2 → b = 0) ∧ w = wr)
    case atStart => exact ⟨0, by omega, rfl, rfl, fun h => by omega, rfl⟩
    case round =>
      obtain ⟨k, hk, hg, rfl, hb, rfl⟩ := hrel
      have HB := hid hb; have HG := hid hg
      clear hb hg
      have : k = 0 ∨ k = 1 ∨ k = 2 := by omega
      rcases this with rfl | rfl | rfl
      · go_wp2_with fail
        go_roundg 1
        case measure => have := HG.out; omega
        case rel => exact ⟨1, by omega, rfl, by first | rfl | go_num, fun h => by omega, rfl⟩
      · by_cases hb0 : b = 0
        · have hbb : (b != 0) = false := by rw [hb0]; rfl
          have HB0 := hid hb0
          clear hb0
          go_wp2_with fail
          go_roundg 0
          case measure => have := HG.out; omega
          case rel => exact ⟨2, by omega, rfl, by first | rfl | go_num, fun h => HB0.out, rfl⟩
        · have hbb : (b != 0) = true := bne_iff_ne.2 hb0
          clear hb0
          go_wp2_with fail
          go_ret
          exact ⟨by first | rfl | (rw [hr.out]; rfl), rfl⟩
      · have hb0 := hid (HB.out rfl)
        go_wp2_with fail
        go_ret
        exact ⟨by first | (rw [hb0.out]; rfl) | (rw [hr.out, hb0.out]; rfl), rfl⟩
  · have hr := hid (show orV a b = a from if_neg ha)
    have haa : (a != 0) = true := bne_iff_ne.2 ha
    clear ha
    go_enter Tryz.func142, Tryz.ntmps142
    go_wp2_with fail
    go_loopg [8] 2 (fun gg s8 wr => s8 = .int .i64 0 ∧ w = wr)
    case atStart => exact ⟨rfl, rfl⟩
    case round =>
      obtain ⟨rfl, rfl⟩ := hrel
      go_wp2_with fail
      go_ret
      exact ⟨by first | rfl | (rw [hr.out]; rfl), rfl⟩
theorem alloc_cell {w : World} {cells : Array Value} {t : TypeId} {fr : Nat × Nat} {g k : Nat} {v : Value} (hg : w.heap.size = g) (h : cells[k]? = some v) : (w.alloc (.cells cells t fr)).cell? ⟨g, k, none⟩ = some v := by
  subst hg; rw [cell_of_block heap_alloc_new]; exact h
def cmpSp (x y : Sp) : Int := if Lib.compareInt x.mark y.mark = 0 then Lib.compareInt x.fr y.fr else Lib.compareInt x.mark y.mark
theorem compareInt_lt (a b : Int) : Lib.compareInt a b < 0 ↔ a < b := by
  unfold Lib.compareInt
  by_cases h : a < b
  · simp [h]
  · by_cases h2 : b < a <;> simp [h, h2]
theorem compareInt_eq (a b : Int) : Lib.compareInt a b = 0 ↔ a = b := by
  unfold Lib.compareInt
  by_cases h : a < b
  · simp [h]; omega
  · by_cases h2 : b < a
    · simp [h, h2]; omega
    · simp [h, h2]; omega
theorem cmpSp_lt (x y : Sp) : ltOf cmpSp x y = true ↔ x.mark < y.mark ∨ (x.mark = y.mark ∧ x.fr < y.fr) := by
  unfold ltOf cmpSp
  rw [decide_eq_true_eq]
  by_cases h : x.mark = y.mark
  · rw [if_pos ((compareInt_eq _ _).2 h), compareInt_lt]; omega
  · rw [if_neg (fun h' => h ((compareInt_eq _ _).1 h')), compareInt_lt]; omega
theorem swo_sp : SWO (ltOf cmpSp) where
  irrefl x := by rw [← Bool.not_eq_true, cmpSp_lt]; omega
  trans x y z h1 h2 := by rw [cmpSp_lt] at *; omega
  ntrans x y z h1 h2 := by rw [← Bool.not_eq_true, cmpSp_lt] at *; omega
end Go.Proofs.YtalhmpggpjbeaaaGreatDoor
namespace Go.Proofs.YtalhmpggpjbeaaaGreatDoor
open Go.RowKit Go.Deep Go.Sort

theorem flat_eq (l : List Sp) : flatK spCells 3 l.toArray = (flatS l).toArray := by
  refine ext_get! (by simp [flatS_len]) fun t ht => ?_
  have ht' : t < l.length * 3 := by simpa using ht
  rw [get_flatK _ _ _ _ (by simpa using ht')]
  have hi : t / 3 < l.length := by omega
  obtain ⟨h0, h1, h2⟩ := flatS_get l (t / 3) hi
  have hl := flatS_len l
  have hg : ∀ v, (flatS l)[t]? = some v → (flatS l).toArray[t]! = v := fun v hv => by
    rw [getElem!_pos _ t (by simp [hl]; omega)]
    obtain ⟨_, e⟩ := List.getElem?_eq_some_iff.1 hv
    simpa using e
  have hx : l.toArray[t / 3]! = l[t / 3] := by rw [getElem!_pos _ _ (by simpa using hi)]; simp
  rw [hx]
  have hm : t % 3 = 0 ∨ t % 3 = 1 ∨ t % 3 = 2 := by omega
  rcases hm with hm | hm | hm
  · rw [hm, hg _ (by rw [show t = t / 3 * 3 by omega] at *; exact h0)]; rfl
  · rw [hm, hg _ (by rw [show t = t / 3 * 3 + 1 by omega] at *; exact h1)]; rfl
  · rw [hm, hg _ (by rw [show t = t / 3 * 3 + 2 by omega] at *; exact h2)]; rfl
theorem holds_blk {w : World} {g : Nat} {l : List Sp} {rest : List Value} (h : SpBlk w g l rest) : HoldsK spCells 3 w g 0 l.toArray := by
  unfold HoldsK
  rw [flat_eq]
  intro j hj
  refine ⟨?_, h.frozen _⟩
  have hj' : j < (flatS l).length := by simpa using hj
  rw [Nat.zero_add, cell_of_block h, List.getElem?_toArray, List.getElem?_append_left hj', List.getElem?_eq_getElem hj', getElem!_pos _ j hj]
  simp
theorem put_cells (l' : List Sp) (cs rest : List Value) (h : (flatS l').length = cs.length) : putCells id 0 (flatS l').toArray (cs ++ rest).toArray = (flatS l' ++ rest).toArray := by
  apply Array.ext_getElem?
  intro k
  simp only [putCells, Array.getElem?_mapIdx, List.getElem?_toArray, Nat.zero_le, true_and, Nat.zero_add, List.size_toArray, Nat.sub_zero, id]
  by_cases hk : k < (flatS l').length
  · rw [List.getElem?_append_left (by omega), List.getElem?_append_left hk, List.getElem?_eq_getElem (by omega), List.getElem?_eq_getElem hk, Option.map_some, if_pos hk, getElem!_pos _ k (by simpa using hk)]
    simp
  · rw [List.getElem?_append_right (by omega), List.getElem?_append_right (by omega), h]
    cases hr : rest[k - cs.length]? with
    | none => rfl
    | some y => rw [Option.map_some, if_neg (by omega)]
theorem sorted_blk {w : World} {g : Nat} {l l' : List Sp} {rest : List Value} (h : SpBlk w g l rest) (hl : l'.length = l.length) (n : Nat) (os : Array Obj) :
    SpBlk (sortWorldK spCells 3 w g 0 n l'.toArray os) g l' rest ∧ Upd (· = g) w (sortWorldK spCells 3 w g 0 n l'.toArray os) := by
  have hlt := h.lt
  have hs1 : (putRowK spCells 3 (Sort.ahead w n) g 0 l'.toArray).heap.size = w.heap.size := by simp [putRowK, putRow, mapBlock, Sort.ahead]
  unfold sortWorldK
  refine ⟨?_, rfl, rfl, rfl, ?_, ?_⟩
  · unfold SpBlk
    rw [heap_grow_old _ _ (by rw [hs1]; exact hlt)]
    unfold putRowK putRow mapBlock
    rw [flat_eq]
    show ((w.heap.modify g _)[g]?) = _
    rw [Array.getElem?_modify, if_pos rfl, show w.heap[g]? = _ from h, Option.map_some]
    show some (Obj.cells (putCells id 0 (flatS l').toArray (flatS l ++ rest).toArray) _ _) = _
    rw [put_cells l' (flatS l) rest (by rw [flatS_len, flatS_len, hl])]
  · simp only [grow, Array.size_append, hs1]; omega
  · intro k hk hn
    rw [heap_grow_old _ _ (by rw [hs1]; exact hk)]
    unfold putRowK putRow mapBlock
    show ((w.heap.modify g _)[k]?) = _
    rw [Array.getElem?_modify, if_neg (Ne.symm hn)]
/-- The order by mark and beginning is the order by the first coin, among right spans. -/
theorem lt_lo {a b : Sp} (ha : a.Ok) (hb : b.Ok) (h : ltOf cmpSp b a = false) : a.lo ≤ b.lo := by
  have h1 : ¬ (b.mark < a.mark ∨ (b.mark = a.mark ∧ b.fr < a.fr)) := fun h' => by rw [(cmpSp_lt b a).2 h'] at h; cases h
  unfold Sp.Ok at ha hb; unfold Sp.lo; omega
end Go.Proofs.YtalhmpggpjbeaaaGreatDoor
namespace Go.Proofs.YtalhmpggpjbeaaaGreatDoor
open Go.RowKit Go.Deep

/-- Where the spans in their order lie when the loop begins. -/
def RowIn (w : World) (v : Value) (r : List Sp) : Prop := ∃ a c, v = .slice a r.length c ∧ (0 < r.length → ∃ g rest, a = some ⟨g, 0, none⟩ ∧ SpBlk w g r rest)
end Go.Proofs.YtalhmpggpjbeaaaGreatDoor
namespace Go.Proofs.YtalhmpggpjbeaaaGreatDoor
open Go.RowKit Go.Deep

/-- Whether a span has a coin. -/
def hasB (s : Sp) (m n : Int) : Bool := decide (s.Ok ∧ s.mark = m ∧ s.fr ≤ n ∧ n < s.to)
theorem any_has (l : List Sp) (m n : Int) : (l.any fun s => hasB s m n) = decide (HasM l m n) := by
  have h : (l.any fun s => hasB s m n) = true ↔ HasM l m n := by
    simp only [List.any_eq_true, HasM, hasB, decide_eq_true_eq]
  by_cases hx : HasM l m n
  · rw [decide_eq_true hx]; exact h.2 hx
  · rw [decide_eq_false hx]; exact Bool.eq_false_iff.2 fun h' => hx (h.1 h')
end Go.Proofs.YtalhmpggpjbeaaaGreatDoor
namespace Go.Proofs.YtalhmpggpjbeaaaGreatDoor
open Go.RowKit Go.Deep

def GrowPost (w : World) (e : Ending) (w' : World) : Prop := ∃ v, e = .returned v ∧ w'.ownsRow w.heap.size 126 3 v 0 [] ∧ Upd (fun _ => False) w w'
end Go.Proofs.YtalhmpggpjbeaaaGreatDoor
namespace Go.Proofs.YtalhmpggpjbeaaaGreatDoor
open Go.RowKit Go.Deep

theorem common_snoc (a b : List Sp) (k : Nat) (hk : k < a.length) : commonL (a.take (k + 1)) b = commonL (a.take k) b ++ (b.map fun y => meet a[k] y).flatten := by
  unfold commonL
  rw [List.take_succ_eq_append_getElem hk, List.map_append, List.flatten_append]
  simp
theorem meets_snoc (x : Sp) (b : List Sp) (j : Nat) (hj : j < b.length) : ((b.take (j + 1)).map fun y => meet x y).flatten = ((b.take j).map fun y => meet x y).flatten ++ meet x b[j] := by
  rw [List.take_succ_eq_append_getElem hj, List.map_append, List.flatten_append]
  simp
theorem meets_len (x : Sp) (b : List Sp) : ((b.map fun y => meet x y).flatten).length ≤ b.length := by
  have := flat_le (fun y => meet x y) 1 b fun y _ => meet_len x y
  omega
theorem meet_wf {x y : Sp} (hx : SpWf x) (hy : SpWf y) : ∀ s ∈ meet x y, SpWf s := by
  intro s hs
  unfold meet at hs
  split at hs
  · rw [List.mem_singleton] at hs
    subst hs
    have h1 := wfi hx.fr; have h2 := wfi hy.fr; have h3 := wfi hx.upto; have h4 := wfi hy.upto
    exact ⟨hx.mark, iwf (by dsimp only; omega), iwf (by dsimp only; omega)⟩
  · cases hs
theorem common_wf {a b : List Sp} (ha : ∀ s ∈ a, SpWf s) (hb : ∀ s ∈ b, SpWf s) : ∀ s ∈ commonL a b, SpWf s := by
  intro s hs
  unfold commonL at hs
  obtain ⟨l, hl, hs⟩ := List.mem_flatten.1 hs
  obtain ⟨x, hx, rfl⟩ := List.mem_map.1 hl
  obtain ⟨m, hm, hs⟩ := List.mem_flatten.1 hs
  obtain ⟨y, hy, rfl⟩ := List.mem_map.1 hm
  exact meet_wf (ha x hx) (hb y hy) s hs
end Go.Proofs.YtalhmpggpjbeaaaGreatDoor
namespace Go.Proofs.YtalhmpggpjbeaaaGreatDoor
open Go.RowKit Go.Deep

theorem cuts_snoc (y : Sp) (l : List Sp) (k : Nat) (hk : k < l.length) : ((l.take (k + 1)).map (cutS y)).flatten = ((l.take k).map (cutS y)).flatten ++ cutS y l[k] := by
  rw [List.take_succ_eq_append_getElem hk, List.map_append, List.flatten_append]
  simp
theorem cuts_wf {y : Sp} (hy : SpWf y) {l : List Sp} (hl : ∀ s ∈ l, SpWf s) : ∀ s ∈ (l.map (cutS y)).flatten, SpWf s := by
  intro s hs
  obtain ⟨m, hm, hs⟩ := List.mem_flatten.1 hs
  obtain ⟨x, hx, rfl⟩ := List.mem_map.1 hm
  have hx := hl x hx
  have h1 := wfi hx.fr; have h2 := wfi hy.fr; have h3 := wfi hx.upto; have h4 := wfi hy.upto
  unfold cutS at hs
  split at hs
  · rw [List.mem_singleton] at hs; subst hs; exact hx
  · simp only [List.mem_cons, List.not_mem_nil, or_false] at hs
    rcases hs with rfl | rfl
    · exact ⟨hx.mark, hx.fr, iwf (by dsimp only; omega)⟩
    · exact ⟨hx.mark, iwf (by dsimp only; omega), hx.upto⟩
theorem fold_snoc (y : List Sp) (l : List Sp) (k : Nat) (hk : k < y.length) : (y.take (k + 1)).foldl cutL l = cutL ((y.take k).foldl cutL l) y[k] := by
  rw [List.take_succ_eq_append_getElem hk, List.foldl_append]; rfl
/-- An append of m elements, whose cells the statement has just laid in a new block. -/
theorem append_lit {P : Program} {t e : TypeId} {size bytes : Nat} (T : ElemTy P t e size bytes) {w : World} {base : Nat} {v : Value} {n : Nat} {xs : List Value} (hown : w.ownsRow base e size v n xs)
    (cells : Array Value) (m : Nat) (hc : cells.size = m * size) (h1 : ∀ u ∈ cells, u.oneCell' = true) (h63 : n + m ≤ maxLen) (hbytes : (n + m) * bytes ≤ 140737488355328) (hbase : base ≤ w.heap.size) (ty : TypeId) (fr : Nat × Nat) :
    ∃ v' w', (Builtin.append_ #[t, t] ty #[v, .slice (some ⟨w.heap.size, 0, none⟩) m m]).run P (w.alloc (.cells cells e fr)) = .ok v' w' ∧ w'.ownsRow base e size v' (n + m) (xs ++ cells.toList) ∧
      Upd (fun k => v.ownBlock = some k) w w' ∧ (v'.ownBlock = v.ownBlock ∨ ∃ g, v'.ownBlock = some g ∧ w.heap.size < g) := by
  obtain ⟨v', w', hr, h2, h3, h4⟩ := append_own2 T (hown.alloc (.cells cells e fr)) ⟨w.heap.size, 0, none⟩ m m cells.toList (by simp [hc]) (fun j u hu => by
    have e1 : Addr.add ⟨w.heap.size, 0, none⟩ j = ⟨w.heap.size, j, none⟩ := by unfold Addr.add; split <;> simp_all
    rw [e1, cell_of_block heap_alloc_new]
    simpa using hu) (by simpa using h1) h63 hbytes (by simp; omega) ty
  refine ⟨v', w', hr, h2, ((Upd.refl _ w).alloc _).grown h3 (fun k hk => .inl hk), ?_⟩
  rcases h4 with h4 | ⟨g, hg, hs⟩
  · exact .inl h4
  · exact .inr ⟨g, hg, by simp at hs; omega⟩
theorem fold_nrm (y : List Sp) (l : List Sp) (hl : Nrm l) (hy : ∀ s ∈ y, s.Ok) : Nrm (y.foldl cutL l) ∧ (y.foldl cutL l).length ≤ l.length + y.length := by
  induction y generalizing l with
  | nil => exact ⟨hl, Nat.le_refl _⟩
  | cons s y ih =>
    have hs := hy s List.mem_cons_self
    have h1 := cutL_len hs hl
    obtain ⟨h2, h3⟩ := ih (cutL l s) (cutL_spec hl hs).1 fun t ht => hy t (List.mem_cons_of_mem _ ht)
    refine ⟨h2, ?_⟩
    rw [List.foldl_cons, List.length_cons]
    omega
end Go.Proofs.YtalhmpggpjbeaaaGreatDoor
namespace Go.Proofs.YtalhmpggpjbeaaaGreatDoor
open Go.RowKit Go.Deep

theorem takeP_wf : ∀ (l : List Sp) (n : Int), (∀ s ∈ l, s.Ok) → (∀ p ∈ (takeP l n).1, SpWf p) ∧ ∀ p ∈ (takeP l n).2, SpWf p
  | [], _, _ => ⟨fun _ h => (nomatch h), fun _ h => (nomatch h)⟩
  | s :: l, n, h => by
    have hs := h s List.mem_cons_self
    obtain ⟨i1, i2⟩ := takeP_wf l (max n 0 - min (max n 0) (s.to - s.fr)) fun t ht => h t (List.mem_cons_of_mem _ ht)
    unfold Sp.Ok at hs
    unfold takeP
    constructor
    · intro p hp
      rcases List.mem_cons.1 hp with rfl | hp
      · exact ⟨iwf (by dsimp only; omega), iwf (by dsimp only; omega), iwf (by dsimp only; omega)⟩
      · exact i1 p hp
    · intro p hp
      rcases List.mem_cons.1 hp with rfl | hp
      · exact ⟨iwf (by dsimp only; omega), iwf (by dsimp only; omega), iwf (by dsimp only; omega)⟩
      · exact i2 p hp
def TakePost (r : List Sp × List Sp) (w : World) (e : Ending) (w' : World) : Prop := ∃ v1 v2, e = .returned (.tuple #[v1, v2]) ∧ w'.ownsRow w.heap.size 126 3 v1 r.1.length (flatS r.1) ∧ w'.ownsRow w.heap.size 126 3 v2 r.2.length (flatS r.2) ∧ Upd (fun _ => False) w w'
end Go.Proofs.YtalhmpggpjbeaaaGreatDoor
