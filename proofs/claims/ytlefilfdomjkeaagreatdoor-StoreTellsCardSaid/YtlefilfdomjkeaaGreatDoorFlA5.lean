/- The walks of New, Few, do, reads and erased. -/
import Derived.Test.YtlefilfdomjkeaaGreatDoorFlA4
namespace Go.Proofs.YtlefilfdomjkeaaGreatDoor
open Go.RowKit

set_option maxRecDepth 100000 in
set_option maxHeartbeats 400000 in
theorem new_bad (b g : Int) (w : World) (h : NewBad b g) :
    Calls Tryz.prog 7 #[.int .i64 b, .int .i64 g] w fun e w' => e = .returned (.tuple #[.pointer none, .int .i64 1]) ∧ w = w' := by
  have h' : b < 1 ∨ (1 ≤ b ∧ 32 < b) ∨ (1 ≤ b ∧ b ≤ 32 ∧ g < 1) ∨ (1 ≤ b ∧ b ≤ 32 ∧ 1 ≤ g ∧ 16 < g) := by unfold NewBad at h; omega
  clear h
  rcases h' with h | ⟨h1, h2⟩ | ⟨h1, h2, h3⟩ | ⟨h1, h2, h3, h4⟩
  all_goals
    go_enter Tryz.func7, Tryz.ntmps7
    go_wp2_with fail
    go_ret2
    exact ⟨rfl, rfl⟩

theorem info61 : (Tryz.prog.info? 102).map (fun i => (i.zero, i.size, i.bytes)) = some (some (.agg #[.pointer none, .pointer none, .pointer none, .pointer none, .pointer none, .pointer none, .pointer none, .pointer none, .pointer none, .pointer none, .pointer none, .pointer none, .pointer none, .pointer none, .pointer none, .pointer none, .int .i64 0]), 17, 136) := by kernel_rfl

theorem cells61 (n k i : Nat) (hi : i < n) (hk : k < 17) : (madeCells (Value.cells (.agg #[.pointer none, .pointer none, .pointer none, .pointer none, .pointer none, .pointer none, .pointer none, .pointer none, .pointer none, .pointer none, .pointer none, .pointer none, .pointer none, .pointer none, .pointer none, .pointer none, .int .i64 0])) (n * 17))[i * 17 + k]? =
    some (if k = 16 then .int .i64 0 else .pointer none) := by
  have e : (Value.cells (.agg #[.pointer none, .pointer none, .pointer none, .pointer none, .pointer none, .pointer none, .pointer none, .pointer none, .pointer none, .pointer none, .pointer none, .pointer none, .pointer none, .pointer none, .pointer none, .pointer none, .int .i64 0])) =
    #[.pointer none, .pointer none, .pointer none, .pointer none, .pointer none, .pointer none, .pointer none, .pointer none, .pointer none, .pointer none, .pointer none, .pointer none, .pointer none, .pointer none, .pointer none, .pointer none, .int .i64 0] := by rfl
  rw [e]
  have hlt : i * 17 + k < n * 17 := by omega
  unfold madeCells
  rw [Array.getElem?_map, Array.getElem?_range, if_pos hlt]
  simp only [Option.map_some]
  congr 1
  have em : (i * 17 + k) % 17 = k := by omega
  show (#[Value.pointer none, .pointer none, .pointer none, .pointer none, .pointer none, .pointer none, .pointer none, .pointer none, .pointer none, .pointer none, .pointer none, .pointer none, .pointer none, .pointer none, .pointer none, .pointer none, .int .i64 0] : Array Value)[(i * 17 + k) % 17]! = _
  rw [em]
  have : k = 0 ∨ k = 1 ∨ k = 2 ∨ k = 3 ∨ k = 4 ∨ k = 5 ∨ k = 6 ∨ k = 7 ∨ k = 8 ∨ k = 9 ∨ k = 10 ∨ k = 11 ∨ k = 12 ∨ k = 13 ∨ k = 14 ∨ k = 15 ∨ k = 16 := by omega
  rcases this with rfl | rfl | rfl | rfl | rfl | rfl | rfl | rfl | rfl | rfl | rfl | rfl | rfl | rfl | rfl | rfl | rfl <;> rfl

/-- A new flash: its two blocks are new. -/
def NewPost (nb np : Nat) (w : World) (e : Ending) (w' : World) : Prop :=
  ∃ p q, w.heap.size ≤ p ∧ w.heap.size ≤ q ∧ e = .returned (.tuple #[.pointer (some ⟨p, 0, none⟩), .int .i64 0]) ∧ FlashAt w' p q (Fl.new nb np) ∧ Upd (fun _ => False) w w'

set_option maxRecDepth 100000 in
set_option maxHeartbeats 400000 in
theorem new_ok (nb np : Nat) (w : World) (h1 : 1 ≤ nb ∧ nb ≤ 32) (h2 : 1 ≤ np ∧ np ≤ 16) :
    Calls Tryz.prog 7 #[.int .i64 nb, .int .i64 np] w (NewPost nb np w) := by
  obtain ⟨i0, hi, hz0, hz1, hz2⟩ := info_parts info61
  obtain ⟨w1, hrun, hown, hgr⟩ := run_make_full (P := Tryz.prog) w w.heap.size 63 102 i0 _ 17 Tryz.underlying63 hi hz0 hz1 .i64 .i64 nb (by rw [hz2]; omega) (by unfold maxLen; omega) (Nat.le_refl _)
  obtain ⟨hlen, ⟨he, _⟩ | ⟨g, cap, cur, hv, hg, hcur, hc1, hc2, hc3, hc4⟩⟩ := hown
  · cases he
  injection hv with e1 e2 e3
  injection e1 with e1
  injection e1 with e1 _ _
  subst e1 e3
  have hcu : cur.toList = (madeCells (Value.cells (.agg #[.pointer none, .pointer none, .pointer none, .pointer none, .pointer none, .pointer none, .pointer none, .pointer none, .pointer none, .pointer none, .pointer none, .pointer none, .pointer none, .pointer none, .pointer none, .pointer none, .int .i64 0])) (nb * 17)).toList := by
    rw [← hc4, List.take_of_length_le (by simp; omega)]
  have hcu : cur = madeCells _ (nb * 17) := Array.toList_inj.1 hcu
  have u1 : Upd (fun _ => False) w w1 := ⟨hgr.os, hgr.tape, hgr.output, hgr.size, fun k hk _ => hgr.block k hk (by simp)⟩
  have H1 := hid h1; have H2 := hid h2
  have U1 := hid u1
  have HC := hid hcur
  have CU := hid hcu
  have a1 : (1 : Int) ≤ nb := by omega
  have a2 : (nb : Int) ≤ 32 := by omega
  have a3 : (1 : Int) ≤ np := by omega
  have a4 : (np : Int) ≤ 16 := by omega
  clear h1 h2 u1 hcur hcu hgr hc4 hc3 hc2 hc1 hg hlen hi hz0 hz1 hz2
  go_enter Tryz.func7, Tryz.ntmps7
  go_wp2_with fail
  go_ret2
  unfold NewPost
  have hq1 := heap_lt HC.out
  refine ⟨w1.heap.size, w.heap.size, U1.out.size, Nat.le_refl _, rfl, ⟨⟨nb, ?_⟩, ⟨cur, ?_, ?_⟩, Fl.new_ok H1.out H2.out⟩, U1.out.alloc _⟩
  · exact heap_alloc_new
  · rw [heap_alloc_old hq1]; exact HC.out
  · intro i hi
    rw [CU.out]
    refine ⟨by rw [cells61 nb 16 i hi (by omega)]; rfl, fun k hk => ⟨_, cells61 nb k i hi (by omega), ?_⟩⟩
    rw [if_neg (by omega)]; rfl

/-- An operation. -/
structure OpM where
  kind : Int
  block : Int
  page : Int
  s : ByteArray
  n : Int
  keep : Int
def OpM.val (o : OpM) : Value := .agg #[.int .i64 o.kind, .int .i64 o.block, .int .i64 o.page, .string o.s, .int .i64 o.n, .int .i64 o.keep]
structure OpM.Ok (o : OpM) : Prop where
  n : o.n ≤ 9223372036854775807
  s : o.s.size ≤ maxLen

def Fl.act (F : Fl) (o : OpM) : Fl × Int :=
  if o.kind = 0 then F.program o.block o.page o.s else if o.kind = 1 then F.erase o.block else if o.kind = 2 then (F.lose o.n, 0) else
  if o.kind = 3 then (F.arm o.n o.keep, 0) else if o.kind = 4 then (F.crash, 0) else if o.kind = 5 then (F.start, 0) else (F, 0)
def ActPost (p q : Nat) (F : Fl) (o : OpM) (w : World) (e : Ending) (w' : World) : Prop :=
  e = .returned (.int .i64 (F.act o).2) ∧ FlashAt w' p q (F.act o).1 ∧ Upd (fun k => k = p ∨ k = q) w w'

theorem toList_ne {a b : ByteArray} (h : a ≠ b) : (a.toList = b.toList) = False := by
  rw [eq_iff_iff]
  constructor
  · intro e
    rw [ByteArray.toList_eq, ByteArray.toList_eq] at e
    exact h (WideShapes.bytes_inj e)
  · exact False.elim

end Go.Proofs.YtlefilfdomjkeaaGreatDoor
