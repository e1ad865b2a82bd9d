/- strings.Builder: copyCheck and WriteString, over the shelf's predicates. -/
/- Encodings of lists. -/
import Derived.Test.YtdcahnkcnbhknaaGreatDoorWrBase
import Derived.Lib.Walk
import Derived.Lib.Builder
import Derived.Lib.AppendStr
import Derived.Lib.UnsafeStr
import Derived.Lib.FrozenHead
import Derived.Laws.Externs
namespace Go.Proofs.YtdcahnkcnbhknaaGreatDoor
open Go.RowKit Go.Deep

theorem sizeB : (Tryz.prog.info? 71).map (·.size) = some 2 := by kernel_rfl
theorem liesB : liesAt Tryz.prog Tryz.prog.depth 71 (2 / Tryz.prog.cellsOf 71) 0 71 1 = true := by kernel_rfl
theorem info8 : (Tryz.prog.info? 5).map (fun i => (i.zero, i.size, i.bytes)) = some (some (.int .u8 0), 1, 1) := by kernel_rfl

set_option maxHeartbeats 1000000 in
set_option maxRecDepth 100000 in
theorem copyCheck_fresh (b : Nat) (w : World) (h0 : w.cell? ⟨b, 0, none⟩ = some (.pointer none)) (hsh : w.shape? b = some (71, 2)) (hfz : w.frozen? ⟨b, 0, none⟩ = false) :
    Calls Tryz.prog 109 #[.pointer (some ⟨b, 0, none⟩)] w fun e w' => e = .returned (.tuple #[]) ∧ w' = w.setCell ⟨b, 0, none⟩ (.pointer (some ⟨b, 0, none⟩)) := by
  obtain ⟨j, hj, hjs⟩ := Option.map_eq_some_iff.1 sizeB
  go_enter Tryz.func109, Tryz.ntmps109
  go_wp2
  rw [Lib.run_to_unsafe w ⟨b, 0, none⟩ Tryz.underlying68 Tryz.underlying115 hj (by rw [hjs]; decide) hsh (Nat.zero_lt_succ 1)]
  simp only [Result.andThen]
  rw [Oper.upon_value]
  go_wp2
  rw [run_callFunc_extern Tryz.func123 (by kernel_rfl) (by kernel_rfl) (by kernel_rfl) (e := Extern.AbiNoEscape.same) (by kernel_rfl)]
  rw [Lib.run_noEscape]
  simp only [Result.andThen]
  rw [Oper.upon_value]
  go_wp2
  rw [Lib.run_from_unsafe w ⟨b, 0, none⟩ Tryz.underlying115 Tryz.underlying68 hj hsh liesB]
  simp only [Result.andThen]
  rw [Oper.upon_value]
  go_wp2
  go_end0
  exact ⟨rfl, rfl⟩

set_option maxHeartbeats 1000000 in
set_option maxRecDepth 100000 in
theorem copyCheck_used (b : Nat) (w : World) (h0 : w.cell? ⟨b, 0, none⟩ = some (.pointer (some ⟨b, 0, none⟩))) :
    Calls Tryz.prog 109 #[.pointer (some ⟨b, 0, none⟩)] w fun e w' => e = .returned (.tuple #[]) ∧ w' = w := by
  obtain ⟨j, hj, _⟩ := Option.map_eq_some_iff.1 sizeB
  go_enter Tryz.func109, Tryz.ntmps109
  go_wp2
  rw [Lib.run_neq_ptr_same w _ Tryz.underlying68 hj]
  go_wp2
  go_end0
  exact ⟨rfl, rfl⟩

theorem copyCheck_any (B b : Nat) (bs : List Value) (w : World) (h : Lib.IsBuilder 71 5 B b bs w) :
    Calls Tryz.prog 109 #[.pointer (some ⟨b, 0, none⟩)] w fun e w' => e = .returned (.tuple #[]) ∧ (Lib.BuilderAt 71 5 B b (.pointer (some ⟨b, 0, none⟩)) bs w' ∧ Below B w w') := by
  rcases h with h | h
  · refine (copyCheck_fresh b w h.cell0 h.shape h.frozen0).mono ?_
    rintro e w' ⟨rfl, rfl⟩
    exact ⟨rfl, h.used _, (Below.refl B w).setCell (p := ⟨b, 0, none⟩) h.1 _⟩
  · refine (copyCheck_used b w h.cell0).mono ?_
    rintro e w' ⟨rfl, rfl⟩
    exact ⟨rfl, h, Below.refl B _⟩

set_option maxHeartbeats 2000000 in
set_option maxRecDepth 100000 in
theorem writeString_any (B b : Nat) (l s : List UInt8) (w : World) (h : Lib.IsBuilder 71 5 B b (Lib.byteCells l) w) (hlen : l.length + s.length ≤ 100000000) (hBw : B ≤ w.heap.size) :
    Calls Tryz.prog 74 #[.pointer (some ⟨b, 0, none⟩), .string ⟨s.toArray⟩] w fun e w' => e = .returned (.tuple #[.int .i64 s.length, .nilIface]) ∧ (Lib.IsBuilder 71 5 B b (Lib.byteCells (l ++ s)) w' ∧ Below B w w') := by
  obtain ⟨i0, hi, hz0, hz1, hz2⟩ := info_parts info8
  have hbl : (Lib.byteCells l).length = l.length := Lib.byteCells_length l
  have HBL := hid hbl; clear hbl
  go_enter Tryz.func74, Tryz.ntmps74
  go_wp2_with (go_at_call 109; refine (copyCheck_any B b _ _ h).mono ?_)
  rintro e w1 ⟨rfl, h1, hb1⟩
  obtain ⟨hB, v, hbk, hown, hne⟩ := h1
  have c0 : w1.cell? ⟨b, 0, none⟩ = some (.pointer (some ⟨b, 0, none⟩)) := by rw [Lib.cell_of_heap hbk]; rfl
  have c1 : w1.cell? ⟨b, 1, none⟩ = some v := by rw [Lib.cell_of_heap hbk]; rfl
  go_wp2_with (at_builtin; refine Lib.wpList_append_own_string _ rfl _ _ 69 9 rfl B 5 i0 Tryz.underlying69 Tryz.underlying9 hi hz0 hz1 hz2 _ _ _ rfl hown ⟨s.toArray⟩ rfl ?c3 ?c4 ?c5 ?_)
  case c3 => rw [HBL.out]; unfold maxLen; simp [ByteArray.size]; omega
  case c4 => rw [HBL.out]; simp [ByteArray.size]; omega
  case c5 => have := hb1.size; omega
  intro v' w2 hown' hgrow _
  have hlt : b < w1.heap.size := heap_lt hbk
  have hb2 : w2.heap[b]? = some (.cells #[.pointer (some ⟨b, 0, none⟩), v] 71 (0, 0)) := by
    rw [hgrow.block b hlt (fun e => hne e.symm)]
    exact hbk
  have d0 : w2.cell? ⟨b, 0, none⟩ = some (.pointer (some ⟨b, 0, none⟩)) := by rw [Lib.cell_of_heap hb2]; rfl
  have d1 : w2.cell? ⟨b, 1, none⟩ = some v := by rw [Lib.cell_of_heap hb2]; rfl
  have f1 : w2.frozen? ⟨b, 1, none⟩ = false := Lib.frozen_of_heap hb2 1
  obtain ⟨ao, n', cap, rfl⟩ : ∃ ao n' cap, v' = .slice ao n' cap := by
    rcases hown'.2 with ⟨hv, _⟩ | ⟨g, cap, cur, hv, _⟩
    · exact ⟨_, _, _, hv⟩
    · exact ⟨_, _, _, hv⟩
  go_wp2
  go_ret2
  refine ⟨rfl, .inr ?_, ?_⟩
  · rw [Lib.byteCells_append]
    exact Lib.BuilderAt.put (T := 71) (e := 5) hB hb2 (bs' := Lib.byteCells l ++ Lib.byteCells s) (by simpa [Lib.strCells_length, Lib.strCells_eq, Lib.byteCells_length] using hown') (by decide)
  · exact (hb1.grown hgrow (by have := hb1.size; omega) (fun k hk => (hown.lt k hk).1)).setCell (p := ⟨b, 1, none⟩) hB _

/-- The text that a builder holds. -/
theorem string_any (B b : Nat) (l : List UInt8) (w : World) (h : Lib.IsBuilder 71 5 B b (Lib.byteCells l) w) (hBw : B ≤ w.heap.size) :
    Calls Tryz.prog 79 #[.pointer (some ⟨b, 0, none⟩)] w fun e w' => e = .returned (.string ⟨l.toArray⟩) ∧ Below B w w' :=
  (Tryz.Builder_String_any_f B b l w (Lib.IsBuilderF.of h) hBw).mono fun _ _ ⟨he, _, hb⟩ => ⟨he, hb⟩
end Go.Proofs.YtdcahnkcnbhknaaGreatDoor
namespace Go.Proofs.YtdcahnkcnbhknaaGreatDoor
open Go.RowKit Go.Deep

def kStrs : Knd (List (List UInt8)) := kSlice (kMap kStr fun l => ⟨l.toArray⟩)
theorem reads_strs : Reads Tryz.prog 34 kStrs :=
  reads_slice Tryz.underlying34 (by kernel_rfl) (reads_map (fun x => x.data.toList) (fun _ => rfl) (reads_str Tryz.underlying9 (by kernel_rfl))) (by decide)
theorem str_cells {A : Nat → Prop} {w : World} {b o : Nat} {l : List (List UInt8)} (h : Elems (kMap kStr fun l => ⟨l.toArray⟩) A w b o l) {j : Nat} (hk : j < l.length) :
    w.cell? ⟨b, o + j, none⟩ = some (.string ⟨l[j].toArray⟩) := by
  obtain ⟨cs, h1, h2⟩ := h.cell hk
  obtain ⟨rfl, _⟩ := h1
  have := h2 0 (Nat.lt_succ_self 0)
  rw [show (kMap kStr fun l : List UInt8 => ⟨l.toArray⟩).size = 1 from rfl, Nat.mul_one] at this
  exact this
theorem rep_keep {α : Type} {K : Knd α} {v : List Value} {l : α} {w w' : World} (h : K.rep (· < w.heap.size) w v l) (u : Upd (fun _ => False) w w') : K.rep (· < w'.heap.size) w' v l :=
  K.mono (K.keep h (Same.of_upd u fun _ _ => id)) fun _ hx => Nat.lt_of_lt_of_le hx u.size
theorem rep_keep_ne {α : Type} {K : Knd α} {v : List Value} {l : α} {w w' : World} {S : Nat → Prop} {A : Nat → Prop} (h : K.rep A w v l) (u : Upd S w w') (hS : ∀ b, A b → ¬ S b) : K.rep A w' v l :=
  K.keep h (Same.of_upd u hS)

/-- What has been encoded of a list. -/
def preE {α : Type} (f : α → List UInt8) (l : List α) (k : Nat) : List UInt8 := Lib.itoa l.length ++ 91 :: ((l.take k).map f).flatten
theorem preE_zero {α : Type} (f : α → List UInt8) (l : List α) : preE f l 0 = Lib.itoa l.length ++ [91] := by simp [preE]
theorem preE_succ {α : Type} (f : α → List UInt8) (l : List α) {k : Nat} (hk : k < l.length) : preE f l (k + 1) = preE f l k ++ f l[k] := by
  unfold preE
  rw [List.take_succ_eq_append_getElem hk, List.map_append, List.flatten_append, List.map_singleton, List.flatten_singleton]
  simp only [List.append_assoc, List.cons_append]
theorem preE_last {α : Type} (f : α → List UInt8) (l : List α) : preE f l l.length ++ [93] = listE f l := by
  unfold preE listE
  rw [List.take_of_length_le (Nat.le_refl _)]
  simp
theorem preE_len {α : Type} (f : α → List UInt8) (l : List α) (k : Nat) : (preE f l k).length ≤ (listE f l).length := by
  have h : (l.map f).flatten = ((l.take k).map f).flatten ++ ((l.drop k).map f).flatten := by
    rw [← List.flatten_append, ← List.map_append, List.take_append_drop]
  unfold preE listE
  rw [h]
  simp <;> omega
theorem elem_len {α : Type} (f : α → List UInt8) (l : List α) {k : Nat} (hk : k < l.length) : (preE f l k).length + (f l[k]).length ≤ (listE f l).length := by
  have := preE_len f l (k + 1)
  rw [preE_succ f l hk, List.length_append] at this
  exact this

/-- A builder stays one while new blocks are laid. -/
theorem builder_keep {T e : TypeId} {B b : Nat} {bs : List Value} {w w' : World} (h : Lib.IsBuilder T e B b bs w) (u : Upd (fun _ => False) w w') : Lib.IsBuilder T e B b bs w' := by
  have aux : ∀ p, Lib.BuilderAt T e B b p bs w → Lib.BuilderAt T e B b p bs w' := fun p ⟨hB, v, hb, ho, hne⟩ => ⟨hB, v, (u.block b (heap_lt hb) id).trans hb, ownsRow_upd ho u (fun _ _ => id), hne⟩
  exact h.elim (fun h => .inl (aux _ h)) (fun h => .inr (aux _ h))

set_option maxHeartbeats 1000000 in
set_option maxRecDepth 100000 in
theorem listInt_any (v : Value) (l : List Int) (w : World) (E : Env w) (hl : kInts.rep (· < w.heap.size) w [v] l) (hwf : ∀ x ∈ l, I64 x) (hsum : (listE intE l).length ≤ 50000000) :
    Calls Tryz.prog 110 #[v, .func (.func 77) #[] #[]] w fun e w' => e = .returned (.string ⟨(listE intE l).toArray⟩) ∧ Upd (fun _ => False) w w' := by
  have HL := hid hl
  obtain ⟨a, cap, rfl, h1, h2, _⟩ := slice_open hl
  have h2 : cap ≤ 9223372036854775807 := h2
  have hin : I64 l.length := by unfold I64; omega
  have HI := hid hin; have HW := hid hwf; have HE := hid E; have HS := hid hsum
  have hit := itoa_len hin
  have a1 : ∀ w, (Op.stringOp .add ⟨(Lib.itoa l.length).toArray⟩ ⟨#[91]⟩).run Tryz.prog w = .ok (.string ⟨(Lib.itoa l.length ++ [91]).toArray⟩) w := fun w => add_lists _ [91] (by simp; omega) w
  have a2 : ∀ w, (Op.stringOp .add ⟨(preE intE l l.length).toArray⟩ ⟨#[93]⟩).run Tryz.prog w = .ok (.string ⟨(listE intE l).toArray⟩) w := fun w => by
    have := add_lists (preE intE l l.length) [93] (by have := preE_len intE l l.length; simp; omega) w
    rw [preE_last] at this
    exact this
  have A2 := hid a2
  have eg : ∀ args w, (callFunc 77 args).run Tryz.prog w = .ok (.enter 77 args) w := enters_of Tryz.func77 (by kernel_rfl) rfl
  have B0 := hid (Lib.fresh_isBuilder 71 5 w)
  have bl0 : Below w.heap.size w (w.alloc (.cells #[.pointer none, .slice none 0 0] 71)) := (Below.refl _ _).alloc (Nat.le_refl _) _
  have BL0 := hid bl0
  have HE0 := hid (E.keep0 (upd_of_below bl0))
  clear hl hin hwf E hsum hit a2 bl0
  go_enter Tryz.func110, Tryz.ntmps110
  go_wp2_with fail
  refine (itoa_any l.length HI.out _ HE0.out).mono ?_
  rintro e w1 ⟨rfl, u⟩
  have bl1 : Below w.heap.size w w1 := BL0.out.trans (u.below (by simp) fun _ h => h.elim)
  have hb1 : Lib.IsBuilder 71 5 w.heap.size w.heap.size (Lib.byteCells []) w1 := builder_keep B0.out u
  have B1 := hid hb1; have BL1 := hid bl1; have HZ := hid bl1.size
  clear u bl1 hb1 B0 BL0 HE0
  go_wp2_with fail
  refine (writeString_any w.heap.size w.heap.size [] (Lib.itoa l.length ++ [91]) _ B1.out (by have := itoa_len HI.out; simp; omega) HZ.out).mono ?_
  rintro e w2 ⟨rfl, hb, bl⟩
  rw [List.nil_append, ← preE_zero intE l] at hb
  have B2 := hid hb; have BL2 := hid (BL1.out.trans bl)
  clear hb bl B1 BL1 HZ
  go_wp2_with fail
  clear a1
  go_loopg [15] l.length (fun gg s wr => ∃ k : Nat, k ≤ l.length ∧ gg = l.length - k ∧ s = .int .i64 k ∧ Lib.IsBuilder 71 5 w.heap.size w.heap.size (Lib.byteCells (preE intE l k)) wr ∧ Below w.heap.size w wr)
  case atStart => exact ⟨0, Nat.zero_le _, rfl, rfl, B2.out, BL2.out⟩
  case round =>
    clear B2 BL2
    obtain ⟨k, hk, hg, rfl, hb, bl⟩ := hrel
    have HG := hid hg; have BB := hid hb; have BL := hid bl; have HZ := hid bl.size
    clear hg hb bl
    by_cases hlt : k < l.length
    · have hlti : (k : Int) < l.length := by omega
      obtain ⟨b0, o0, rfl, hb0, hel⟩ := slice_at HL.out (by omega)
      have c0 := int_cells hel hlt
      have c0 := cell_kept c0 (BL.out.block b0 hb0)
      have hx := HW.out l[k] (List.getElem_mem hlt)
      have HS1 := hid (preE_succ intE l hlt); have HS2 := hid (elem_len intE l hlt)
      have HX := hid hx
      clear hel hx
      generalize l[k] = x at *
      go_wp2_with fail
      refine (intE_any x HX.out _ (HE.out.keep0 (upd_of_below BL.out))).mono ?_
      rintro e w3 ⟨rfl, u⟩
      have hb3 := builder_keep BB.out u
      have bl3 := BL.out.trans (u.below HZ.out fun _ h => h.elim)
      have BB3 := hid hb3; have BL3 := hid bl3; have HZ3 := hid bl3.size
      clear u hb3 bl3 c0
      go_wp2_with fail
      refine (writeString_any w.heap.size w.heap.size (preE intE l k) (intE x) _ BB3.out (by have := HS.out; have := HS2.out; omega) HZ3.out).mono ?_
      rintro e w4 ⟨rfl, hb, bl⟩
      have BB4 := hid hb; have BL4 := hid (BL3.out.trans bl)
      clear hb bl
      go_wp2_with fail
      go_roundg (l.length - (k + 1))
      case measure => have := HG.out; omega
      case rel => exact ⟨k + 1, by omega, rfl, by go_num, by rw [HS1.out]; exact BB4.out, BL4.out⟩
    · obtain rfl : k = l.length := by omega
      have a2 := A2.out
      go_wp2_with fail
      refine (string_any w.heap.size w.heap.size _ _ BB.out HZ.out).mono ?_
      rintro e w3 ⟨rfl, bl⟩
      have BL3 := hid (BL.out.trans bl)
      clear bl
      go_wp2_with fail
      go_ret
      exact ⟨rfl, upd_of_below BL3.out⟩

theorem numsE_any (v : Value) (l : List Int) (w : World) (E : Env w) (hl : kInts.rep (· < w.heap.size) w [v] l) (hwf : ∀ x ∈ l, I64 x) (hsum : (listE intE l).length ≤ 50000000) :
    Calls Tryz.prog 76 #[v] w fun e w' => e = .returned (.string ⟨(numsE l).toArray⟩) ∧ Upd (fun _ => False) w w' := by
  have HL := hid hl; have HW := hid hwf; have HE := hid E; have HS := hid hsum
  clear hl hwf E hsum
  go_enter Tryz.func76, Tryz.ntmps76
  go_wp2_with fail
  refine (listInt_any v l _ HE.out HL.out HW.out HS.out).mono ?_
  rintro e w1 ⟨rfl, u⟩
  have U := hid u; clear u
  go_wp2_with fail
  go_ret
  exact ⟨rfl, U.out⟩

end Go.Proofs.YtdcahnkcnbhknaaGreatDoor
