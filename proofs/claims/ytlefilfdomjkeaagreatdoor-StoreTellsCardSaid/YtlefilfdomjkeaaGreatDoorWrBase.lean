/- Layer 1: the library's calls, and the encodings of numbers and strings. -/
import Derived.Test.YtlefilfdomjkeaaGreatDoorFz
import Derived.Test.YtlefilfdomjkeaaGreatDoorWrModel
import Derived.Test.YtlefilfdomjkeaaGreatDoorShelf
import Derived.ShutString
import Derived.Lib.AppendIntMem
import Derived.Laws.Concat
import Derived.Deep.RegionHeld3
namespace Go.Proofs.YtlefilfdomjkeaaGreatDoor
open Go.RowKit Go.Deep

/-- What the library's variables hold. -/
structure Env (W : World) : Prop where
  tab : Lib.TabIs Tryz.prog W "internal/strconv.uint64pow10" .u64 Lib.pow10Tab
  syn : ∃ tp p, W.var? Tryz.prog "strconv.ErrSyntax" = some #[.iface tp p]
  rng : ∃ tp p, W.var? Tryz.prog "strconv.ErrRange" = some #[.iface tp p]

theorem var_keep {W W' : World} {S : Nat → Prop} {n : String} {g : Nat} {cs : Array Value} (hg : Tryz.prog.globalNamed n = some g) (h : W.var? Tryz.prog n = some cs) (u : Upd S W W') (hS : ¬ S g) : W'.var? Tryz.prog n = some cs := by
  unfold World.var? at *
  simp only [hg, Option.bind_some] at h ⊢
  have hlt : g < W.heap.size := by
    rcases Nat.lt_or_ge g W.heap.size with h' | h'
    · exact h'
    · rw [Array.getElem?_eq_none h'] at h; simp at h
  rw [u.block g hlt hS]
  exact h
theorem gTab : Tryz.prog.globalNamed "internal/strconv.uint64pow10" = some 3 := by kernel_rfl
theorem gSyn : Tryz.prog.globalNamed "strconv.ErrSyntax" = some 1 := by kernel_rfl
theorem gRng : Tryz.prog.globalNamed "strconv.ErrRange" = some 2 := by kernel_rfl
/-- The library's variables lie below block 100. -/
theorem Env.keep {W W' : World} {S : Nat → Prop} (h : Env W) (u : Upd S W W') (hS : ∀ k, S k → 6 ≤ k) : Env W' :=
  ⟨var_keep gTab h.tab u (fun h => absurd (hS _ h) (by decide)),
   let ⟨tp, p, hv⟩ := h.syn; ⟨tp, p, var_keep gSyn hv u (fun h => absurd (hS _ h) (by decide))⟩,
   let ⟨tp, p, hv⟩ := h.rng; ⟨tp, p, var_keep gRng hv u (fun h => absurd (hS _ h) (by decide))⟩⟩
theorem Env.keep0 {W W' : World} (h : Env W) (u : Upd (fun _ => False) W W') : Env W' := h.keep u fun _ h => h.elim
theorem upd_of_below {a b : World} (k : Below a.heap.size a b) : Upd (fun _ => False) a b := Upd.of_below k fun i hi _ => hi

theorem itoa_any (n : Int) (hn : I64 n) (w : World) (E : Env w) :
    Calls Tryz.prog 89 #[.int .i64 n] w fun e w' => e = .returned (.string ⟨(Lib.itoa n).toArray⟩) ∧ Upd (fun _ => False) w w' :=
  (Tryz.strconv_Itoa n hn.1 hn.2 w E.tab).mono fun _ _ ⟨he, k, os, hw⟩ => ⟨he, by rw [hw]; exact upd_of_below (Lib.below_grow _ w (Nat.le_refl _) k os)⟩

/-- Two strings together. -/
theorem add_lists (a b : List UInt8) (h : a.length + b.length ≤ 100000000) (w : World) : (Op.stringOp .add ⟨a.toArray⟩ ⟨b.toArray⟩).run Tryz.prog w = .ok (.string ⟨(a ++ b).toArray⟩) w := by
  rw [run_string_add_sum w _ _ (by simp [ByteArray.size]; omega), ByteArray.mk_append_mk]

theorem intE_any (n : Int) (hn : I64 n) (w : World) (E : Env w) :
    Calls Tryz.prog 82 #[.int .i64 n] w fun e w' => e = .returned (.string ⟨(intE n).toArray⟩) ∧ Upd (fun _ => False) w w' := by
  have HN := hid hn; have HE := hid E
  have a1 : ∀ w, (Op.stringOp .add ⟨(Lib.itoa n).toArray⟩ ⟨#[59]⟩).run Tryz.prog w = .ok (.string ⟨(Lib.itoa n ++ [59]).toArray⟩) w := fun w => add_lists _ [59] (by have := itoa_len hn; simp; omega) w
  clear hn E
  go_enter Tryz.func82, Tryz.ntmps82
  go_wp2_with fail
  refine (itoa_any n HN.out _ HE.out).mono ?_
  rintro e w1 ⟨rfl, u⟩
  have U := hid u; clear u
  go_wp2_with fail
  go_ret
  exact ⟨by unfold intE; rfl, U.out⟩

theorem numE_any (n : Int) (hn : I64 n) (w : World) (E : Env w) :
    Calls Tryz.prog 68 #[.int .i64 n] w fun e w' => e = .returned (.string ⟨(numE n).toArray⟩) ∧ Upd (fun _ => False) w w' := by
  have HN := hid hn; have HE := hid E
  clear hn E
  by_cases h0 : n < 0
  · have hf := hid (show numE n = [] by unfold numE; rw [if_pos h0])
    go_enter Tryz.func68, Tryz.ntmps68
    go_wp2_with fail
    go_ret
    exact ⟨by rw [hf.out]; rfl, Upd.refl _ _⟩
  · have hf := hid (show numE n = intE n by unfold numE; rw [if_neg h0])
    go_enter Tryz.func68, Tryz.ntmps68
    go_wp2_with fail
    refine (intE_any n HN.out _ HE.out).mono ?_
    rintro e w1 ⟨rfl, u⟩
    have U := hid u; clear u
    go_wp2_with fail
    go_ret
    exact ⟨by rw [hf.out]; rfl, U.out⟩

/-- The reader in block b. -/
def RdAt (w : World) (b : Nat) (r : RS) : Prop := w.heap[b]? = some (.cells #[.string ⟨r.rest.toArray⟩, .bool r.bad] 115 (0, 0))
theorem cells2 {w : World} {p : Nat} {a b : Value} {t : TypeId} (h : w.heap[p]? = some (.cells #[a, b] t (0, 0))) : w.cell? ⟨p, 0, none⟩ = some a ∧ w.cell? ⟨p, 1, none⟩ = some b ∧ ∀ o, w.frozen? ⟨p, o, none⟩ = false :=
  ⟨by rw [cell_of_block h]; rfl, by rw [cell_of_block h]; rfl, fun _ => frozen_of_block h⟩
theorem store2 {w : World} {p : Nat} {a b x y : Value} {t : TypeId} (h : w.heap[p]? = some (.cells #[a, b] t (0, 0))) :
    ((w.setCell ⟨p, 0, none⟩ x).setCell ⟨p, 1, none⟩ y).heap[p]? = some (.cells #[x, y] t (0, 0)) := by
  simp [heap_setCell, Obj.setAt, h]
theorem store0 {w : World} {p : Nat} {a b x : Value} {t : TypeId} (h : w.heap[p]? = some (.cells #[a, b] t (0, 0))) :
    (w.setCell ⟨p, 0, none⟩ x).heap[p]? = some (.cells #[x, b] t (0, 0)) := by
  simp [heap_setCell, Obj.setAt, h]
theorem RdAt.upd {S : Nat → Prop} {w w' : World} {b : Nat} {r : RS} (h : RdAt w b r) (u : Upd S w w') (hb : ¬ S b) : RdAt w' b r := (u.block b (heap_lt h) hb).trans h

theorem open_any (s : List UInt8) (w : World) :
    Calls Tryz.prog 59 #[.string ⟨s.toArray⟩] w fun e w' => e = .returned (.pointer (some ⟨w.heap.size, 0, none⟩)) ∧ RdAt w' w.heap.size ⟨s, false⟩ ∧ Upd (fun _ => False) w w' := by
  go_enter Tryz.func59, Tryz.ntmps59
  go_wp2_with fail
  go_ret
  exact ⟨rfl, heap_alloc_new, (Upd.refl _ _).alloc _⟩

theorem fail_any (b : Nat) (r : RS) (w : World) (h : RdAt w b r) :
    Calls Tryz.prog 87 #[.pointer (some ⟨b, 0, none⟩)] w fun e w' => e = .returned (.tuple #[]) ∧ RdAt w' b failS ∧ Upd (· = b) w w' := by
  obtain ⟨c0, c1, hf⟩ := cells2 h
  have hs := hid (store2 (x := .string ⟨#[]⟩) (y := .bool true) h)
  clear h
  go_enter Tryz.func87, Tryz.ntmps87
  go_wp2_with fail
  go_end0
  exact ⟨rfl, hs.out, ((Upd.refl _ _).at_ _ _).at_ _ _⟩

theorem hasPrefix_one (b c : UInt8) (l : List UInt8) : Lib.hasPrefix (b :: l) [c] = (b == c) := by
  simp only [Lib.hasPrefix, List.isPrefixOf, Bool.and_true]
  exact BEq.comm
end Go.Proofs.YtlefilfdomjkeaaGreatDoor
