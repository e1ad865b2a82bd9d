/- What the rows list of the library's variables, as the walks want it; and a world that holds it. -/
import Derived.Test.YtlefilfdomjkeaaGreatDoorStT
import Derived.Stop.LaidErr
import Derived.Lib.LaidTab
import Derived.LaidLaws
import Derived.Deep.DeepHandedRow
import Derived.Deep.DeepWitnessRowRef
namespace Go.Proofs.YtlefilfdomjkeaaGreatDoor
open Go.RowKit Go.Deep

theorem gTabType : (Tryz.prog.globals[3]?).map (·.type) = some 180 := by kernel_rfl
theorem gSynType : (Tryz.prog.globals[1]?).map (·.type) = some 126 := by kernel_rfl
theorem gRngType : (Tryz.prog.globals[2]?).map (·.type) = some 126 := by kernel_rfl
theorem cellsTab : Tryz.prog.cellsOf 180 = 20 := by kernel_rfl
theorem cellsU64 : Tryz.prog.cellsOf 141 = 1 := by kernel_rfl
theorem cellsErr : Tryz.prog.cellsOf 178 = 1 := by kernel_rfl
theorem cellsStr : Tryz.prog.cellsOf 9 = 1 := by kernel_rfl
theorem star : "*" ++ "errors.errorString" = "*errors.errorString" := by decide
theorem rowErr (u : TypeId) (h : Tryz.prog.typeName? 3 u = some "*errors.errorString") : u = 176 :=
  typeName_ptr_named (nm := "errors.errorString") (by rw [star]; kernel_rfl) (by kernel_rfl) (by decide) u (by rw [star]; exact h)

theorem env_of {W : World} (h : laidMetH Tryz.prog Rows.storeTellsRow.laid W) : Env W := by
  have h0 : laidMet Tryz.prog Rows.storeTellsRow.laid W := h
  have h1 := h0.tail.tail
  obtain ⟨_, _, hr, _, _, _⟩ := laid_sentinel h1.tail gRng gRngType Tryz.underlying126 rowErr Tryz.underlying176 Tryz.underlying178 rfl rfl Tryz.underlying9 cellsErr cellsStr
  obtain ⟨_, _, hs, _, _, _⟩ := laid_sentinel h1.tail.tail gSyn gSynType Tryz.underlying126 rowErr Tryz.underlying176 Tryz.underlying178 rfl rfl Tryz.underlying9 cellsErr cellsStr
  exact ⟨Lib.tabIs_of_head gTab gTabType Tryz.underlying180 Tryz.underlying141 cellsU64 cellsTab h1, ⟨_, _, hs⟩, ⟨_, _, hr⟩⟩

abbrev synS : ByteArray := { data := #[105, 110, 118, 97, 108, 105, 100, 32, 115, 121, 110, 116, 97, 120] }
abbrev rngS : ByteArray := { data := #[118, 97, 108, 117, 101, 32, 111, 117, 116, 32, 111, 102, 32, 114, 97, 110, 103, 101] }
/-- So many blocks has the settled world. -/
noncomputable def low : Nat := (World.holding Tryz.prog default ⟨#[], #[], []⟩).heap.size
def litCells (k : IntKind) (l : List Int) : Array Value := (l.map fun z => Value.int k z).toArray
def pow10 : List Int := [1, 10, 100, 1000, 10000, 100000, 1000000, 10000000, 100000000, 1000000000, 10000000000, 100000000000, 1000000000000, 10000000000000, 100000000000000, 1000000000000000, 10000000000000000, 100000000000000000, 1000000000000000000, 10000000000000000000]
def bruijn32 : List Int := [0, 1, 28, 2, 29, 14, 24, 3, 30, 22, 20, 15, 25, 17, 4, 8, 31, 27, 13, 23, 21, 19, 16, 7, 26, 12, 18, 6, 11, 5, 10, 9]
def bruijn64 : List Int := [0, 1, 56, 2, 57, 49, 28, 3, 61, 58, 42, 50, 38, 29, 17, 4, 62, 47, 59, 36, 45, 43, 51, 22, 53, 39, 33, 30, 24, 18, 12, 5, 63, 55, 48, 27, 60, 41, 37, 16, 46, 35, 44, 21, 52, 32, 23, 11, 54, 26, 40, 15, 34, 20, 31, 10, 25, 14, 19, 9, 13, 8, 7, 6]
def putCells (cs : Array Value) : Obj → Obj
  | .cells _ t frozen => .cells cs t frozen
  | o => o
/-- The settled world, the listed variables as their initialisers lay them. -/
noncomputable def laidWorld (os : Os) : World :=
  let w0 := World.holding Tryz.prog os ⟨#[.cells #[.string synS] 178, .cells #[.string rngS] 178], #[], []⟩
  { w0 with heap := ((((w0.heap.modify 1 (putCells #[.iface 176 (.pointer (some ⟨low, 0, none⟩))])).modify 2 (putCells #[.iface 176 (.pointer (some ⟨low + 1, 0, none⟩))])).modify 3 (putCells (litCells .u64 pow10))).modify 4 (putCells (litCells .u8 bruijn32))).modify 5 (putCells (litCells .u8 bruijn64)) }
theorem laid_met (os : Os) (args : Array Value) : laidMet Tryz.prog Rows.storeTellsRow.laid ((laidWorld os).forCall (fun _ _ => 0) ⟨#[], args, []⟩).memory :=
  laidMet_of_run' 8 (by kernel_rfl) (by kernel_rfl)
theorem var_lt {W : World} {n : String} {g : Nat} {cs : Array Value} (hg : Tryz.prog.globalNamed n = some g) (h : W.var? Tryz.prog n = some cs) : g < W.heap.size := by
  unfold World.var? at h
  simp only [hg, Option.bind_some] at h
  rcases Nat.lt_or_ge g W.heap.size with h' | h'
  · exact h'
  · rw [Array.getElem?_eq_none h'] at h; simp at h
theorem g64 : Tryz.prog.globalNamed "math/bits.deBruijn64tab" = some 5 := by kernel_rfl
theorem size_of {W : World} (h : laidMetH Tryz.prog Rows.storeTellsRow.laid W) : 6 ≤ W.heap.size := by
  have h0 : laidMet Tryz.prog Rows.storeTellsRow.laid W := h
  obtain ⟨ps, ⟨g, t, cs, fuel, p, q, hg, _, hv, _⟩, _⟩ := h0.tail
  obtain rfl := Option.some.inj (g64.symm.trans hg)
  exact var_lt g64 hv
end Go.Proofs.YtlefilfdomjkeaaGreatDoor
