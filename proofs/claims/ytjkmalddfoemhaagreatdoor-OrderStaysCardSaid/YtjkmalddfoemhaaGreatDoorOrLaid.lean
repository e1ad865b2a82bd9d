/- What the rows list of the library's variables, as the walks want it; and a world that holds it. -/
import Derived.Test.YtjkmalddfoemhaaGreatDoorRm
import Derived.Stop.LaidErr
import Derived.Lib.LaidTab
import Derived.LaidLaws
import Derived.Deep.DeepHandedRow
import Derived.Deep.DeepWitnessRowRef
namespace Go.Proofs.YtjkmalddfoemhaaGreatDoor
open Go.RowKit Go.Deep

theorem gTabType : (Tryz.prog.globals[4]?).map (·.type) = some 313 := by kernel_rfl
theorem gSynType : (Tryz.prog.globals[2]?).map (·.type) = some 206 := by kernel_rfl
theorem gRngType : (Tryz.prog.globals[3]?).map (·.type) = some 206 := by kernel_rfl
theorem cellsTab : Tryz.prog.cellsOf 313 = 20 := by kernel_rfl
theorem cellsU64 : Tryz.prog.cellsOf 213 = 1 := by kernel_rfl
theorem cellsErr : Tryz.prog.cellsOf 319 = 1 := by kernel_rfl
theorem cellsStr : Tryz.prog.cellsOf 9 = 1 := by kernel_rfl
theorem star : "*" ++ "errors.errorString" = "*errors.errorString" := by decide
theorem rowErr (u : TypeId) (h : Tryz.prog.typeName? 3 u = some "*errors.errorString") : u = 317 :=
  typeName_ptr_named (nm := "errors.errorString") (by rw [star]; kernel_rfl) (by kernel_rfl) (by decide) u (by rw [star]; exact h)

theorem env_of {W : World} (h : laidMetH Tryz.prog Rows.orderCameRow.laid W) : Env W := by
  have h0 : laidMet Tryz.prog Rows.orderCameRow.laid W := h
  have h1 := h0.tail.tail
  obtain ⟨_, _, hr, _, _, _⟩ := laid_sentinel h1.tail gRng gRngType Tryz.underlying206 rowErr Tryz.underlying317 Tryz.underlying319 rfl rfl Tryz.underlying9 cellsErr cellsStr
  obtain ⟨_, _, hs, _, _, _⟩ := laid_sentinel h1.tail.tail gSyn gSynType Tryz.underlying206 rowErr Tryz.underlying317 Tryz.underlying319 rfl rfl Tryz.underlying9 cellsErr cellsStr
  exact ⟨Lib.tabIs_of_head gTab gTabType Tryz.underlying313 Tryz.underlying213 cellsU64 cellsTab h1, ⟨_, _, hs⟩, ⟨_, _, hr⟩⟩

theorem gUses : Tryz.prog.globalNamed "stokvel/entry.uses" = some 0 := by kernel_rfl
theorem gUsesType : (Tryz.prog.globals[0]?).map (·.type) = some 269 := by kernel_rfl
theorem cells21 : Tryz.prog.cellsOf 269 = 21 := by kernel_rfl
def strData {H : Type} (zs : List (List UInt8)) : DataW H := .agg (zs.map fun z => .lit (.string z))
theorem cells_of_strs {H : Type} {enc : TypeId × Value → H} {P : Program} {w : World} {base : Nat} {sp : Nat → Bool} {held : Bool} {fuel : Nat} {t e : TypeId} {n : Nat} {cs : List Value} {zs : List (List UInt8)} {p : List MemPlace}
    (ht : P.underlying t = some (.array n e)) (he : P.underlying e = some .string) (hce : P.cellsOf e = 1) (hct : P.cellsOf t = n)
    (h : DataW.trod enc P w base sp held fuel t cs = some (strData zs, p)) : ∀ i (hi : i < zs.length), cs[i]? = some (.string ⟨zs[i].toArray⟩) := by
  cases fuel with
  | zero => simp [DataW.trod] at h
  | succ fuel =>
    simp only [DataW.trod, ht, hce, hct, Nat.mul_one] at h
    split at h
    · rename_i hl
      obtain ⟨xs, hm, hx⟩ := Option.map_eq_some_iff.1 h
      have hxs : xs.map (·.1) = zs.map fun z => (DataW.lit (.string z) : DataW H) := by
        have := congrArg Prod.fst hx
        simpa [strData] using this
      have hxl : xs.length = n := by simpa using Lib.mapM_length hm
      have hzl : zs.length = n := by
        have := congrArg List.length hxs
        simp at this
        omega
      intro i hi
      obtain ⟨b, hb, hf⟩ := Lib.mapM_at hm i i (by simp [show i < n by omega])
      obtain ⟨z, hc, hd, _⟩ := DataW.trod_string he hf
      have h1 : cs[i]? = some (.string z) := by
        have := congrArg (·[0]?) hc
        simpa [List.getElem?_take, List.getElem?_drop] using this
      have h2 : (xs.map (·.1))[i]? = some b.1 := by simp [hb]
      rw [hxs, List.getElem?_map, List.getElem?_eq_getElem hi] at h2
      simp only [Option.map_some, Option.some.injEq] at h2
      rw [h1]
      rw [hd] at h2
      simp at h2
      rw [h2]
    · cases h
theorem uses_of {W : World} (h : laidMetH Tryz.prog Rows.orderCameRow.laid W) : UsesIn W := by
  have h0 : laidMet Tryz.prog Rows.orderCameRow.laid W := h
  obtain ⟨ps, ⟨g', t', cs, fuel, p, q, hg', ht', hvar, hd, _, _⟩, _⟩ := h0.tail.tail.tail.tail.tail
  obtain rfl := Option.some.inj (gUses.symm.trans hg')
  obtain rfl := Option.some.inj (gUsesType.symm.trans ht')
  intro k hk
  have h1 := cells_of_strs (zs := useTab) Tryz.underlying269 Tryz.underlying9 cellsStr cells21 hd k hk
  rw [World.var?_cell gUses hvar k]
  simpa using h1
abbrev synS : ByteArray := { data := #[105, 110, 118, 97, 108, 105, 100, 32, 115, 121, 110, 116, 97, 120] }
abbrev rngS : ByteArray := { data := #[118, 97, 108, 117, 101, 32, 111, 117, 116, 32, 111, 102, 32, 114, 97, 110, 103, 101] }
noncomputable def low : Nat := (World.holding Tryz.prog default ⟨#[], #[], []⟩).heap.size
def litCells (k : IntKind) (l : List Int) : Array Value := (l.map fun z => Value.int k z).toArray
def pow10 : List Int := [1, 10, 100, 1000, 10000, 100000, 1000000, 10000000, 100000000, 1000000000, 10000000000, 100000000000, 1000000000000, 10000000000000, 100000000000000, 1000000000000000, 10000000000000000, 100000000000000000, 1000000000000000000, 10000000000000000000]
def bruijn32 : List Int := [0, 1, 28, 2, 29, 14, 24, 3, 30, 22, 20, 15, 25, 17, 4, 8, 31, 27, 13, 23, 21, 19, 16, 7, 26, 12, 18, 6, 11, 5, 10, 9]
def bruijn64 : List Int := [0, 1, 56, 2, 57, 49, 28, 3, 61, 58, 42, 50, 38, 29, 17, 4, 62, 47, 59, 36, 45, 43, 51, 22, 53, 39, 33, 30, 24, 18, 12, 5, 63, 55, 48, 27, 60, 41, 37, 16, 46, 35, 44, 21, 52, 32, 23, 11, 54, 26, 40, 15, 34, 20, 31, 10, 25, 14, 19, 9, 13, 8, 7, 6]
def putCells (cs : Array Value) : Obj → Obj
  | .cells _ t frozen => .cells cs t frozen
  | o => o
noncomputable def laidWorld (os : Os) : World :=
  let w0 := World.holding Tryz.prog os ⟨#[.cells #[.string synS] 319, .cells #[.string rngS] 319], #[], []⟩
  { w0 with heap := (((((w0.heap.modify 2 (putCells #[.iface 317 (.pointer (some ⟨low, 0, none⟩))])).modify 3 (putCells #[.iface 317 (.pointer (some ⟨low + 1, 0, none⟩))])).modify 4 (putCells (litCells .u64 pow10))).modify 5 (putCells (litCells .u8 bruijn32))).modify 6 (putCells (litCells .u8 bruijn64))).modify 0 (putCells (useTab.map fun l => Value.string ⟨l.toArray⟩).toArray) }
theorem laid_met (os : Os) (args : Array Value) : laidMet Tryz.prog Rows.orderCameRow.laid ((laidWorld os).forCall (fun _ _ => 0) ⟨#[], args, []⟩).memory :=
  laidMet_of_run' 8 (by kernel_rfl) (by kernel_rfl)
theorem var_lt {W : World} {n : String} {g : Nat} {cs : Array Value} (hg : Tryz.prog.globalNamed n = some g) (h : W.var? Tryz.prog n = some cs) : g < W.heap.size := by
  unfold World.var? at h
  simp only [hg, Option.bind_some] at h
  rcases Nat.lt_or_ge g W.heap.size with h' | h'
  · exact h'
  · rw [Array.getElem?_eq_none h'] at h; simp at h
theorem g64 : Tryz.prog.globalNamed "math/bits.deBruijn64tab" = some 6 := by kernel_rfl
theorem size_of {W : World} (h : laidMetH Tryz.prog Rows.orderCameRow.laid W) : 6 ≤ W.heap.size := by
  have h0 : laidMet Tryz.prog Rows.orderCameRow.laid W := h
  obtain ⟨ps, ⟨g, t, cs, fuel, p, q, hg, _, hv, _⟩, _⟩ := h0.tail
  obtain rfl := Option.some.inj (g64.symm.trans hg)
  have := var_lt g64 hv
  omega
end Go.Proofs.YtjkmalddfoemhaaGreatDoor
