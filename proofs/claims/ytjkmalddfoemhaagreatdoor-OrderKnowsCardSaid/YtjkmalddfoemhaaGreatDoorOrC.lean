/- Walks: the proposals and voices of some entries (see). -/
import Derived.Test.YtjkmalddfoemhaaGreatDoorRm
import Derived.Test.YtjkmalddfoemhaaGreatDoorOrA
import Derived.Test.YtjkmalddfoemhaaGreatDoorOrB
namespace Go.Proofs.YtjkmalddfoemhaaGreatDoor
open Go.RowKit Go.Deep

theorem his_wf {w : World} {O : Nat → Prop} {b r : Nat} {hs : Hs} (h : IsHis w O b r hs) (m : Int) : EnWf (entryM hs m).1 ∧ EnOk (entryM hs m).1 := by
  obtain ⟨D, v, mb, l, L, H, rfl⟩ := h
  cases e : idxF (L.map NdC.n) m with
  | none =>
    have : (entryM (L.map NdC.n) m).1 = En.none := by unfold entryM; rw [e]
    rw [this]
    have z : I64 0 := by unfold I64; decide
    exact ⟨⟨⟨Nat.zero_le _, fun x h => nomatch h⟩, ⟨Nat.zero_le _, fun x h => nomatch h⟩, z, z, z⟩, ⟨z, z, z, z, z, z, z, z, z, fun x h => (nomatch h), fun x h => (nomatch h), Nat.zero_le _⟩⟩
  | some i =>
    obtain ⟨hi, e2⟩ := entry_at e
    rw [e2]
    have hl : i < L.length := by rw [List.length_map] at hi; exact hi
    have : (L.map NdC.n)[i].en = L[i].n.en := by rw [List.getElem_map]
    rw [this]
    exact ⟨(H.nodes _ (List.getElem_mem hl)).wf, (H.nodes _ (List.getElem_mem hl)).en⟩
theorem en_load1 {w : World} {b : Nat} {e : En} {a1 a2 a3 : Option Addr} {c1 c2 c3 : Nat} (h : w.heap[b]? = some (.cells (en13 e a1 a2 a3 c1 c2 c3) 72 (0, 0))) : (Instr.loadAt 72 (.pointer (some ⟨b, 0, none⟩))).run Tryz.prog w = .ok (enV e a1 a2 a3 c1 c2 c3) w := by
  obtain ⟨r0, r1, r2, r3, r4, r5, r6, r7, r8, r9, r10, r11, r12⟩ := cells13 h
  unfold enV
  unfold Instr.loadAt
  go_simp
theorem act_make (m : Int) (e : En) (a1 a2 a3 : Option Addr) (c1 c2 c3 : Nat) (z : Int) (w : World) : (Instr.build 184 #[(0, .int .i64 m), (1, enV e a1 a2 a3 c1 c2 c3), (2, .int .i64 z)]).run Tryz.prog w = .ok (.agg (AcC.mk ⟨m, e, z⟩ a1 a2 a3 c1 c2 c3).cells.toArray) w := by
  unfold enV AcC.cells en13
  unfold Instr.build
  go_simp
theorem act_slice (c : AcC) (w : World) : (Instr.buildSlice 165 1 #[(0, .agg c.cells.toArray)]).run Tryz.prog w = .ok (.slice (some ⟨w.heap.size, 0, none⟩) 1 1) (w.alloc (.cells c.cells.toArray 184 (0, 0))) := by
  unfold AcC.cells en13
  unfold Instr.buildSlice
  go_simp
theorem view_field1 (g : Nat) (w : World) : (Instr.fieldAt 167 (.pointer (some ⟨g, 0, none⟩)) 1).run Tryz.prog w = .ok (.pointer (some ⟨g, 3, none⟩)) w := by
  unfold Instr.fieldAt
  go_simp
theorem sl_load {w : World} {p : Addr} {a : Option Addr} {n c : Nat} (h : w.cell? p = some (.slice a n c)) : (Instr.loadAt 165 (.pointer (some p))).run Tryz.prog w = .ok (.slice a n c) w := by
  unfold Instr.loadAt
  go_simp
def SeePost (hs : Hs) (s : Stp) (ak : Option Addr) (ck : Nat) (ms : List Int) (w : World) (e : Ending) (w' : World) : Prop :=
  ∃ av cv L, e = .returned (viewV s ak ck av L.length cv) ∧ actsOf L = seeF hs ms ∧ ActsAt w' w.heap.size (.slice av L.length cv) L ∧ (∀ c ∈ L, I64 c.a.en.n ∧ I64 c.a.en.m ∧ I64 c.a.en.kind ∧ (Lit.int .i64 c.a.en.author).wf = true ∧ (Lit.int .i64 c.a.value).wf = true) ∧ Upd (fun _ => False) w w'
end Go.Proofs.YtjkmalddfoemhaaGreatDoor
