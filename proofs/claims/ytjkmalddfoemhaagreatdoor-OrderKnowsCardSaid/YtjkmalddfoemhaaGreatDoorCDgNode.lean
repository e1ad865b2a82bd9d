/- A node read out of its row and laid in a block of its own: one value. -/
import Derived.Test.YtjkmalddfoemhaaGreatDoorJ9
namespace Go.Proofs.YtjkmalddfoemhaaGreatDoor
open Go.RowKit Go.Deep

theorem node_index {g cap n k : Nat} (hk : k < n) (_ : n ≤ cap) (_ : cap ≤ 9223372036854775807) (w : World) : (Instr.indexAt 128 (.slice (some ⟨g, 0, none⟩) n cap) (.int .i64 k)).run Tryz.prog w = .ok (.pointer (some ⟨g, k * 18, none⟩)) w := by
  have hki : (k : Int) < n := by omega
  unfold Instr.indexAt
  go_simp
theorem node_load {w : World} {g o : Nat} {c : NdC} (h : NodeAt w g o c) : (Instr.loadAt 136 (.pointer (some ⟨g, o, none⟩))).run Tryz.prog w = .ok (.agg c.cells.toArray) w := by
  obtain ⟨n0, n1, n2, n3, n4, n5, n6, n7, n8, n9, n10, n11, n12, n13, n14, n15, n16, n17⟩ := h
  unfold NdC.cells en13
  unfold Instr.loadAt
  go_simp
def nodeZero : Array Value := #[.int .i64 0, .string ⟨#[]⟩, .int .i64 0, .int .i64 0, .int .i64 0, .int .i64 0, .slice none 0 0, .int .i64 0, .int .i64 0, .int .i64 0, .int .i64 0, .int .i64 0, .int .i64 0, .slice none 0 0, .slice none 0 0, .string ⟨#[]⟩, .int .i64 0, .slice none 0 0]
theorem node_alloc (w : World) : (Instr.alloc 136 true (.tuple #[])).run Tryz.prog w = .ok (.pointer (some ⟨w.heap.size, 0, none⟩)) (w.alloc (.cells nodeZero 136 (0, 0))) := by
  unfold Instr.alloc nodeZero
  go_simp
theorem node_store (c : NdC) (w : World) : (Instr.storeAt 136 (.pointer (some ⟨w.heap.size, 0, none⟩)) (.agg c.cells.toArray)).run Tryz.prog (w.alloc (.cells nodeZero 136 (0, 0))) = .ok () (w.alloc (.cells c.cells.toArray 136 (0, 0))) := by
  unfold NdC.cells en13 nodeZero
  unfold Instr.storeAt
  go_simp
end Go.Proofs.YtjkmalddfoemhaaGreatDoor
