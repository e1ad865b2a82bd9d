/- GameMoves: the copy with one more move at a node. -/
import Derived.Test.YtmjjfafkmfcpnaaGmM1
namespace Go.Proofs.Ytmjjfafkmfcpnaa
open Go.RowKit Go.Deep

theorem grown_rep {w : World} {base g cap a : Nat} {l : List Nd} {vs : List Value} {nv : Value} {mv : List Mv} (ho : w.ownsRow base 41 2 (.slice (some ⟨g, 0, none⟩) l.length cap) l.length (pairs ((l.map fun n => Value.bool n.mine).zip vs))) (hlen : vs.length = l.length) (ha : a < l.length)
    (hr : ∀ i (h : i < vs.length) (h' : i < l.length), i ≠ a → (kSlice kMv).rep (· < w.heap.size) (w.setCell ⟨g, a * 2 + 1, none⟩ nv) [vs[i]] l[i].moves) (hn : (kSlice kMv).rep (· < w.heap.size) (w.setCell ⟨g, a * 2 + 1, none⟩ nv) [nv] mv) :
    (kSlice kNd).rep (· < w.heap.size) (w.setCell ⟨g, a * 2 + 1, none⟩ nv) [.slice (some ⟨g, 0, none⟩) l.length cap] (l.set a ⟨l[a].mine, mv⟩) := by
  rcases ho.2 with ⟨h, _⟩ | ⟨g', cap', cur, he, _, hg, hn2, hc, hs, ht⟩
  · cases h
  · injection he with e1 e2 e3
    injection e1 with e1
    injection e1 with e1 _ _
    subst e1 e3
    have hb : (w.setCell ⟨g, a * 2 + 1, none⟩ nv).heap[g]? = some (.cells (cur.setIfInBounds (a * 2 + 1) nv) 41 (0, 0)) := by
      simp [heap_setCell, Obj.setAt, hg]
    have hat : ∀ j, j < l.length * 2 → cur[j]? = (pairs ((l.map fun n => Value.bool n.mine).zip vs))[j]? := fun j hj => by
      rw [← ht, List.getElem?_take, if_pos hj, Array.getElem?_toList]
    have := nds_of_block (l := l.set a ⟨l[a].mine, mv⟩) (o := 0) (cap := cap) hb (A := (· < w.heap.size)) (heap_lt hg) (by simpa using hn2) hc fun i hi => by
      have hil : i < l.length := by simpa using hi
      obtain ⟨p0, p1⟩ := pairs_at ((l.map fun n => Value.bool n.mine).zip vs) i (by simp; omega)
      rw [List.getElem_zip, List.getElem_map] at p0 p1
      by_cases e : i = a
      · subst e
        rw [List.getElem_set_self]
        refine ⟨?_, nv, ?_, hn⟩
        · rw [Nat.zero_add, Array.getElem?_setIfInBounds_ne (by omega), hat _ (by omega)]; exact p0
        · rw [Nat.zero_add, Array.getElem?_setIfInBounds_self_of_lt (by rw [hs]; omega)]
      · rw [List.getElem_set_ne (Ne.symm e)]
        refine ⟨?_, vs[i]'(by omega), ?_, hr i (by omega) hil e⟩
        · rw [Nat.zero_add, Array.getElem?_setIfInBounds_ne (by omega), hat _ (by omega)]; exact p0
        · rw [Nat.zero_add, Array.getElem?_setIfInBounds_ne (by omega), hat _ (by omega)]; exact p1
    rw [List.length_set] at this
    exact this
end Go.Proofs.Ytmjjfafkmfcpnaa
