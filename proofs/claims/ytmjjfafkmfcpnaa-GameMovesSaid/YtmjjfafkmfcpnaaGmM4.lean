/- GameMoves: the moves of a node, and one more, in a new row; the copy of the game with it. -/
import Derived.Test.YtmjjfafkmfcpnaaGmM3
namespace Go.Proofs.Ytmjjfafkmfcpnaa
open Go.RowKit Go.Deep

/-- The row of the moves l and m, new since w8. -/
def MvCut (w8 : World) (l : List Mv) (m : Mv) (g c : Nat) (w : World) : Prop :=
  w.ownsRow w8.heap.size 43 2 (.slice (some ⟨g, 0, none⟩) (l.length + 1) c) (l.length + 1) (pairs ((l ++ [m]).map mvCells)) ∧ Upd (fun _ => False) w8 w

/-- What m's element lies as. -/
def mvObj (m : Mv) : Obj := .cells #[.int .i64 m.to, .int .i64 m.gain] 43 (0, 0)
def mvNil : Obj := .cells #[] 43 (0, 0)

/-- The row's cells of the moves. -/
def MvAt (w : World) (b o : Nat) (l : List Mv) : Prop :=
  ∀ i (h : i < l.length), w.cell? ⟨b, o + i * 2, none⟩ = some (.int .i64 l[i].to) ∧ w.cell? ⟨b, o + i * 2 + 1, none⟩ = some (.int .i64 l[i].gain)
theorem MvAt.upd {w w' : World} {b o : Nat} {l : List Mv} (h : MvAt w b o l) (hb : b < w.heap.size) (u : Upd (fun _ => False) w w') : MvAt w' b o l := fun i hi =>
  ⟨cell_kept (h i hi).1 (u.block b hb id), cell_kept (h i hi).2 (u.block b hb id)⟩

/-- The empty row first, m's element behind the first append. -/
theorem chain_a {w : World} {b o c : Nat} {l : List Mv} (m : Mv) (h : MvAt w b o l) (hb : b < w.heap.size) (hl : l.length ≤ 2000) (hpos : 0 < l.length) :
    ∃ g1 c1 w1 g2 c2 w2, (Builtin.append_ #[39, 39] 39 #[.slice (some ⟨w.heap.size, 0, none⟩) 0 0, .slice (some ⟨b, o, none⟩) l.length c]).run Try.prog ((w.alloc mvNil).drew) = .ok (.slice (some ⟨g1, 0, none⟩) l.length c1) w1 ∧
      (Builtin.append_ #[39, 39] 39 #[.slice (some ⟨g1, 0, none⟩) l.length c1, .slice (some ⟨w1.heap.size, 0, none⟩) 1 1]).run Try.prog (w1.alloc (mvObj m)) = .ok (.slice (some ⟨g2, 0, none⟩) (l.length + 1) c2) w2 ∧
      Upd (fun _ => False) w w1 ∧ MvCut w l m g2 c2 w2 := by
  have u0 := ((Upd.refl (fun _ => False) w).alloc mvNil).drew
  obtain ⟨g1, c1, w1, r1, o1, u1, n1⟩ := clone_mvs (w := (w.alloc mvNil).drew) (base := w.heap.size) (c := c) heap_alloc_new (Nat.le_refl _) (by omega) hpos u0.size (h.upd hb u0)
  have u2 : Upd (fun _ => False) w w1 := u0.comp u1 fun i hi e => by omega
  have o1' := ownsRow_upd o1 ((Upd.refl (fun _ => False) w1).alloc (mvObj m)) fun _ _ => id
  obtain ⟨g2, c2, w2, r2, o2, u3⟩ := push_mv (m := m) o1' heap_alloc_new (by omega) (Nat.le_trans u2.size ((Upd.refl (fun _ => False) w1).alloc (mvObj m)).size)
  refine ⟨g1, c1, w1, g2, c2, w2, r1, r2, u2, o2, (u2.alloc _).comp u3 fun i hi e => ?_⟩
  have := (o1.lt g1 rfl).1
  omega

/-- Both blocks are laid ahead of the first append. -/
theorem chain_b {w w0 : World} {b o c gA gB : Nat} {l : List Mv} (m : Mv) (h : MvAt w b o l) (hb : b < w.heap.size) (hl : l.length ≤ 2000) (hpos : 0 < l.length) (u0 : Upd (fun _ => False) w w0) (hA : w0.heap[gA]? = some mvNil) (hB : w0.heap[gB]? = some (mvObj m)) (hgA : w.heap.size ≤ gA) (_ : w.heap.size ≤ gB) (hne : gB ≠ gA) :
    ∃ g1 c1 w1 g2 c2 w2, (Builtin.append_ #[39, 39] 39 #[.slice (some ⟨gA, 0, none⟩) 0 0, .slice (some ⟨b, o, none⟩) l.length c]).run Try.prog w0 = .ok (.slice (some ⟨g1, 0, none⟩) l.length c1) w1 ∧
      (Builtin.append_ #[39, 39] 39 #[.slice (some ⟨g1, 0, none⟩) l.length c1, .slice (some ⟨gB, 0, none⟩) 1 1]).run Try.prog w1 = .ok (.slice (some ⟨g2, 0, none⟩) (l.length + 1) c2) w2 ∧
      Upd (fun _ => False) w w1 ∧ MvCut w l m g2 c2 w2 := by
  obtain ⟨g1, c1, w1, r1, o1, u1, n1⟩ := clone_mvs (w := w0) (base := w.heap.size) (c := c) hA hgA (by omega) hpos u0.size (h.upd hb u0)
  have u2 : Upd (fun _ => False) w w1 := u0.comp u1 fun i hi e => by omega
  obtain ⟨g2, c2, w2, r2, o2, u3⟩ := push_mv (m := m) o1 ((u1.block gB (heap_lt hB) hne).trans hB) (by omega) u2.size
  refine ⟨g1, c1, w1, g2, c2, w2, r1, r2, u2, o2, u2.comp u3 fun i hi e => ?_⟩
  have := (o1.lt g1 rfl).1
  omega

/-- The game with one more move at a node. -/
theorem grown_cut {W w8 w2 : World} {base g8 cap8 a g c : Nat} {l : List Nd} {vs : List Value} {m : Mv} (hW : W.heap.size ≤ base) (u : Upd (fun _ => False) W w8)
    (o : w8.ownsRow base 41 2 (.slice (some ⟨g8, 0, none⟩) l.length cap8) l.length (pairs ((l.map fun n => Value.bool n.mine).zip vs))) (hlen : vs.length = l.length) (ha : a < l.length)
    (hr : ∀ i (h : i < vs.length) (h' : i < l.length), (kSlice kMv).rep (· < W.heap.size) W [vs[i]] l[i].moves) (n : MvCut w8 l[a].moves m g c w2) (hw : ∀ x ∈ l[a].moves ++ [m], (Lit.int .i64 x.to).wf = true ∧ (Lit.int .i64 x.gain).wf = true) :
    (kSlice kNd).rep (· < (w2.setCell ⟨g8, a * 2 + 1, none⟩ (.slice (some ⟨g, 0, none⟩) (l[a].moves.length + 1) c)).heap.size) (w2.setCell ⟨g8, a * 2 + 1, none⟩ (.slice (some ⟨g, 0, none⟩) (l[a].moves.length + 1) c)) [.slice (some ⟨g8, 0, none⟩) l.length cap8] (l.set a ⟨l[a].mine, l[a].moves ++ [m]⟩) ∧
      Upd (· = g8) w8 (w2.setCell ⟨g8, a * 2 + 1, none⟩ (.slice (some ⟨g, 0, none⟩) (l[a].moves.length + 1) c)) := by
  obtain ⟨n1, n2⟩ := n
  have hg8 := o.lt g8 rfl
  have hgg := n1.lt g rfl
  have us : Upd (· = g8) w2 (w2.setCell ⟨g8, a * 2 + 1, none⟩ (.slice (some ⟨g, 0, none⟩) (l[a].moves.length + 1) c)) := (Upd.refl _ w2).at_ _ _
  have hsz := us.size
  have ut := u.trans n2
  refine ⟨?_, (n2.mono fun _ h => h.elim).trans us⟩
  refine (kSlice kNd).mono (grown_rep (ownsRow_upd o n2 fun _ _ => id) hlen ha (fun i h h' hne => ?_) ?_) fun b hb => Nat.lt_of_lt_of_le hb us.size
  · refine (kSlice kMv).mono ((kSlice kMv).keep (hr i h h') fun b hb hlt => ?_) fun b hb => Nat.lt_of_lt_of_le hb ut.size
    exact (us.block b (Nat.lt_of_lt_of_le hb ut.size) (by omega)).trans (ut.block b hb id)
  · have hm := mvRow_rep (A := fun b => w8.heap.size ≤ b ∧ b < w2.heap.size) (w := w2) (v := .slice (some ⟨g, 0, none⟩) (l[a].moves.length + 1) c) (l := l[a].moves ++ [m]) (by rw [List.length_append]; exact n1) hw fun b hb => n1.lt b hb
    exact (kSlice kMv).mono ((kSlice kMv).keep hm fun b hb hlt => us.block b hb.2 (by omega)) fun b hb => hb.2
/-- The first append and the second one, by the numbers of their blocks. -/
def Ap1 (mb mo n cm : Nat) (w : World) (gA g c : Nat) (w' : World) : Prop :=
  (Builtin.append_ #[39, 39] 39 #[.slice (some ⟨gA, 0, none⟩) 0 0, .slice (some ⟨mb, mo, none⟩) n cm]).run Try.prog w = .ok (.slice (some ⟨g, 0, none⟩) n c) w'
def Ap2 (n : Nat) (w : World) (g1 c1 gB g c : Nat) (w' : World) : Prop :=
  (Builtin.append_ #[39, 39] 39 #[.slice (some ⟨g1, 0, none⟩) n c1, .slice (some ⟨gB, 0, none⟩) 1 1]).run Try.prog w = .ok (.slice (some ⟨g, 0, none⟩) (n + 1) c) w'
theorem ap1 {mb mo n cm : Nat} {w : World} {gA g c : Nat} {w' : World} (h : Ap1 mb mo n cm w gA g c w') : (Builtin.append_ #[39, 39] 39 #[.slice (some ⟨gA, 0, none⟩) 0 0, .slice (some ⟨mb, mo, none⟩) n cm]).run Try.prog w = .ok (.slice (some ⟨g, 0, none⟩) n c) w' := h
theorem ap2 {n : Nat} {w : World} {g1 c1 gB g c : Nat} {w' : World} (h : Ap2 n w g1 c1 gB g c w') : (Builtin.append_ #[39, 39] 39 #[.slice (some ⟨g1, 0, none⟩) n c1, .slice (some ⟨gB, 0, none⟩) 1 1]).run Try.prog w = .ok (.slice (some ⟨g, 0, none⟩) (n + 1) c) w' := h
theorem alloc2 (W : World) (o1 o2 : Obj) : ((W.alloc o1).alloc o2).heap[W.heap.size + 1]? = some o2 ∧ ((W.alloc o1).alloc o2).heap[W.heap.size]? = some o1 := by
  constructor
  · show ((W.heap.push o1).push o2)[W.heap.size + 1]? = some o2
    rw [show W.heap.size + 1 = (W.heap.push o1).size by simp]
    exact Array.getElem?_push_size
  · show ((W.heap.push o1).push o2)[W.heap.size]? = some o1
    simp [Array.getElem?_push]
theorem cell_row {w w2 : World} {base g cap a : Nat} {l : List Nd} {vs : List Value} (o : w.ownsRow base 41 2 (.slice (some ⟨g, 0, none⟩) l.length cap) l.length (pairs ((l.map fun n => Value.bool n.mine).zip vs))) (ha : a < l.length) (hv : vs.length = l.length) (u : Upd (fun _ => False) w w2) :
    w2.cell? ⟨g, a * 2 + 1, none⟩ = some (vs[a]'(by omega)) ∧ w2.frozen? ⟨g, a * 2 + 1, none⟩ = false := by
  have o2 := ownsRow_upd o u fun _ _ => id
  obtain ⟨p0, p1⟩ := pairs_at ((l.map fun n => Value.bool n.mine).zip vs) a (by simp; omega)
  rw [List.getElem_zip] at p1
  have h := o2.cells (g := g) rfl (a * 2 + 1) _ p1
  have e1 : Addr.add ⟨g, 0, none⟩ (a * 2 + 1) = ⟨g, a * 2 + 1, none⟩ := by unfold Addr.add; split <;> simp_all
  rw [e1] at h
  refine ⟨h, ?_⟩
  rcases o2.2 with ⟨h, _⟩ | ⟨g', cap', cur, he, _, hg, _⟩
  · cases h
  · injection he with e1 e2 e3
    injection e1 with e1
    injection e1 with e1 _ _
    subst e1
    exact frozen_of_block hg
end Go.Proofs.Ytmjjfafkmfcpnaa
