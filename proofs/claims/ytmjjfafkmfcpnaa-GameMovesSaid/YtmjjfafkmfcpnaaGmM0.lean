/- GameMoves: rows of pairs of cells. -/
import Derived.Test.YtmjjfafkmfcpnaaGmB1
import Derived.Test.YtmjjfafkmfcpnaaGmR2
namespace Go.Proofs.Ytmjjfafkmfcpnaa
open Go.RowKit Go.Deep

theorem elemMv : ElemTy Try.prog 39 43 2 16 := .mk' Try.underlying39 (z := .agg #[.int .i64 0, .int .i64 0]) (by kernel_rfl) (by rfl) (by decide)
theorem elemNd : ElemTy Try.prog 22 41 2 32 := .mk' Try.underlying22 (z := .agg #[.bool false, .slice none 0 0]) (by kernel_rfl) (by rfl) (by decide)

/-- Pairs of cells, one after the other. -/
def pairs (ps : List (Value × Value)) : List Value := ps.flatMap fun p => [p.1, p.2]
theorem pairs_snoc (ps : List (Value × Value)) (p : Value × Value) : pairs (ps ++ [p]) = pairs ps ++ [p.1, p.2] := by
  unfold pairs; rw [List.flatMap_append]; simp
theorem pairs_len (ps : List (Value × Value)) : (pairs ps).length = ps.length * 2 := by
  induction ps with
  | nil => rfl
  | cons p r ih => unfold pairs at ih ⊢; rw [List.flatMap_cons, List.length_append, ih]; simp; omega
theorem pairs_at : ∀ (ps : List (Value × Value)) (i : Nat) (h : i < ps.length), (pairs ps)[i * 2]? = some ps[i].1 ∧ (pairs ps)[i * 2 + 1]? = some ps[i].2
  | p :: r, 0, _ => ⟨rfl, rfl⟩
  | p :: r, i + 1, h => by
    have hi : i < r.length := by simpa using h
    obtain ⟨h1, h2⟩ := pairs_at r i hi
    have e : pairs (p :: r) = [p.1, p.2] ++ pairs r := rfl
    rw [e]
    constructor
    · rw [show (i + 1) * 2 = i * 2 + 2 by omega, List.getElem?_append_right (by simp)]
      simpa using h1
    · rw [show (i + 1) * 2 + 1 = i * 2 + 1 + 2 by omega, List.getElem?_append_right (by simp)]
      simpa using h2

def negMv (m : Mv) : Mv := ⟨m.to, -m.gain⟩
def mvCells (m : Mv) : Value × Value := (.int .i64 m.to, .int .i64 m.gain)
theorem mvRow_rep {A : Nat → Prop} {w : World} {base : Nat} {v : Value} {l : List Mv} (h : w.ownsRow base 43 2 v l.length (pairs (l.map mvCells))) (hw : ∀ m ∈ l, (Lit.int .i64 m.to).wf = true ∧ (Lit.int .i64 m.gain).wf = true) (hA : ∀ g, v.ownBlock = some g → A g) :
    (kSlice kMv).rep A w [v] l := by
  refine ownsRow_rep (K := kMv) (e := 43) (xs := pairs (l.map mvCells)) h (fun i hi => ?_) hA
  obtain ⟨h1, h2⟩ := hw l[i] (List.getElem_mem hi)
  obtain ⟨p1, p2⟩ := pairs_at (l.map mvCells) i (by simpa using hi)
  rw [List.getElem_map] at p1 p2
  refine ⟨[.int .i64 l[i].to] ++ [.int .i64 l[i].gain], ⟨_, _, rfl, ⟨rfl, h1⟩, ⟨rfl, h2⟩⟩, fun j hj => ?_⟩
  have : j = 0 ∨ j = 1 := by have : kMv.size = 2 := rfl; omega
  rcases this with rfl | rfl
  · exact p1
  · exact p2
/-- A row of nodes: whose turn it is, and the slice of its moves, which lies apart from the row. -/
theorem ndRow_rep {A : Nat → Prop} {w : World} {base : Nat} {v : Value} {l : List Nd} {svs : List Value} (h : w.ownsRow base 41 2 v l.length (pairs ((l.map fun n => Value.bool n.mine).zip svs))) (hl : svs.length = l.length)
    (hr : ∀ i (hi : i < l.length), (kSlice kMv).rep A w [svs[i]] l[i].moves) (hA : ∀ g, v.ownBlock = some g → A g) :
    (kSlice kNd).rep A w [v] l := by
  refine ownsRow_rep (K := kNd) (e := 41) (xs := pairs ((l.map fun n => Value.bool n.mine).zip svs)) h (fun i hi => ?_) hA
  obtain ⟨p1, p2⟩ := pairs_at ((l.map fun n => Value.bool n.mine).zip svs) i (by simp; omega)
  rw [List.getElem_zip, List.getElem_map] at p1 p2
  refine ⟨[.bool l[i].mine] ++ [svs[i]], ⟨[.bool l[i].mine], [svs[i]], rfl, (show [Value.bool l[i].mine] = [.bool l[i].mine] from rfl), hr i hi⟩, fun j hj => ?_⟩
  have : j = 0 ∨ j = 1 := by have : kNd.size = 2 := rfl; omega
  rcases this with rfl | rfl
  · exact p1
  · exact p2
end Go.Proofs.Ytmjjfafkmfcpnaa
