/- How games read in memory. -/
import Derived.Test.YtmjjfafkmfcpnaaFz
import Derived.Test.YtmjjfafkmfcpnaaGmPlain2
namespace Go.Proofs.Ytmjjfafkmfcpnaa
open Go.RowKit

def kMv : Knd Mv := kMap (kPair (kInt .i64) (kInt .i64)) fun m => (m.to, m.gain)
def kNd : Knd Nd := kMap (kPair kBool (kSlice kMv)) fun n => (n.mine, n.moves)

theorem reads_mv : Reads Try.prog 43 kMv :=
  reads_map (fun x => ⟨x.1, x.2⟩) (fun _ => rfl) (reads_struct Try.underlying43 (tail_cons rfl rfl (reads_int Try.underlying3 (by kernel_rfl)) (tail_last rfl rfl (reads_int Try.underlying3 (by kernel_rfl)) (by kernel_rfl))))
theorem reads_mvs : Reads Try.prog 39 (kSlice kMv) := reads_slice Try.underlying39 (by kernel_rfl) reads_mv (by decide)
theorem reads_nd : Reads Try.prog 41 kNd :=
  reads_map (fun x => ⟨x.1, x.2⟩) (fun _ => rfl) (reads_struct Try.underlying41 (tail_cons rfl rfl (reads_bool Try.underlying4 (by kernel_rfl)) (tail_last rfl rfl reads_mvs (by kernel_rfl))))
theorem reads_nds : Reads Try.prog 22 (kSlice kNd) := reads_slice Try.underlying22 (by kernel_rfl) reads_nd (by decide)

theorem mv_rep {A : Nat → Prop} {w : World} {cs : List Value} {m : Mv} (h : kMv.rep A w cs m) : cs = [.int .i64 m.to, .int .i64 m.gain] ∧ (Lit.int .i64 m.to).wf = true ∧ (Lit.int .i64 m.gain).wf = true := by
  obtain ⟨_, _, rfl, ⟨rfl, h1⟩, ⟨rfl, h2⟩⟩ := h
  exact ⟨rfl, h1, h2⟩
/-- The cells of node i: whose turn it is, and its moves. -/
theorem nd_cells {A : Nat → Prop} {w : World} {b o : Nat} {l : List Nd} (h : Elems kNd A w b o l) {i : Nat} (hi : i < l.length) :
    ∃ v, w.cell? ⟨b, o + i * 2, none⟩ = some (.bool l[i].mine) ∧ w.cell? ⟨b, o + i * 2 + 1, none⟩ = some v ∧ (kSlice kMv).rep A w [v] l[i].moves := by
  obtain ⟨cs, h1, h2⟩ := h.cell hi
  obtain ⟨c, d, rfl, h3, h4⟩ := h1
  have h3 : c = [.bool l[i].mine] := h3
  subst h3
  have hl : d.length = 1 := (kSlice kMv).len h4
  obtain ⟨v, rfl⟩ : ∃ v, d = [v] := by
    match d, hl with
    | [v], _ => exact ⟨v, rfl⟩
  exact ⟨v, h2 0 (by decide), h2 1 (by decide), h4⟩
/-- The cells of move k. -/
theorem mv_cells {A : Nat → Prop} {w : World} {b o : Nat} {l : List Mv} (h : Elems kMv A w b o l) {k : Nat} (hk : k < l.length) :
    w.cell? ⟨b, o + k * 2, none⟩ = some (.int .i64 l[k].to) ∧ w.cell? ⟨b, o + k * 2 + 1, none⟩ = some (.int .i64 l[k].gain) := by
  obtain ⟨cs, h1, h2⟩ := h.cell hk
  obtain ⟨rfl, _, _⟩ := mv_rep h1
  exact ⟨h2 0 (by decide), h2 1 (by decide)⟩
theorem geti_at' {l : List Int} {i : Nat} (h : i < l.length) : l[i] = geti l i := by
  unfold geti; rw [List.getD_eq_getElem?_getD, List.getElem?_eq_getElem h]; rfl
end Go.Proofs.Ytmjjfafkmfcpnaa
