/- SmsDelivers: the walk, as the card wants it. -/
import Derived.Test.YtabnniabofhihaaDoorSmDelW
namespace Go.Proofs.YtabnniabofhihaaDoor
open Go.RowKit Go.Deep

theorem reads_u16 : Reads Tryd.prog 30 kU16 := reads_slice Tryd.underlying30 (by kernel_rfl) (reads_int Tryd.underlying37 (by kernel_rfl)) (by decide)
theorem deliv_card (v0 : Value) (msgs : List (List UInt8)) (sz : Int) (v2 : Value) (order : List Int) (W : World) (E : Env W) (hz : 6 ≤ W.heap.size) (h0 : kStrs.rep (· < W.heap.size) W [v0] msgs) (hs : (Lit.int .u8 sz).wf = true) (h2 : kU16.rep (· < W.heap.size) W [v2] order) :
    Calls Tryd.prog 4 #[v0, .int .u8 sz, v2] W fun e w' => e = .returned (.bool true) ∧ Below W.heap.size W w' :=
  (deliv_walk msgs sz v0 v2 order W E hz h0 hs h2).mono fun _ _ h => ⟨h.1, h.2.below (Nat.le_refl _) fun _ h => h.elim⟩
end Go.Proofs.YtabnniabofhihaaDoor
