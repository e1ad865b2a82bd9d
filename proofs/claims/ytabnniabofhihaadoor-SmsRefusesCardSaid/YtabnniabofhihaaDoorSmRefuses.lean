/- SmsRefuses: the walk, as the card wants it. -/
import Derived.Test.YtabnniabofhihaaDoorSmRefW
namespace Go.Proofs.YtabnniabofhihaaDoor
open Go.RowKit Go.Deep

theorem refuses_card (v0 : Value) (l : List (List UInt8)) (W : World) (E : Env W) (hz : 6 ≤ W.heap.size) (h0 : kStrs.rep (· < W.heap.size) W [v0] l) :
    Calls Tryd.prog 6 #[v0] W fun e w' => e = .returned (.bool true) ∧ Below W.heap.size W w' :=
  (refuses_walk l v0 W E hz h0).mono fun _ _ h => ⟨h.1, h.2.below (Nat.le_refl _) fun _ h => h.elim⟩
end Go.Proofs.YtabnniabofhihaaDoor
