/- SmsResumes: the walk, as the card wants it. -/
import Derived.Test.YtabnniabofhihaaDoorSmResumesW
namespace Go.Proofs.YtabnniabofhihaaDoor
open Go.RowKit Go.Deep

theorem reads_u16s : Reads Tryd.prog 30 kU16s := reads_slice Tryd.underlying30 (by kernel_rfl) (reads_int Tryd.underlying37 (by kernel_rfl)) (by decide)
theorem reads_bools : Reads Tryd.prog 36 kBools := reads_slice Tryd.underlying36 (by kernel_rfl) (reads_bool Tryd.underlying4 (by kernel_rfl)) (by decide)
theorem resumes_card (msg : List UInt8) (sz : Int) (v2 : Value) (first : List Int) (v3 : Value) (lost : List Bool) (W : World) (E : Env W) (hz : 6 ≤ W.heap.size) (_ : msg.length ≤ maxLen) (hs : (Lit.int .u8 sz).wf = true)
    (h2 : kU16s.rep (· < W.heap.size) W [v2] first) (h3 : kBools.rep (· < W.heap.size) W [v3] lost) :
    Calls Tryd.prog 5 #[.string ⟨msg.toArray⟩, .int .u8 sz, v2, v3] W fun e w' => e = .returned (.bool true) ∧ Below W.heap.size W w' :=
  (resumes_walk msg sz v2 v3 first lost W E hz hs h2 h3).mono fun _ _ h => ⟨h.1, h.2.below (Nat.le_refl _) fun _ h => h.elim⟩
end Go.Proofs.YtabnniabofhihaaDoor
