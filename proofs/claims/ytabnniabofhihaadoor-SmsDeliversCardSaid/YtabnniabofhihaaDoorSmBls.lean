/- Slices of truth values. -/
import Derived.Test.YtabnniabofhihaaDoorSmDel
import Derived.Test.YtabnniabofhihaaDoorSmFew
namespace Go.Proofs.YtabnniabofhihaaDoor
open Go.RowKit Go.Deep

def kBls : Knd (List Bool) := kSlice kBool
theorem bls_cells {A : Nat → Prop} {w : World} {b o : Nat} {l : List Bool} (h : Elems kBool A w b o l) {j : Nat} (hk : j < l.length) : w.cell? ⟨b, o + j, none⟩ = some (.bool l[j]) := by
  obtain ⟨cs, h1, h2⟩ := h.cell hk
  have h1 : cs = [.bool l[j]] := h1
  subst h1
  have := h2 0 (Nat.lt_succ_self 0)
  rw [show kBool.size = 1 from rfl, Nat.mul_one] at this
  exact this
end Go.Proofs.YtabnniabofhihaaDoor
