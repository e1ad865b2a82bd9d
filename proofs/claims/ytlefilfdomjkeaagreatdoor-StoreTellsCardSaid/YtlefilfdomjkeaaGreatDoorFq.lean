/- A region that draws its order, whose operations read and whose callees may draw and lay blocks of their own: walked once, in the text's order. -/
import Derived.Test.YtlefilfdomjkeaaGreatDoorFz
namespace Go.Proofs.YtlefilfdomjkeaaGreatDoor
open Go.RowKit Go.Deep

/-- A world in which all that was is as it was. -/
structure UW (W : World) where
  w : World
  u : Upd (fun _ => False) W w
instance {W : World} : Inhabited (UW W) := ⟨⟨W, Upd.refl _ _⟩⟩
theorem UW.cell {W : World} {a : Addr} {v : Value} (h : W.cell? a = some v) (p : UW W) : p.w.cell? a = some v := cell_kept h (p.u.block _ (World.block_lt_of_cell? _ _ h) id)
theorem region_upd {P : Program} {id : Nat} {Q : Exit → Act → World → Prop} {a : Act} {w : World} {l : List Oper} (hm : P.follows .mixedOrders = true) (hB : Region.lexB .any l.toArray = true)
    (h : wpQuiet P l.toArray (fun w' => ∃ p : UW w, w' = p.w) (fun a' => ∀ w', (∃ p : UW w, w' = p.w) → Q .normal a' w') l a) : (Code.region id l.toArray true).wp P Q a w :=
  wp_region_quiet (C := fun w' => ∃ p : UW w, w' = p.w) hm hB ⟨⟨w.drew, (Upd.refl _ _).drew⟩, rfl⟩ (by simpa using h)
/-- A callee's contract, met in a world of the class. -/
theorem Calls.upd_of {P : Program} {f : FuncId} {args : Array Value} {w : World} {p : UW w} {v : Value} (h : Calls P f args p.w fun e w' => e = .returned v ∧ Upd (fun _ => False) p.w w') :
    Calls P f args p.w fun e w'' => e = .returned v ∧ ∃ q : UW w, w'' = q.w :=
  h.mono fun _ _ ⟨he, u⟩ => ⟨he, ⟨⟨_, p.u.trans u⟩, rfl⟩⟩
theorem Calls.upd_same {P : Program} {f : FuncId} {args : Array Value} {w : World} {p : UW w} {v : Value} (h : Calls P f args p.w fun e w' => e = .returned v ∧ p.w = w') :
    Calls P f args p.w fun e w'' => e = .returned v ∧ ∃ q : UW w, w'' = q.w :=
  h.mono fun _ _ ⟨he, u⟩ => ⟨he, ⟨p, u.symm⟩⟩
theorem uw_out {W w' : World} {Q : Prop} (h : ∃ p : UW W, w' = p.w) (k : ∀ w1, Upd (fun _ => False) W w1 → w' = w1 → Q) : Q := let ⟨p, e⟩ := h; k p.w p.u e
end Go.Proofs.YtlefilfdomjkeaaGreatDoor
