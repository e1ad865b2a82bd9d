/- A box whose parts come, whatever they are: the state of SmsRefuses. -/
import Derived.Test.YtabnniabofhihaaDoorSmForget
namespace Go.Proofs.YtabnniabofhihaaDoor
open Go.RowKit Go.Deep

def MsgsPost (bx : Bx) (w : World) (e : Ending) (w' : World) : Prop := ∃ v, e = .returned v ∧ kInts.rep (Fresh w w') w' [v] (idsF bx) ∧ Upd (fun _ => False) w w'
theorem partR_eq (s : Bs) : ∃ ix bs, partR s = .tuple #[.int .i64 (pidF s), .int .i64 ix, .int .i64 (pcntF s), .string bs, .int .i64 (perrF s)] := by
  unfold partR pidF pcntF perrF
  cases partF s with
  | none => exact ⟨_, _, rfl⟩
  | some p => exact ⟨_, _, rfl⟩
theorem pid_ok (s : Bs) : (Lit.int .i64 (pidF s)).wf = true := by
  have hm := maxMark_eq
  refine iwf ?_
  unfold pidF
  cases hp : partF s with
  | none => dsimp only; omega
  | some p =>
    obtain ⟨⟨h1, _⟩, h2, _⟩ := partF_some hp
    dsimp only; omega
theorem pcnt_ok (s : Bs) : 0 ≤ pcntF s ∧ pcntF s ≤ 2500 := by
  unfold pcntF
  cases hp : partF s with
  | none => dsimp only; omega
  | some p =>
    obtain ⟨⟨_, h1, h2, _⟩, _, h3⟩ := partF_some hp
    dsimp only; omega
structure RefSt (w : World) (b : Nat) (bx : Bx) (O : Nat → Prop) (wr : World) : Prop where
  box : IsBox wr O b bx
  own : ∀ k, O k → w.heap.size ≤ k
  upd : Upd (fun _ => False) w wr
section
variable {w w' wr : World} {b : Nat} {bx bx' : Bx} {O O' : Nat → Prop}
theorem RefSt.keep (h : RefSt w b bx O wr) (u : Upd (fun _ => False) wr w') : RefSt w b bx O w' := ⟨h.box.keep u, h.own, h.upd.trans u⟩
theorem RefSt.turn (h : RefSt w b bx O wr) (hb : IsBox w' O' b bx') (ho : ∀ k, O' k → O k ∨ wr.heap.size ≤ k) (u : Upd O wr w') : RefSt w b bx' O' w' :=
  ⟨hb, fun k hk => (ho k hk).elim (h.own k) fun h2 => Nat.le_trans h.upd.size h2, h.upd.comp u fun i hi hO => by have := h.own i hO; omega⟩
/-- A new slice of numbers stays while a box turns that lay there before. -/
theorem ints_stay {w0 w1 w2 : World} {v : Value} {l : List Int} (h : kInts.rep (Fresh w0 w1) w1 [v] l) (u : Upd O w1 w2) (ho : ∀ k, O k → k < w0.heap.size) : kInts.rep (· < w2.heap.size) w2 [v] l :=
  kInts.mono (kInts.keep h (Same.of_upd u fun k hk hO => by have := ho k hO; have := hk.1; omega)) fun g hg => Nat.lt_of_lt_of_le hg.2 u.size
theorem Upd.more {S : Nat → Prop} {a b : World} (h : Upd (fun _ => False) a b) : Upd S a b := h.mono fun _ h => h.elim
end
end Go.Proofs.YtabnniabofhihaaDoor
