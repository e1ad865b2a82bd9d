/- Readers: numbers, strings, lists. -/
import Derived.Test.YtlefilfdomjkeaaGreatDoorWrC1
namespace Go.Proofs.YtlefilfdomjkeaaGreatDoor
open Go.RowKit Go.Deep

theorem number_at (b : Nat) (r : RS) (e : UInt8) (least c : Int) (w : World) (hc : (e.toNat : Int) = c) (E : Env w) (h : RdAt w b r) (hb : 6 ≤ b) (hl : r.rest.length ≤ 10000000) (hm : I64 least) :
    Calls Tryz.prog 75 #[.pointer (some ⟨b, 0, none⟩), .int .u8 c, .int .i64 least] w fun en w' => en = .returned (.int .i64 (numberF e least r).1) ∧ RdAt w' b (numberF e least r).2 ∧ Upd (· = b) w w' := by
  subst hc; exact number_any b r e least w E h hb hl hm
theorem numberF_ge (e : UInt8) (r : RS) : 0 ≤ (numberF e 0 r).1 := by
  rcases numberF_cases e 0 r with ⟨n, t, _, h2, _, _, h3⟩ | ⟨_, h2⟩
  · rw [h2]; exact h3
  · rw [h2]; exact Int.le_refl 0

theorem numR_any (b : Nat) (r : RS) (w : World) (E : Env w) (h : RdAt w b r) (hb : 6 ≤ b) (hl : r.rest.length ≤ 10000000) :
    Calls Tryz.prog 60 #[.pointer (some ⟨b, 0, none⟩)] w fun e w' => e = .returned (.int .i64 (numF r).1) ∧ RdAt w' b (numF r).2 ∧ Upd (· = b) w w' := by
  have HR := hid h; have HE := hid E
  clear h E
  go_enter Tryz.func60, Tryz.ntmps60
  go_wp2_with fail
  refine (number_at b r 59 0 59 _ (by decide) HE.out HR.out hb hl (by unfold I64; omega)).mono ?_
  rintro e w1 ⟨rfl, hr, u⟩
  have HQ := hid hr; have U := hid u
  clear hr u
  go_wp2_with fail
  go_ret
  exact ⟨rfl, HQ.out, U.out⟩

def doneF (r : RS) : Bool := !r.bad && r.rest.isEmpty
theorem rest_any (b : Nat) (r : RS) (w : World) (h : RdAt w b r) :
    Calls Tryz.prog 61 #[.pointer (some ⟨b, 0, none⟩)] w fun e w' => e = .returned (.string ⟨r.rest.toArray⟩) ∧ RdAt w' b ⟨[], r.bad⟩ ∧ Upd (· = b) w w' := by
  obtain ⟨c0, c1, hf⟩ := cells2 h
  have hs := hid (store0 (x := .string ⟨#[]⟩) h)
  clear h
  go_enter Tryz.func61, Tryz.ntmps61
  go_wp2_with fail
  go_ret
  exact ⟨rfl, hs.out, (Upd.refl _ _).at_ _ _⟩
end Go.Proofs.YtlefilfdomjkeaaGreatDoor
