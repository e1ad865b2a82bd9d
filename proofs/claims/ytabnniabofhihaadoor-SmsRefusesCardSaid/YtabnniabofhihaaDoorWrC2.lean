/- Readers: numbers, strings, lists. -/
import Derived.Test.YtabnniabofhihaaDoorWrC1
namespace Go.Proofs.YtabnniabofhihaaDoor
open Go.RowKit Go.Deep

theorem number_at (b : Nat) (r : RS) (e : UInt8) (least c : Int) (w : World) (hc : (e.toNat : Int) = c) (E : Env w) (h : RdAt w b r) (hb : 6 ≤ b) (hl : r.rest.length ≤ 10000000) (hm : I64 least) :
    Calls Tryd.prog 34 #[.pointer (some ⟨b, 0, none⟩), .int .u8 c, .int .i64 least] w fun en w' => en = .returned (.int .i64 (numberF e least r).1) ∧ RdAt w' b (numberF e least r).2 ∧ Upd (· = b) w w' := by
  subst hc; exact number_any b r e least w E h hb hl hm
theorem numberF_ge (e : UInt8) (r : RS) : 0 ≤ (numberF e 0 r).1 := by
  rcases numberF_cases e 0 r with ⟨n, t, _, h2, _, _, h3⟩ | ⟨_, h2⟩
  · rw [h2]; exact h3
  · rw [h2]; exact Int.le_refl 0

theorem intR_any (b : Nat) (r : RS) (w : World) (E : Env w) (h : RdAt w b r) (hb : 6 ≤ b) (hl : r.rest.length ≤ 10000000) :
    Calls Tryd.prog 48 #[.pointer (some ⟨b, 0, none⟩)] w fun e w' => e = .returned (.int .i64 (intF r).1) ∧ RdAt w' b (intF r).2 ∧ Upd (· = b) w w' := by
  have HR := hid h; have HE := hid E
  clear h E
  go_enter Tryd.func48, Tryd.ntmps48
  go_wp2_with fail
  refine (number_at b r 59 minI 59 _ (by decide) HE.out HR.out hb hl (by unfold I64 minI; omega)).mono ?_
  rintro e w1 ⟨rfl, hr, u⟩
  have HQ := hid hr; have U := hid u
  clear hr u
  go_wp2_with fail
  go_ret
  exact ⟨rfl, HQ.out, U.out⟩
theorem numR_any (b : Nat) (r : RS) (w : World) (E : Env w) (h : RdAt w b r) (hb : 6 ≤ b) (hl : r.rest.length ≤ 10000000) :
    Calls Tryd.prog 25 #[.pointer (some ⟨b, 0, none⟩)] w fun e w' => e = .returned (.int .i64 (numF r).1) ∧ RdAt w' b (numF r).2 ∧ Upd (· = b) w w' := by
  have HR := hid h; have HE := hid E
  clear h E
  go_enter Tryd.func25, Tryd.ntmps25
  go_wp2_with fail
  refine (number_at b r 59 0 59 _ (by decide) HE.out HR.out hb hl (by unfold I64; omega)).mono ?_
  rintro e w1 ⟨rfl, hr, u⟩
  have HQ := hid hr; have U := hid u
  clear hr u
  go_wp2_with fail
  go_ret
  exact ⟨rfl, HQ.out, U.out⟩

def doneF (r : RS) : Bool := !r.bad && r.rest.isEmpty
theorem done_any (b : Nat) (r : RS) (w : World) (h : RdAt w b r) :
    Calls Tryd.prog 38 #[.pointer (some ⟨b, 0, none⟩)] w fun e w' => e = .returned (.bool (doneF r)) ∧ w = w' := by
  obtain ⟨c0, c1, hf⟩ := cells2 h
  clear h
  obtain ⟨l, bad⟩ := r
  dsimp only at *
  cases bad
  · go_enter Tryd.func38, Tryd.ntmps38
    go_wp2_with fail
    go_ret
    exact ⟨by unfold doneF; cases l <;> rfl, rfl⟩
  · go_enter Tryd.func38, Tryd.ntmps38
    go_wp2_with fail
    go_ret
    exact ⟨rfl, rfl⟩
theorem rest_any (b : Nat) (r : RS) (w : World) (h : RdAt w b r) :
    Calls Tryd.prog 26 #[.pointer (some ⟨b, 0, none⟩)] w fun e w' => e = .returned (.string ⟨r.rest.toArray⟩) ∧ RdAt w' b ⟨[], r.bad⟩ ∧ Upd (· = b) w w' := by
  obtain ⟨c0, c1, hf⟩ := cells2 h
  have hs := hid (store0 (x := .string ⟨#[]⟩) h)
  clear h
  go_enter Tryd.func26, Tryd.ntmps26
  go_wp2_with fail
  go_ret
  exact ⟨rfl, hs.out, (Upd.refl _ _).at_ _ _⟩
end Go.Proofs.YtabnniabofhihaaDoor
