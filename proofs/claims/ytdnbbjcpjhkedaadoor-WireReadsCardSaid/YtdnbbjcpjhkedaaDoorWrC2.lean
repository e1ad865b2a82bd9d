/- Readers: numbers, strings, lists. -/
import Derived.Test.YtdnbbjcpjhkedaaDoorWrC1
namespace Go.Proofs.YtdnbbjcpjhkedaaDoor
open Go.RowKit Go.Deep

theorem number_at (b : Nat) (r : RS) (e : UInt8) (least c : Int) (w : World) (hc : (e.toNat : Int) = c) (E : Env w) (h : RdAt w b r) (hb : 6 ≤ b) (hl : r.rest.length ≤ 10000000) (hm : I64 least) :
    Calls Tryd.prog 48 #[.pointer (some ⟨b, 0, none⟩), .int .u8 c, .int .i64 least] w fun en w' => en = .returned (.int .i64 (numberF e least r).1) ∧ RdAt w' b (numberF e least r).2 ∧ Upd (· = b) w w' := by
  subst hc; exact number_any b r e least w E h hb hl hm
theorem numberF_ge (e : UInt8) (r : RS) : 0 ≤ (numberF e 0 r).1 := by
  rcases numberF_cases e 0 r with ⟨n, t, _, h2, _, _, h3⟩ | ⟨_, h2⟩
  · rw [h2]; exact h3
  · rw [h2]; exact Int.le_refl 0

theorem intR_any (b : Nat) (r : RS) (w : World) (E : Env w) (h : RdAt w b r) (hb : 6 ≤ b) (hl : r.rest.length ≤ 10000000) :
    Calls Tryd.prog 24 #[.pointer (some ⟨b, 0, none⟩)] w fun e w' => e = .returned (.int .i64 (intF r).1) ∧ RdAt w' b (intF r).2 ∧ Upd (· = b) w w' := by
  have HR := hid h; have HE := hid E
  clear h E
  go_enter Tryd.func24, Tryd.ntmps24
  go_wp2_with fail
  refine (number_at b r 59 minI 59 _ (by decide) HE.out HR.out hb hl (by unfold I64 minI; omega)).mono ?_
  rintro e w1 ⟨rfl, hr, u⟩
  have HQ := hid hr; have U := hid u
  clear hr u
  go_wp2_with fail
  go_ret
  exact ⟨rfl, HQ.out, U.out⟩
theorem numR_any (b : Nat) (r : RS) (w : World) (E : Env w) (h : RdAt w b r) (hb : 6 ≤ b) (hl : r.rest.length ≤ 10000000) :
    Calls Tryd.prog 23 #[.pointer (some ⟨b, 0, none⟩)] w fun e w' => e = .returned (.int .i64 (numF r).1) ∧ RdAt w' b (numF r).2 ∧ Upd (· = b) w w' := by
  have HR := hid h; have HE := hid E
  clear h E
  go_enter Tryd.func23, Tryd.ntmps23
  go_wp2_with fail
  refine (number_at b r 59 0 59 _ (by decide) HE.out HR.out hb hl (by unfold I64; omega)).mono ?_
  rintro e w1 ⟨rfl, hr, u⟩
  have HQ := hid hr; have U := hid u
  clear hr u
  go_wp2_with fail
  go_ret
  exact ⟨rfl, HQ.out, U.out⟩

set_option maxHeartbeats 1000000 in
theorem textR_any (b : Nat) (r : RS) (w : World) (E : Env w) (h : RdAt w b r) (hb : 6 ≤ b) (hl : r.rest.length ≤ 10000000) :
    Calls Tryd.prog 25 #[.pointer (some ⟨b, 0, none⟩)] w fun e w' => e = .returned (.string ⟨(textF r).1.toArray⟩) ∧ RdAt w' b (textF r).2 ∧ Upd (· = b) w w' := by
  have HR := hid h; have HE := hid E
  have htf := hid (show textF r = _ from rfl)
  have hge := numberF_ge 58 r
  have hlen := numberF_len 58 0 r
  have hi := hid (numberF_i64 58 0 r)
  clear h E
  go_enter Tryd.func25, Tryd.ntmps25
  go_wp2_with fail
  refine (number_at b r 58 0 58 _ (by decide) HE.out HR.out hb hl (by unfold I64; omega)).mono ?_
  rintro e w1 ⟨rfl, hr, u⟩
  have HQ := hid hr; have U := hid u
  clear hr u
  have hT : textF r = (if (((numberF 58 0 r).2.rest.length : Nat) : Int) < (numberF 58 0 r).1 then ([], failS)
    else if (closeF 44 ⟨(numberF 58 0 r).2.rest.drop (numberF 58 0 r).1.toNat, (numberF 58 0 r).2.bad⟩).bad then ([], closeF 44 ⟨(numberF 58 0 r).2.rest.drop (numberF 58 0 r).1.toNat, (numberF 58 0 r).2.bad⟩)
    else ((numberF 58 0 r).2.rest.take (numberF 58 0 r).1.toNat, closeF 44 ⟨(numberF 58 0 r).2.rest.drop (numberF 58 0 r).1.toNat, (numberF 58 0 r).2.bad⟩)) := rfl
  have HT := hid hT
  clear hT htf
  generalize (numberF 58 0 r).1 = n at *
  generalize (numberF 58 0 r).2 = r1 at *
  obtain ⟨l, bad⟩ := r1
  dsimp only at *
  obtain ⟨c0, c1, hf⟩ := cells2 HQ.out
  obtain ⟨k, rfl⟩ := Int.eq_ofNat_of_zero_le hge
  by_cases hlt : l.length < k
  · have HF := hid (show textF r = ([], failS) by rw [HT.out, if_pos (by omega)])
    have hki : (l.length : Int) < k := by omega
    go_wp2_with fail
    refine (fail_any b _ _ HQ.out).mono ?_
    rintro e w2 ⟨rfl, hr, u⟩
    have HQ2 := hid hr; have U2 := hid (U.out.trans u)
    clear hr u
    go_wp2_with fail
    go_ret
    exact ⟨by rw [HF.out]; rfl, by rw [HF.out]; exact HQ2.out, U2.out⟩
  · have hT := HT.out
    rw [if_neg (by omega), Int.toNat_natCast] at hT
    have HT2 := hid hT
    have hki : (k : Int) ≤ l.length := by omega
    have hx1 : (ByteArray.mk l.toArray).extract 0 k = ⟨(l.take k).toArray⟩ := ext_take l k
    have hx2 : (ByteArray.mk l.toArray).extract k l.length = ⟨(l.drop k).toArray⟩ := ext_drop l k _ (Nat.le_refl _)
    have hs := hid (store0 (x := .string ⟨(l.drop k).toArray⟩) HQ.out)
    clear hT HT
    go_wp2_with fail
    refine (close_any b ⟨l.drop k, bad⟩ 44 _ hs.out).mono ?_
    rintro e w2 ⟨rfl, hr, u⟩
    have U2 := hid ((U.out.at_ _ _).trans u); have HQ2 := hid hr
    clear hr u c0 c1 hf
    obtain ⟨c0, c1, hf⟩ := cells2 HQ2.out
    cases hb2 : (closeF 44 ⟨l.drop k, bad⟩).bad with
    | true =>
      have hT := HT2.out
      rw [hb2, if_pos rfl] at hT
      have HF := hid hT
      rw [hb2] at c1
      clear hT hb2
      go_wp2_with fail
      go_ret
      exact ⟨by rw [HF.out]; rfl, by rw [HF.out]; exact HQ2.out, U2.out⟩
    | false =>
      have hT := HT2.out
      rw [hb2, if_neg (by decide)] at hT
      have HF := hid hT
      rw [hb2] at c1
      clear hT hb2
      go_wp2_with fail
      go_ret
      exact ⟨by rw [HF.out]; rfl, by rw [HF.out]; exact HQ2.out, U2.out⟩

theorem left_any (b : Nat) (r : RS) (w : World) (h : RdAt w b r) :
    Calls Tryd.prog 28 #[.pointer (some ⟨b, 0, none⟩)] w fun e w' => e = .returned (.int .i64 r.rest.length) ∧ w = w' := by
  obtain ⟨c0, c1, hf⟩ := cells2 h
  clear h
  go_enter Tryd.func28, Tryd.ntmps28
  go_wp2_with fail
  go_ret
  exact ⟨rfl, rfl⟩
def doneF (r : RS) : Bool := !r.bad && r.rest.isEmpty
theorem done_any (b : Nat) (r : RS) (w : World) (h : RdAt w b r) :
    Calls Tryd.prog 29 #[.pointer (some ⟨b, 0, none⟩)] w fun e w' => e = .returned (.bool (doneF r)) ∧ w = w' := by
  obtain ⟨c0, c1, hf⟩ := cells2 h
  clear h
  obtain ⟨l, bad⟩ := r
  dsimp only at *
  cases bad
  · go_enter Tryd.func29, Tryd.ntmps29
    go_wp2_with fail
    go_ret
    exact ⟨by unfold doneF; cases l <;> rfl, rfl⟩
  · go_enter Tryd.func29, Tryd.ntmps29
    go_wp2_with fail
    go_ret
    exact ⟨rfl, rfl⟩
theorem rest_any (b : Nat) (r : RS) (w : World) (h : RdAt w b r) :
    Calls Tryd.prog 42 #[.pointer (some ⟨b, 0, none⟩)] w fun e w' => e = .returned (.string ⟨r.rest.toArray⟩) ∧ RdAt w' b ⟨[], r.bad⟩ ∧ Upd (· = b) w w' := by
  obtain ⟨c0, c1, hf⟩ := cells2 h
  have hs := hid (store0 (x := .string ⟨#[]⟩) h)
  clear h
  go_enter Tryd.func42, Tryd.ntmps42
  go_wp2_with fail
  go_ret
  exact ⟨rfl, hs.out, (Upd.refl _ _).at_ _ _⟩
end Go.Proofs.YtdnbbjcpjhkedaaDoor
