/- The reference's reader: small functions. -/
import Derived.Test.YtdnbbjcpjhkedaaDoorWrR2
namespace Go.Proofs.YtdnbbjcpjhkedaaDoor
open Go.RowKit Go.Deep

/-- The reference's reader at block b. -/
def RqAt (w : World) (b : Nat) (r : RS) : Prop := w.heap[b]? = some (.cells #[.string ⟨r.rest.toArray⟩, .bool r.bad] 61 (0, 0))
theorem RqAt.upd {S : Nat → Prop} {w w' : World} {b : Nat} {r : RS} (h : RqAt w b r) (u : Upd S w w') (hb : ¬ S b) : RqAt w' b r := (u.block b (heap_lt h) hb).trans h

theorem qopen_any (s : List UInt8) (w : World) :
    Calls Tryd.prog 32 #[.string ⟨s.toArray⟩] w fun e w' => e = .returned (.pointer (some ⟨w.heap.size, 0, none⟩)) ∧ RqAt w' w.heap.size ⟨s, false⟩ ∧ Upd (fun _ => False) w w' := by
  go_enter Tryd.func32, Tryd.ntmps32
  go_wp2_with fail
  go_ret
  exact ⟨rfl, heap_alloc_new, (Upd.refl _ _).alloc _⟩
theorem qfail_any (b : Nat) (r : RS) (w : World) (h : RqAt w b r) :
    Calls Tryd.prog 56 #[.pointer (some ⟨b, 0, none⟩)] w fun e w' => e = .returned (.int .i64 0) ∧ RqAt w' b failS ∧ Upd (· = b) w w' := by
  obtain ⟨c0, c1, hf⟩ := cells2 h
  have hs := hid (store2 (x := .string ⟨#[]⟩) (y := .bool true) h)
  clear h
  go_enter Tryd.func56, Tryd.ntmps56
  go_wp2_with fail
  go_ret
  exact ⟨rfl, hs.out, ((Upd.refl _ _).at_ _ _).at_ _ _⟩
theorem qleft_any (b : Nat) (r : RS) (w : World) (h : RqAt w b r) :
    Calls Tryd.prog 40 #[.pointer (some ⟨b, 0, none⟩)] w fun e w' => e = .returned (.int .i64 r.rest.length) ∧ w = w' := by
  obtain ⟨c0, c1, hf⟩ := cells2 h
  clear h
  go_enter Tryd.func40, Tryd.ntmps40
  go_wp2_with fail
  go_ret
  exact ⟨rfl, rfl⟩
theorem qdone_any (b : Nat) (r : RS) (w : World) (h : RqAt w b r) :
    Calls Tryd.prog 41 #[.pointer (some ⟨b, 0, none⟩)] w fun e w' => e = .returned (.bool (doneF r)) ∧ w = w' := by
  obtain ⟨c0, c1, hf⟩ := cells2 h
  clear h
  obtain ⟨l, bad⟩ := r
  dsimp only at c0 c1
  cases bad
  · cases l with
    | nil =>
      go_enter Tryd.func41, Tryd.ntmps41
      go_wp2_with fail
      go_ret
      exact ⟨rfl, rfl⟩
    | cons a t =>
      go_enter Tryd.func41, Tryd.ntmps41
      go_wp2_with fail
      go_ret
      exact ⟨rfl, rfl⟩
  · go_enter Tryd.func41, Tryd.ntmps41
    go_wp2_with fail
    go_ret
    exact ⟨rfl, rfl⟩
theorem qtail_any (b : Nat) (r : RS) (w : World) (h : RqAt w b r) :
    Calls Tryd.prog 43 #[.pointer (some ⟨b, 0, none⟩)] w fun e w' => e = .returned (.string ⟨r.rest.toArray⟩) ∧ RqAt w' b ⟨[], r.bad⟩ ∧ Upd (· = b) w w' := by
  obtain ⟨c0, c1, hf⟩ := cells2 h
  have hs := hid (store0 (x := .string ⟨#[]⟩) h)
  clear h
  go_enter Tryd.func43, Tryd.ntmps43
  go_wp2_with fail
  go_ret
  exact ⟨rfl, hs.out, (Upd.refl _ _).at_ _ _⟩
theorem idx (l : List UInt8) (k : Nat) (hk : k < l.length) : ∀ h, (ByteArray.mk l.toArray)[k]'h = l[k] := fun _ => rfl
theorem close_bad {c : UInt8} {r : RS} (h : (closeF c r).bad = true) (ho : r.bad = false) : closeF c r = failS := by
  unfold closeF at h ⊢
  cases e : r.rest with
  | nil => rfl
  | cons x t =>
    rw [e] at h
    dsimp only at h ⊢
    by_cases hx : x = c
    · rw [if_pos hx] at h; dsimp only at h; rw [ho] at h; cases h
    · rw [if_neg hx]

set_option maxHeartbeats 1000000 in
theorem qclose_any (b : Nat) (r : RS) (c : UInt8) (w : World) (h : RqAt w b r) (ho : r.bad = false) :
    Calls Tryd.prog 57 #[.pointer (some ⟨b, 0, none⟩), .int .u8 c.toNat] w fun e w' => e = .returned (.bool (!(closeF c r).bad)) ∧ RqAt w' b (closeF c r) ∧ Upd (· = b) w w' := by
  obtain ⟨c0, c1, hf⟩ := cells2 h
  have HR := hid h
  obtain ⟨l, bad⟩ := r
  dsimp only at *
  subst ho
  clear h
  cases l with
  | nil =>
    have hc := hid (show closeF c ⟨[], false⟩ = failS from rfl)
    go_enter Tryd.func57, Tryd.ntmps57
    go_wp2_with fail
    refine (qfail_any b ⟨[], false⟩ _ HR.out).mono ?_
    rintro e w' ⟨rfl, hr, u⟩
    have HF := hid hr; have U := hid u
    clear hr u
    go_wp2_with fail
    go_ret
    exact ⟨by rw [hc.out]; rfl, by rw [hc.out]; exact HF.out, U.out⟩
  | cons x t =>
    have hix : ∀ h, (ByteArray.mk (x :: t).toArray)[0]'h = x := idx (x :: t) 0 (by simp)
    by_cases hx : x = c
    · subst hx
      have hxn : ((x.toNat : Int) != x.toNat) = false := by simp
      have hc := hid (show closeF x ⟨x :: t, false⟩ = ⟨t, false⟩ by unfold closeF; dsimp only; rw [if_pos rfl])
      have hs := hid (store0 (x := .string ⟨t.toArray⟩) HR.out)
      have hext : (ByteArray.mk (x :: t).toArray).extract 1 (t.length + 1) = ⟨t.toArray⟩ := ext_drop (x :: t) 1 _ (by simp)
      go_enter Tryd.func57, Tryd.ntmps57
      go_wp2_with fail
      go_ret
      exact ⟨by rw [hc.out]; rfl, by rw [hc.out]; exact hs.out, (Upd.refl _ _).at_ _ _⟩
    · have hc := hid (show closeF c ⟨x :: t, false⟩ = failS by unfold closeF; dsimp only; rw [if_neg hx])
      have hxb : ((x.toNat : Int) == c.toNat) = false := beq_eq_false_iff_ne.2 fun e => hx (UInt8.toNat_inj.1 (by omega))
      have hxn : ((x.toNat : Int) != c.toNat) = true := by rw [bne_iff_ne]; exact beq_eq_false_iff_ne.1 hxb
      clear hx
      go_enter Tryd.func57, Tryd.ntmps57
      go_wp2_with fail
      refine (qfail_any b ⟨x :: t, false⟩ _ HR.out).mono ?_
      rintro e w' ⟨rfl, hr, u⟩
      have HF := hid hr; have U := hid u
      clear hr u
      go_wp2_with fail
      go_ret
      exact ⟨by rw [hc.out]; rfl, by rw [hc.out]; exact HF.out, U.out⟩
end Go.Proofs.YtdnbbjcpjhkedaaDoor
