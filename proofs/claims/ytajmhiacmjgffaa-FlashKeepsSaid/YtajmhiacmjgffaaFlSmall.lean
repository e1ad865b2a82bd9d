/- The walk of small: the documented examples. -/
import Derived.Test.YtajmhiacmjgffaaFlOps
namespace Go.Proofs.Ytajmhiacmjgffaa
open Go.RowKit

theorem new_any (b g : Int) (w : World) (h1 : 1 ≤ b ∧ b ≤ 32) (h2 : 1 ≤ g ∧ g ≤ 16) :
    Calls Try.prog 8 #[.int .i64 b, .int .i64 g] w (NewPost b.toNat g.toNat w) := by
  obtain ⟨n, rfl⟩ := Int.eq_ofNat_of_zero_le (by omega : 0 ≤ b)
  obtain ⟨k, rfl⟩ := Int.eq_ofNat_of_zero_le (by omega : 0 ≤ g)
  exact new_ok n k w (by omega) (by omega)

def sm0 : Fl := Fl.new 2 4
def sm1 : Fl := (sm0.program 0 1 ⟨#[97, 98]⟩).1
def sm2 : Fl := (sm1.program 0 0 ⟨#[99]⟩).1
def sm3 : Fl := (sm2.program 0 2 ⟨#[]⟩).1
def sm4 : Fl := sm3.arm 1 1
def sm5 : Fl := (sm4.program 1 0 ⟨#[120, 121, 122]⟩).1
def sm6 : Fl := sm5.start
def sm7 : Fl := sm6.arm 1 2
def sm8 : Fl := (sm7.erase 0).1
def sm9 : Fl := sm8.start

theorem sm_a1 : (sm0.program 0 1 ⟨#[97, 98]⟩).2 = 0 := by decide +kernel
theorem sm_a2 : (sm1.program 0 0 ⟨#[99]⟩).2 = 7 := by decide +kernel
theorem sm_a3 : (sm2.program 0 2 ⟨#[]⟩).2 = 0 := by decide +kernel
theorem sm_a4 : sm3.reads 0 1 ⟨#[97, 98]⟩ = true := by decide +kernel
theorem sm_a5 : sm3.reads 0 2 ⟨#[]⟩ = true := by decide +kernel
theorem sm_a6 : sm3.erased 0 3 = true := by decide +kernel
theorem sm_a7 : (sm4.program 1 0 ⟨#[120, 121, 122]⟩).2 = 8 := by decide +kernel
theorem sm_a8 : sm5.down = true := by decide +kernel
theorem sm_a9 : sm6.reads 1 0 ⟨#[120]⟩ = true := by decide +kernel
theorem sm_a10 : (sm7.erase 0).2 = 8 := by decide +kernel
theorem sm_a11 : sm9.reads 0 1 ⟨#[97, 98]⟩ = true := by decide +kernel
theorem sm_a12 : sm9.erased 0 2 = true := by decide +kernel
theorem sm_a13 : (if (0 : Int) < 0 ∨ sm9.nb ≤ (0 : Int) then (0 : Int) else (sm9.blk (0 : Int).toNat).wear) = 1 := by decide +kernel
theorem sm_a14 : (if (1 : Int) < 0 ∨ sm9.nb ≤ (1 : Int) then (0 : Int) else (sm9.blk (1 : Int).toNat).wear) = 0 := by decide +kernel

def SmallPost (w : World) (e : Ending) (w' : World) : Prop := e = .returned (.bool true) ∧ Below w.heap.size w w'

set_option maxRecDepth 100000 in
set_option maxHeartbeats 2000000 in
theorem small_any (w : World) : Calls Try.prog 7 #[] w (SmallPost w) := by
  go_enter Try.func7, Try.ntmps7
  go_wp2_with fail
  refine (new_any 2 4 _ (by decide) (by decide)).mono ?_
  rintro e w0 ⟨p, q, hp, hq, rfl, f0, u0⟩
  have f0 : FlashAt w0 p q sm0 := f0
  have b0 : Below w.heap.size w w0 := u0.below (Nat.le_refl _) (fun _ h => h.elim)
  have hpq : ∀ k, k = p ∨ k = q → w.heap.size ≤ k := by rintro k (rfl | rfl) <;> assumption
  have hpp : ∀ k, k = p → w.heap.size ≤ k := by rintro k rfl; assumption
  have PQ := hid hpq; have PP := hid hpp; have B0 := hid b0; have F0 := hid f0
  clear hpq hpp b0 f0 u0 hp hq
  go_wp2_with fail
  refine (new_bad 0 4 _ (.inl (by decide))).mono ?_
  rintro e w1 ⟨rfl, rfl⟩
  go_wp2_with fail
  refine (program_any p q 0 1 ⟨#[97, 98]⟩ _ _ F0.out (by decide)).mono ?_
  rintro e v1 ⟨he, f, u⟩
  rw [sm_a1] at he
  subst he
  have G1 : Hid (FlashAt v1 p q sm1) := hid f
  have C1 := hid (B0.out.trans (u.below (B0.out.size) PQ.out))
  clear f u
  go_wp2_with fail
  refine (program_any p q 0 0 ⟨#[99]⟩ _ _ G1.out (by decide)).mono ?_
  rintro e v2 ⟨he, f, u⟩
  rw [sm_a2] at he
  subst he
  have G2 : Hid (FlashAt v2 p q sm2) := hid f
  have C2 := hid (C1.out.trans (u.below (C1.out.size) PQ.out))
  clear f u
  go_wp2_with fail
  refine (program_any p q 0 2 ⟨#[]⟩ _ _ G2.out (by decide)).mono ?_
  rintro e v3 ⟨he, f, u⟩
  rw [sm_a3] at he
  subst he
  have G3 : Hid (FlashAt v3 p q sm3) := hid f
  have C3 := hid (C2.out.trans (u.below (C2.out.size) PQ.out))
  clear f u
  go_wp2_with fail
  refine (reads_any p q 0 1 ⟨#[97, 98]⟩ _ _ G3.out).mono ?_
  rintro e v4 ⟨he, hw⟩
  subst hw
  rw [sm_a4] at he
  subst he
  go_wp2_with fail
  refine (reads_any p q 0 2 ⟨#[]⟩ _ _ G3.out).mono ?_
  rintro e v5 ⟨he, hw⟩
  subst hw
  rw [sm_a5] at he
  subst he
  go_wp2_with fail
  refine (erased_any p q 0 3 _ _ G3.out).mono ?_
  rintro e v6 ⟨he, hw⟩
  subst hw
  rw [sm_a6] at he
  subst he
  go_wp2_with fail
  refine (arm_any p q 1 1 _ _ G3.out (by decide)).mono ?_
  rintro e v7 ⟨he, f, u⟩
  subst he
  have G7 : Hid (FlashAt v7 p q sm4) := hid f
  have C7 := hid (C3.out.trans (u.below (C3.out.size) PP.out))
  clear f u
  go_wp2_with fail
  refine (program_any p q 1 0 ⟨#[120, 121, 122]⟩ _ _ G7.out (by decide)).mono ?_
  rintro e v8 ⟨he, f, u⟩
  rw [sm_a7] at he
  subst he
  have G8 : Hid (FlashAt v8 p q sm5) := hid f
  have C8 := hid (C7.out.trans (u.below (C7.out.size) PQ.out))
  clear f u
  go_wp2_with fail
  refine (down_any p q _ _ G8.out).mono ?_
  rintro e v9 ⟨he, hw⟩
  subst hw
  rw [sm_a8] at he
  subst he
  go_wp2_with fail
  refine (start_any p q _ _ G8.out).mono ?_
  rintro e v10 ⟨he, f, u⟩
  subst he
  have G10 : Hid (FlashAt v10 p q sm6) := hid f
  have C10 := hid (C8.out.trans (u.below (C8.out.size) PP.out))
  clear f u
  go_wp2_with fail
  refine (reads_any p q 1 0 ⟨#[120]⟩ _ _ G10.out).mono ?_
  rintro e v11 ⟨he, hw⟩
  subst hw
  rw [sm_a9] at he
  subst he
  go_wp2_with fail
  refine (arm_any p q 1 2 _ _ G10.out (by decide)).mono ?_
  rintro e v12 ⟨he, f, u⟩
  subst he
  have G12 : Hid (FlashAt v12 p q sm7) := hid f
  have C12 := hid (C10.out.trans (u.below (C10.out.size) PP.out))
  clear f u
  go_wp2_with fail
  refine (erase_any p q 0 _ _ G12.out).mono ?_
  rintro e v13 ⟨he, f, u⟩
  rw [sm_a10] at he
  subst he
  have G13 : Hid (FlashAt v13 p q sm8) := hid f
  have C13 := hid (C12.out.trans (u.below (C12.out.size) PQ.out))
  clear f u
  go_wp2_with fail
  refine (start_any p q _ _ G13.out).mono ?_
  rintro e v14 ⟨he, f, u⟩
  subst he
  have G14 : Hid (FlashAt v14 p q sm9) := hid f
  have C14 := hid (C13.out.trans (u.below (C13.out.size) PP.out))
  clear f u
  go_wp2_with fail
  refine (reads_any p q 0 1 ⟨#[97, 98]⟩ _ _ G14.out).mono ?_
  rintro e v15 ⟨he, hw⟩
  subst hw
  rw [sm_a11] at he
  subst he
  go_wp2_with fail
  refine (erased_any p q 0 2 _ _ G14.out).mono ?_
  rintro e v16 ⟨he, hw⟩
  subst hw
  rw [sm_a12] at he
  subst he
  go_wp2_with fail
  refine (wear_any p q 0 _ _ G14.out).mono ?_
  rintro e v17 ⟨he, hw⟩
  subst hw
  rw [sm_a13] at he
  subst he
  go_wp2_with fail
  refine (wear_any p q 1 _ _ G14.out).mono ?_
  rintro e v18 ⟨he, hw⟩
  subst hw
  rw [sm_a14] at he
  subst he
  go_wp2_with fail
  go_ret
  exact ⟨rfl, C14.out⟩
end Go.Proofs.Ytajmhiacmjgffaa
