/- Walks: is there room, is a page erased, the next position. -/
import Derived.Test.YtlefilfdomjkeaaGreatDoorStB
namespace Go.Proofs.YtlefilfdomjkeaaGreatDoor
open Go.RowKit Go.Deep
theorem tdiv_nat (a b : Nat) : Int.tdiv (a : Int) (b : Int) = ((a / b : Nat) : Int) := by
  rw [Int.tdiv_eq_ediv_of_nonneg (by omega)]; exact (Int.natCast_ediv a b).symm
theorem tmod_nat (a b : Nat) : Int.tmod (a : Int) (b : Int) = ((a % b : Nat) : Int) := by
  rw [Int.tmod_eq_emod_of_nonneg (by omega)]; exact (Int.natCast_emod a b).symm
theorem wrap_id {z : Int} (h0 : -9000000000000000000 ≤ z) (h1 : z ≤ 9000000000000000000) : IntKind.i64.wrap z = z ∧ wrap64 z = z := ⟨IntWalk.i64_in _ (by omega), IntWalk.wrap64_in _ (by constructor <;> omega)⟩
theorem wrap_nat {n : Nat} (h : n ≤ 1000000000) : IntKind.i64.wrap (n : Int) = n ∧ wrap64 (n : Int) = n := wrap_id (by omega) (by omega)
theorem wrap_sub {m n : Nat} (h : m ≤ 1000000000) (h' : n ≤ 1000000000) : IntKind.i64.wrap ((m : Int) - n) = (m : Int) - n ∧ wrap64 ((m : Int) - n) = (m : Int) - n := wrap_id (by omega) (by omega)
section
variable {w : World} {O : Nat → Prop} {x p q : Nat} {F : Fl} {S : St} {vr va : Value}
set_option maxRecDepth 100000 in
set_option maxHeartbeats 1000000 in
theorem fits_any (h : StoreAt w O x p q F S vr va) (ok : StOk S) (r : Nat) (hr : r ≤ 2000000) : Calls Tryz.prog 44 #[.pointer (some ⟨x, 0, none⟩), .int .i64 r] w fun e w' => e = .returned (.bool (fitsP F S r)) ∧ Upd (fun _ => False) w w' := by
  obtain ⟨⟨c0, c1, c2, c3, c4, c5, c6⟩, hf⟩ := h.cells
  have hnb := h.flash.ok.nb
  have hnp := h.flash.ok.np
  have hd1 : r / F.np ≤ r := Nat.div_le_self _ _
  have hm1 : (r / F.np + 1) * F.np ≤ 2000001 * 16 := Nat.mul_le_mul (by omega) hnp.2
  have hm2 : F.nb * F.np ≤ 32 * 16 := Nat.mul_le_mul hnb.2 hnp.2
  have hq0 : ¬ ((F.np : Int) = 0) := by omega
  have hq1 : ((F.np : Int) == 0) = false := beq_eq_false_iff_ne.2 hq0
  have e1 := tdiv_nat r F.np
  obtain ⟨d1, hd1'⟩ : ∃ d1, r / F.np + 1 = d1 := ⟨_, rfl⟩
  have e2 : ((r / F.np : Nat) : Int) + 1 = (d1 : Int) := by omega
  have e3 : (d1 : Int) * (F.np : Int) = ((d1 * F.np : Nat) : Int) := by rw [Int.natCast_mul]
  have e4 : (F.nb : Int) * (F.np : Int) = ((F.nb * F.np : Nat) : Int) := by rw [Int.natCast_mul]
  have hfit : fitsP F S r = decide ((r / F.np + 1) * F.np ≤ S.limit + F.nb * F.np) := rfl
  have hlim : S.limit = match S.ats with | [] => S.next | a :: _ => a := rfl
  have hnx := ok.next
  have hats := ok.ats
  have A := hid h.ats
  rw [hd1'] at hfit hm1
  generalize d1 * F.np = m1 at *
  generalize F.nb * F.np = m2 at *
  generalize r / F.np = d at *
  have fin : ∀ lim : Nat, S.limit = lim → decide ((m1 : Int) - (m2 : Int) ≤ (lim : Int)) = fitsP F S r := fun lim hl => by
    rw [hfit, hl]
    exact decide_eq_decide.2 (by omega)
  have FIN := hid fin
  have b1 : d ≤ 1000000000 := by omega
  have b2 : d1 ≤ 1000000000 := by omega
  have b3 : m1 ≤ 1000000000 := by omega
  have b4 : m2 ≤ 1000000000 := by omega
  obtain ⟨w1a, w1b⟩ := wrap_nat b1
  obtain ⟨w2a, w2b⟩ := wrap_nat b2
  obtain ⟨w3a, w3b⟩ := wrap_nat b3
  obtain ⟨w4a, w4b⟩ := wrap_nat b4
  obtain ⟨w5a, w5b⟩ := wrap_sub b3 b4
  clear b1 b2 b3 b4
  cases hS : S.ats with
  | nil =>
    obtain ⟨a, cap, rfl, _, _⟩ := h.ats.fits
    rw [hS] at c6 hlim
    have L := hid (FIN.out S.next hlim)
    have l0 : (([] : List Nat).length) = 0 := rfl
    rw [l0] at c6
    clear h hfit hlim ok hats hS A hd1' hm1 hm2 hd1 l0 fin
    go_enter Tryz.func44, Tryz.ntmps44
    go_wp2_with fail
    go_quiet (fail)
    go_wp2_with fail
    go_ret
    exact ⟨by rw [← L.out]; simp, (Upd.refl _ _).drewN _⟩
  | cons a l =>
    obtain ⟨g, cap, rfl, _, _, _, _, hc⟩ := A.out.cell (by rw [hS]; exact Nat.succ_pos _)
    rw [hS] at c6 hlim hc
    have ca := hc 0 (natV a) (by simp)
    have L := hid (FIN.out a hlim)
    obtain ⟨k, hk⟩ : ∃ k, (a :: l).length = k := ⟨_, rfl⟩
    have hk1 : 0 < k := by rw [← hk]; simp
    have g1 : decide (0 < k) = true := decide_eq_true hk1
    have g2 : (0 : Int) < k := Int.natCast_pos.2 hk1
    rw [hk] at c6
    clear h hfit hlim ok hats hS A hd1' hm1 hm2 hd1 fin hc hk
    go_enter Tryz.func44, Tryz.ntmps44
    go_wp2_with fail
    go_quiet (fail)
    go_wp2_with fail
    go_ret
    exact ⟨by rw [← L.out]; simp, (Upd.refl _ _).drewN _⟩
theorem read_of (F : Fl) (ok : F.Ok) (hd : F.down = false) (r : Nat) : F.read (r / F.np % F.nb : Nat) (r % F.np : Nat) = match pageAt F (r % (F.nb * F.np)) with | some s => (s, 0) | none => (ByteArray.empty, 4) := by
  have hk : 0 < F.np := by have := ok.np; omega
  have hn : 0 < F.nb := by have := ok.nb; omega
  have h1 := Nat.mod_lt (r / F.np) hn
  have h2 := Nat.mod_lt r hk
  unfold Fl.read pageAt
  rw [if_pos (Fl.atErr_ok hd (by omega) (by omega) (by omega) (by omega)), Int.toNat_natCast, Int.toNat_natCast, pos_div hk, pos_mod hk]
  cases (F.blk (r / F.np % F.nb)).page (r % F.np) <;> rfl
theorem empty_read (F : Fl) (ok : F.Ok) (hd : F.down = false) (r : Nat) : ((F.read (r / F.np % F.nb : Nat) (r % F.np : Nat)).2 == 4) = emptyP F r := by
  rw [read_of F ok hd r, empty_eq (by have := ok.np; omega)]
  cases pageAt F (r % (F.nb * F.np)) <;> rfl
set_option maxRecDepth 100000 in
set_option maxHeartbeats 1000000 in
theorem empty_any (h : StoreAt w O x p q F S vr va) (hd : F.down = false) (r : Nat) (hr : r ≤ 2000000) : Calls Tryz.prog 65 #[.pointer (some ⟨x, 0, none⟩), .int .i64 r] w fun e w' => e = .returned (.bool (emptyP F r)) ∧ Upd (fun _ => False) w w' := by
  obtain ⟨⟨c0, c1, c2, c3, c4, c5, c6⟩, hf⟩ := h.cells
  have hnb := h.flash.ok.nb
  have hnp := h.flash.ok.np
  have er := empty_read F h.flash.ok hd r
  have hd1 : r / F.np ≤ r := Nat.div_le_self _ _
  have hd2 : r / F.np % F.nb ≤ r / F.np := Nat.mod_le _ _
  have hd3 : r % F.np ≤ r := Nat.mod_le _ _
  have hq0 : ¬ ((F.np : Int) = 0) := by omega
  have hq1 : ((F.np : Int) == 0) = false := beq_eq_false_iff_ne.2 hq0
  have hq2 : ¬ ((F.nb : Int) = 0) := by omega
  have hq3 : ((F.nb : Int) == 0) = false := beq_eq_false_iff_ne.2 hq2
  have e1 := tdiv_nat r F.np
  have e2 := tmod_nat (r / F.np) F.nb
  have e3 := tmod_nat r F.np
  have hv : ∀ q' : UW w, Calls Tryz.prog 27 #[.pointer (some ⟨p, 0, none⟩), .int .i64 (r / F.np % F.nb : Nat), .int .i64 (r % F.np : Nat)] q'.w fun e w' => e = .returned (.tuple #[.string (F.read (r / F.np % F.nb : Nat) (r % F.np : Nat)).1, .int .i64 (F.read (r / F.np % F.nb : Nat) (r % F.np : Nat)).2]) ∧ q'.w = w' := fun q' => read_any p q _ _ q'.w F (h.upd0 q'.u).flash
  generalize F.read (r / F.np % F.nb : Nat) (r % F.np : Nat) = rd at *
  obtain ⟨rs, re⟩ := rd
  dsimp only at er hv
  have b1 : r / F.np ≤ 1000000000 := by omega
  have b2 : r / F.np % F.nb ≤ 1000000000 := by omega
  have b3 : r % F.np ≤ 1000000000 := by omega
  generalize r / F.np % F.nb = b at *
  generalize r % F.np = g at *
  generalize r / F.np = d at *
  have ER := hid er
  clear er h hd hd1 hd2 hd3 hnb hnp
  obtain ⟨w1a, w1b⟩ := wrap_nat b1
  obtain ⟨w2a, w2b⟩ := wrap_nat b2
  obtain ⟨w3a, w3b⟩ := wrap_nat b3
  clear b1 b2 b3
  go_enter Tryz.func65, Tryz.ntmps65
  go_wp2_with fail
  have ec0 := fun p : UW w => p.cell c0
  have ec1 := fun p : UW w => p.cell c1
  have ec2 := fun p : UW w => p.cell c2
  refine region_upd (by kernel_rfl) (by kernel_rfl) ?_
  repeat (go_big_quiet_step ((go_at_call 27; with_reducible exact Calls.upd_same (hv _))))
  refine wpQuiet_nil ?_
  intro _ hw1
  refine uw_out hw1 ?_
  rintro w1 u2 rfl
  have U2 := hid u2
  clear hw1 u2
  go_wp2_with fail
  go_ret
  exact ⟨by rw [← ER.out]; rfl, U2.out⟩
end
end Go.Proofs.YtlefilfdomjkeaaGreatDoor
