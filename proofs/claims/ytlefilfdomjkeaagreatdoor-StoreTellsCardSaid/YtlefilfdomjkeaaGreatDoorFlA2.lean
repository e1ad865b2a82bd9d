/- Walks of Read, Program and Erase of flash. -/
import Derived.Test.YtlefilfdomjkeaaGreatDoorFlA1
namespace Go.Proofs.YtlefilfdomjkeaaGreatDoor
open Go.RowKit

theorem at_err (p q : Nat) (b g : Int) (w : World) (F : Fl) (h : FlashAt w p q F) (he : F.atErr b g ≠ 0) :
    Calls Tryz.prog 57 #[.pointer (some ⟨p, 0, none⟩), .int .i64 b, .int .i64 g] w fun e w' => e = .returned (.tuple #[.pointer none, .int .i64 (F.atErr b g)]) ∧ w = w' := by
  unfold Fl.atErr at he ⊢
  cases hd : F.down
  · rw [hd] at he
    simp only [Bool.false_eq_true, if_false] at he ⊢
    split at he
    · rename_i hb
      rw [if_pos hb]
      exact at_bad p q b g w F h hd hb
    · exact absurd rfl he
  · exact at_down p q b g w F h hd

set_option maxHeartbeats 400000 in
theorem read_any (p q : Nat) (b g : Int) (w : World) (F : Fl) (h : FlashAt w p q F) :
    Calls Tryz.prog 27 #[.pointer (some ⟨p, 0, none⟩), .int .i64 b, .int .i64 g] w fun e w' => e = .returned (.tuple #[.string (F.read b g).1, .int .i64 (F.read b g).2]) ∧ w = w' := by
  by_cases he : F.atErr b g = 0
  · obtain ⟨hd, h1, h2, h3, h4⟩ := Fl.atErr_zero he
    obtain ⟨n, rfl⟩ := Int.eq_ofNat_of_zero_le h1
    obtain ⟨k, rfl⟩ := Int.eq_ofNat_of_zero_le h3
    have h2 : n < F.nb := by omega
    have h4 : k < F.np := by omega
    have hnb := h.ok.nb.2
    have hnp := h.ok.np.2
    obtain ⟨cs, r1, r2⟩ := h.rows
    obtain ⟨v, hv, hr⟩ := (r2 n h2).2 k (by omega)
    have hc : w.cell? ⟨q, n * 17 + k, none⟩ = some v := by rw [cell_of_block r1]; exact hv
    have e1 : F.read n k = match (F.blk n).page k with | some s => (s, 0) | none => (ByteArray.empty, 4) := by rw [Fl.read, if_pos he]; rfl
    have H := hid h; clear h r1 r2 hv he h1 h3
    cases ho : (F.blk n).page k with
    | none =>
      rw [ho] at hr e1
      have hr : v = .pointer none := hr
      subst hr
      have E := hid e1; clear e1 ho
      go_enter Tryz.func27, Tryz.ntmps27
      go_wp2_with fail
      refine (at_ok p q n k w F H.out hd h2 h4).mono ?_
      rintro e w' ⟨rfl, rfl⟩
      go_wp2
      go_ret2
      rw [E.out]
      exact ⟨rfl, rfl⟩
    | some s =>
      rw [ho] at hr e1
      obtain ⟨r, rfl, hr⟩ := hr
      have hs : w.cell? ⟨r, 0, none⟩ = some (.string s) := by rw [cell_of_block hr]; rfl
      have E := hid e1; clear e1 ho
      go_enter Tryz.func27, Tryz.ntmps27
      go_wp2_with fail
      refine (at_ok p q n k w F H.out hd h2 h4).mono ?_
      rintro e w' ⟨rfl, rfl⟩
      go_wp2
      go_ret2
      rw [E.out]
      exact ⟨rfl, rfl⟩
  · have e1 : F.read b g = (ByteArray.empty, F.atErr b g) := by rw [Fl.read, if_neg he]
    have E := hid e1; clear e1
    have hne : (F.atErr b g == 0) = false := beq_eq_false_iff_ne.2 he
    have hne2 : (F.atErr b g != 0) = true := by rw [bne_iff_ne]; exact he
    have HE := hid he; clear he
    go_enter Tryz.func27, Tryz.ntmps27
    go_wp2_with fail
    refine (at_err p q b g w F h HE.out).mono ?_
    rintro e w' ⟨rfl, rfl⟩
    go_wp2
    go_ret2
    rw [E.out]
    exact ⟨rfl, rfl⟩

end Go.Proofs.YtlefilfdomjkeaaGreatDoor
