/- Walks: numbers. -/
import Derived.Test.YtdcahnkcnbhknaaGreatDoorEnEq
namespace Go.Proofs.YtdcahnkcnbhknaaGreatDoor
open Go.RowKit Go.Deep

set_option maxRecDepth 100000 in
set_option maxHeartbeats 40000000 in
theorem numbers_any (e : En) (hk : 0 ≤ e.kind ∧ e.kind < 21) (a1 a2 a3 : Option Addr) (c1 c2 c3 : Nat) (w : World) : Calls Tryz.prog 65 #[enV e a1 a2 a3 c1 c2 c3] w fun en w' => en = .returned (.bool (decide (numbersP e))) ∧ Upd (fun _ => False) w w' := by
  have h : e.kind = 0 ∨ e.kind = 1 ∨ e.kind = 2 ∨ e.kind = 3 ∨ e.kind = 4 ∨ e.kind = 5 ∨ e.kind = 6 ∨ e.kind = 7 ∨ e.kind = 8 ∨ e.kind = 9 ∨ e.kind = 10 ∨ e.kind = 11 ∨ e.kind = 12 ∨ e.kind = 13 ∨ e.kind = 14 ∨ e.kind = 15 ∨ e.kind = 16 ∨ e.kind = 17 ∨ e.kind = 18 ∨ e.kind = 19 ∨ e.kind = 20 := by omega
  clear hk
  unfold enV
  rcases h with hk | hk | hk | hk | hk | hk | hk | hk | hk | hk | hk | hk | hk | hk | hk | hk | hk | hk | hk | hk | hk <;> (
  rw [hk]
  have HK := hid hk
  clear hk
  go_enter Tryz.func65, Tryz.ntmps65
  go_wp2_with (first
    | (go_at_call 62; refine (mark_any _ _).mono ?_; rintro e w' ⟨rfl, rfl⟩)
    | (go_at_call 58; refine (key_any _ _).mono ?_; rintro e w' ⟨rfl, rfl⟩)
    | (go_at_call 59; refine (day_any _ _).mono ?_; rintro e w' ⟨rfl, rfl⟩))
  all_goals
    go_ret
    refine ⟨?_, (Upd.refl _ _).alloc _⟩
    have hk := HK.out
    clear HK
    refine ret_b ?_
    try simp only [Bool.or_eq_true, Bool.and_eq_true, decide_eq_true_eq, beq_iff_eq, bne_iff_ne, Bool.false_eq_true, false_iff, true_iff, ne_eq]
    try simp only [numbersP, hk, markP, dayP, keyP, coinsP, Int.reduceEq, if_true, if_false, or_self, or_true, true_or, or_false, false_or, ne_eq, beq_iff_eq, bne_iff_ne, beq_eq_false_iff_ne, bne_eq_false_iff_eq] at *
    first | done | omega | exact decide_eq_true_iff (p := markP _) | exact decide_eq_true_iff (p := dayP _) | simp_all)
end Go.Proofs.YtdcahnkcnbhknaaGreatDoor
