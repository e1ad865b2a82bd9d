/- Walks: numbers. -/
import Derived.Test.YtdcahnkcnbhknaaGreatDoorEnEq
namespace Go.Proofs.YtdcahnkcnbhknaaGreatDoor
open Go.RowKit Go.Deep

set_option maxRecDepth 100000 in
set_option maxHeartbeats 4000000 in
theorem numbers_0 (e : En) (hk : e.kind = 0) (a1 a2 a3 : Option Addr) (c1 c2 c3 : Nat) (w : World) : Calls Tryz.prog 65 #[enV e a1 a2 a3 c1 c2 c3] w fun en w' => en = .returned (.bool (decide (numbersP e))) ∧ Upd (fun _ => False) w w' := by
  unfold enV
  rw [hk]
  have HK := hid hk
  clear hk
  go_enter Tryz.func65, Tryz.ntmps65
  go_wp2_with (first
    | (go_at_call 62; refine (mark_any _ _).mono ?_; rintro e w' ⟨rfl, rfl⟩)
    | (go_at_call 58; refine (key_any _ _).mono ?_; rintro e w' ⟨rfl, rfl⟩)
    | (go_at_call 59; refine (day_any _ _).mono ?_; rintro e w' ⟨rfl, rfl⟩))
  all_goals
    go_ret
    refine ⟨?_, (Upd.refl _ _).alloc _⟩
    have hk := HK.out
    clear HK
    refine ret_b ?_
    try simp only [Bool.or_eq_true, Bool.and_eq_true, decide_eq_true_eq, beq_iff_eq, bne_iff_ne, Bool.false_eq_true, false_iff, true_iff, ne_eq]
    try simp only [numbersP, hk, markP, dayP, keyP, coinsP, Int.reduceEq, if_true, if_false, or_self, or_true, true_or, or_false, false_or, ne_eq, beq_iff_eq, bne_iff_ne, beq_eq_false_iff_ne, bne_eq_false_iff_eq] at *
    first | done | omega | exact decide_eq_true_iff (p := markP _) | exact decide_eq_true_iff (p := dayP _) | simp_all
set_option maxRecDepth 100000 in
set_option maxHeartbeats 4000000 in
theorem numbers_1 (e : En) (hk : e.kind = 1) (a1 a2 a3 : Option Addr) (c1 c2 c3 : Nat) (w : World) : Calls Tryz.prog 65 #[enV e a1 a2 a3 c1 c2 c3] w fun en w' => en = .returned (.bool (decide (numbersP e))) ∧ Upd (fun _ => False) w w' := by
  unfold enV
  rw [hk]
  have HK := hid hk
  clear hk
  go_enter Tryz.func65, Tryz.ntmps65
  go_wp2_with (first
    | (go_at_call 62; refine (mark_any _ _).mono ?_; rintro e w' ⟨rfl, rfl⟩)
    | (go_at_call 58; refine (key_any _ _).mono ?_; rintro e w' ⟨rfl, rfl⟩)
    | (go_at_call 59; refine (day_any _ _).mono ?_; rintro e w' ⟨rfl, rfl⟩))
  all_goals
    go_ret
    refine ⟨?_, (Upd.refl _ _).alloc _⟩
    have hk := HK.out
    clear HK
    refine ret_b ?_
    try simp only [Bool.or_eq_true, Bool.and_eq_true, decide_eq_true_eq, beq_iff_eq, bne_iff_ne, Bool.false_eq_true, false_iff, true_iff, ne_eq]
    try simp only [numbersP, hk, markP, dayP, keyP, coinsP, Int.reduceEq, if_true, if_false, or_self, or_true, true_or, or_false, false_or, ne_eq, beq_iff_eq, bne_iff_ne, beq_eq_false_iff_ne, bne_eq_false_iff_eq] at *
    first | done | omega | exact decide_eq_true_iff (p := markP _) | exact decide_eq_true_iff (p := dayP _) | simp_all
set_option maxRecDepth 100000 in
set_option maxHeartbeats 4000000 in
theorem numbers_2 (e : En) (hk : e.kind = 2) (a1 a2 a3 : Option Addr) (c1 c2 c3 : Nat) (w : World) : Calls Tryz.prog 65 #[enV e a1 a2 a3 c1 c2 c3] w fun en w' => en = .returned (.bool (decide (numbersP e))) ∧ Upd (fun _ => False) w w' := by
  unfold enV
  rw [hk]
  have HK := hid hk
  clear hk
  go_enter Tryz.func65, Tryz.ntmps65
  go_wp2_with (first
    | (go_at_call 62; refine (mark_any _ _).mono ?_; rintro e w' ⟨rfl, rfl⟩)
    | (go_at_call 58; refine (key_any _ _).mono ?_; rintro e w' ⟨rfl, rfl⟩)
    | (go_at_call 59; refine (day_any _ _).mono ?_; rintro e w' ⟨rfl, rfl⟩))
  all_goals
    go_ret
    refine ⟨?_, (Upd.refl _ _).alloc _⟩
    have hk := HK.out
    clear HK
    refine ret_b ?_
    try simp only [Bool.or_eq_true, Bool.and_eq_true, decide_eq_true_eq, beq_iff_eq, bne_iff_ne, Bool.false_eq_true, false_iff, true_iff, ne_eq]
    try simp only [numbersP, hk, markP, dayP, keyP, coinsP, Int.reduceEq, if_true, if_false, or_self, or_true, true_or, or_false, false_or, ne_eq, beq_iff_eq, bne_iff_ne, beq_eq_false_iff_ne, bne_eq_false_iff_eq] at *
    first | done | omega | exact decide_eq_true_iff (p := markP _) | exact decide_eq_true_iff (p := dayP _) | simp_all
set_option maxRecDepth 100000 in
set_option maxHeartbeats 4000000 in
theorem numbers_3 (e : En) (hk : e.kind = 3) (a1 a2 a3 : Option Addr) (c1 c2 c3 : Nat) (w : World) : Calls Tryz.prog 65 #[enV e a1 a2 a3 c1 c2 c3] w fun en w' => en = .returned (.bool (decide (numbersP e))) ∧ Upd (fun _ => False) w w' := by
  unfold enV
  rw [hk]
  have HK := hid hk
  clear hk
  go_enter Tryz.func65, Tryz.ntmps65
  go_wp2_with (first
    | (go_at_call 62; refine (mark_any _ _).mono ?_; rintro e w' ⟨rfl, rfl⟩)
    | (go_at_call 58; refine (key_any _ _).mono ?_; rintro e w' ⟨rfl, rfl⟩)
    | (go_at_call 59; refine (day_any _ _).mono ?_; rintro e w' ⟨rfl, rfl⟩))
  all_goals
    go_ret
    refine ⟨?_, (Upd.refl _ _).alloc _⟩
    have hk := HK.out
    clear HK
    refine ret_b ?_
    try simp only [Bool.or_eq_true, Bool.and_eq_true, decide_eq_true_eq, beq_iff_eq, bne_iff_ne, Bool.false_eq_true, false_iff, true_iff, ne_eq]
    try simp only [numbersP, hk, markP, dayP, keyP, coinsP, Int.reduceEq, if_true, if_false, or_self, or_true, true_or, or_false, false_or, ne_eq, beq_iff_eq, bne_iff_ne, beq_eq_false_iff_ne, bne_eq_false_iff_eq] at *
    first | done | omega | exact decide_eq_true_iff (p := markP _) | exact decide_eq_true_iff (p := dayP _) | simp_all
set_option maxRecDepth 100000 in
set_option maxHeartbeats 4000000 in
theorem numbers_4 (e : En) (hk : e.kind = 4) (a1 a2 a3 : Option Addr) (c1 c2 c3 : Nat) (w : World) : Calls Tryz.prog 65 #[enV e a1 a2 a3 c1 c2 c3] w fun en w' => en = .returned (.bool (decide (numbersP e))) ∧ Upd (fun _ => False) w w' := by
  unfold enV
  rw [hk]
  have HK := hid hk
  clear hk
  go_enter Tryz.func65, Tryz.ntmps65
  go_wp2_with (first
    | (go_at_call 62; refine (mark_any _ _).mono ?_; rintro e w' ⟨rfl, rfl⟩)
    | (go_at_call 58; refine (key_any _ _).mono ?_; rintro e w' ⟨rfl, rfl⟩)
    | (go_at_call 59; refine (day_any _ _).mono ?_; rintro e w' ⟨rfl, rfl⟩))
  all_goals
    go_ret
    refine ⟨?_, (Upd.refl _ _).alloc _⟩
    have hk := HK.out
    clear HK
    refine ret_b ?_
    try simp only [Bool.or_eq_true, Bool.and_eq_true, decide_eq_true_eq, beq_iff_eq, bne_iff_ne, Bool.false_eq_true, false_iff, true_iff, ne_eq]
    try simp only [numbersP, hk, markP, dayP, keyP, coinsP, Int.reduceEq, if_true, if_false, or_self, or_true, true_or, or_false, false_or, ne_eq, beq_iff_eq, bne_iff_ne, beq_eq_false_iff_ne, bne_eq_false_iff_eq] at *
    first | done | omega | exact decide_eq_true_iff (p := markP _) | exact decide_eq_true_iff (p := dayP _) | simp_all
set_option maxRecDepth 100000 in
set_option maxHeartbeats 4000000 in
theorem numbers_5 (e : En) (hk : e.kind = 5) (a1 a2 a3 : Option Addr) (c1 c2 c3 : Nat) (w : World) : Calls Tryz.prog 65 #[enV e a1 a2 a3 c1 c2 c3] w fun en w' => en = .returned (.bool (decide (numbersP e))) ∧ Upd (fun _ => False) w w' := by
  unfold enV
  rw [hk]
  have HK := hid hk
  clear hk
  go_enter Tryz.func65, Tryz.ntmps65
  go_wp2_with (first
    | (go_at_call 62; refine (mark_any _ _).mono ?_; rintro e w' ⟨rfl, rfl⟩)
    | (go_at_call 58; refine (key_any _ _).mono ?_; rintro e w' ⟨rfl, rfl⟩)
    | (go_at_call 59; refine (day_any _ _).mono ?_; rintro e w' ⟨rfl, rfl⟩))
  all_goals
    go_ret
    refine ⟨?_, (Upd.refl _ _).alloc _⟩
    have hk := HK.out
    clear HK
    refine ret_b ?_
    try simp only [Bool.or_eq_true, Bool.and_eq_true, decide_eq_true_eq, beq_iff_eq, bne_iff_ne, Bool.false_eq_true, false_iff, true_iff, ne_eq]
    try simp only [numbersP, hk, markP, dayP, keyP, coinsP, Int.reduceEq, if_true, if_false, or_self, or_true, true_or, or_false, false_or, ne_eq, beq_iff_eq, bne_iff_ne, beq_eq_false_iff_ne, bne_eq_false_iff_eq] at *
    first | done | omega | exact decide_eq_true_iff (p := markP _) | exact decide_eq_true_iff (p := dayP _) | simp_all
set_option maxRecDepth 100000 in
set_option maxHeartbeats 4000000 in
theorem numbers_6 (e : En) (hk : e.kind = 6) (a1 a2 a3 : Option Addr) (c1 c2 c3 : Nat) (w : World) : Calls Tryz.prog 65 #[enV e a1 a2 a3 c1 c2 c3] w fun en w' => en = .returned (.bool (decide (numbersP e))) ∧ Upd (fun _ => False) w w' := by
  unfold enV
  rw [hk]
  have HK := hid hk
  clear hk
  go_enter Tryz.func65, Tryz.ntmps65
  go_wp2_with (first
    | (go_at_call 62; refine (mark_any _ _).mono ?_; rintro e w' ⟨rfl, rfl⟩)
    | (go_at_call 58; refine (key_any _ _).mono ?_; rintro e w' ⟨rfl, rfl⟩)
    | (go_at_call 59; refine (day_any _ _).mono ?_; rintro e w' ⟨rfl, rfl⟩))
  all_goals
    go_ret
    refine ⟨?_, (Upd.refl _ _).alloc _⟩
    have hk := HK.out
    clear HK
    refine ret_b ?_
    try simp only [Bool.or_eq_true, Bool.and_eq_true, decide_eq_true_eq, beq_iff_eq, bne_iff_ne, Bool.false_eq_true, false_iff, true_iff, ne_eq]
    try simp only [numbersP, hk, markP, dayP, keyP, coinsP, Int.reduceEq, if_true, if_false, or_self, or_true, true_or, or_false, false_or, ne_eq, beq_iff_eq, bne_iff_ne, beq_eq_false_iff_ne, bne_eq_false_iff_eq] at *
    first | done | omega | exact decide_eq_true_iff (p := markP _) | exact decide_eq_true_iff (p := dayP _) | simp_all
set_option maxRecDepth 100000 in
set_option maxHeartbeats 4000000 in
theorem numbers_7 (e : En) (hk : e.kind = 7) (a1 a2 a3 : Option Addr) (c1 c2 c3 : Nat) (w : World) : Calls Tryz.prog 65 #[enV e a1 a2 a3 c1 c2 c3] w fun en w' => en = .returned (.bool (decide (numbersP e))) ∧ Upd (fun _ => False) w w' := by
  unfold enV
  rw [hk]
  have HK := hid hk
  clear hk
  go_enter Tryz.func65, Tryz.ntmps65
  go_wp2_with (first
    | (go_at_call 62; refine (mark_any _ _).mono ?_; rintro e w' ⟨rfl, rfl⟩)
    | (go_at_call 58; refine (key_any _ _).mono ?_; rintro e w' ⟨rfl, rfl⟩)
    | (go_at_call 59; refine (day_any _ _).mono ?_; rintro e w' ⟨rfl, rfl⟩))
  all_goals
    go_ret
    refine ⟨?_, (Upd.refl _ _).alloc _⟩
    have hk := HK.out
    clear HK
    refine ret_b ?_
    try simp only [Bool.or_eq_true, Bool.and_eq_true, decide_eq_true_eq, beq_iff_eq, bne_iff_ne, Bool.false_eq_true, false_iff, true_iff, ne_eq]
    try simp only [numbersP, hk, markP, dayP, keyP, coinsP, Int.reduceEq, if_true, if_false, or_self, or_true, true_or, or_false, false_or, ne_eq, beq_iff_eq, bne_iff_ne, beq_eq_false_iff_ne, bne_eq_false_iff_eq] at *
    first | done | omega | exact decide_eq_true_iff (p := markP _) | exact decide_eq_true_iff (p := dayP _) | simp_all
set_option maxRecDepth 100000 in
set_option maxHeartbeats 4000000 in
theorem numbers_8 (e : En) (hk : e.kind = 8) (a1 a2 a3 : Option Addr) (c1 c2 c3 : Nat) (w : World) : Calls Tryz.prog 65 #[enV e a1 a2 a3 c1 c2 c3] w fun en w' => en = .returned (.bool (decide (numbersP e))) ∧ Upd (fun _ => False) w w' := by
  unfold enV
  rw [hk]
  have HK := hid hk
  clear hk
  go_enter Tryz.func65, Tryz.ntmps65
  go_wp2_with (first
    | (go_at_call 62; refine (mark_any _ _).mono ?_; rintro e w' ⟨rfl, rfl⟩)
    | (go_at_call 58; refine (key_any _ _).mono ?_; rintro e w' ⟨rfl, rfl⟩)
    | (go_at_call 59; refine (day_any _ _).mono ?_; rintro e w' ⟨rfl, rfl⟩))
  all_goals
    go_ret
    refine ⟨?_, (Upd.refl _ _).alloc _⟩
    have hk := HK.out
    clear HK
    refine ret_b ?_
    try simp only [Bool.or_eq_true, Bool.and_eq_true, decide_eq_true_eq, beq_iff_eq, bne_iff_ne, Bool.false_eq_true, false_iff, true_iff, ne_eq]
    try simp only [numbersP, hk, markP, dayP, keyP, coinsP, Int.reduceEq, if_true, if_false, or_self, or_true, true_or, or_false, false_or, ne_eq, beq_iff_eq, bne_iff_ne, beq_eq_false_iff_ne, bne_eq_false_iff_eq] at *
    first | done | omega | exact decide_eq_true_iff (p := markP _) | exact decide_eq_true_iff (p := dayP _) | simp_all
set_option maxRecDepth 100000 in
set_option maxHeartbeats 4000000 in
theorem numbers_9 (e : En) (hk : e.kind = 9) (a1 a2 a3 : Option Addr) (c1 c2 c3 : Nat) (w : World) : Calls Tryz.prog 65 #[enV e a1 a2 a3 c1 c2 c3] w fun en w' => en = .returned (.bool (decide (numbersP e))) ∧ Upd (fun _ => False) w w' := by
  unfold enV
  rw [hk]
  have HK := hid hk
  clear hk
  go_enter Tryz.func65, Tryz.ntmps65
  go_wp2_with (first
    | (go_at_call 62; refine (mark_any _ _).mono ?_; rintro e w' ⟨rfl, rfl⟩)
    | (go_at_call 58; refine (key_any _ _).mono ?_; rintro e w' ⟨rfl, rfl⟩)
    | (go_at_call 59; refine (day_any _ _).mono ?_; rintro e w' ⟨rfl, rfl⟩))
  all_goals
    go_ret
    refine ⟨?_, (Upd.refl _ _).alloc _⟩
    have hk := HK.out
    clear HK
    refine ret_b ?_
    try simp only [Bool.or_eq_true, Bool.and_eq_true, decide_eq_true_eq, beq_iff_eq, bne_iff_ne, Bool.false_eq_true, false_iff, true_iff, ne_eq]
    try simp only [numbersP, hk, markP, dayP, keyP, coinsP, Int.reduceEq, if_true, if_false, or_self, or_true, true_or, or_false, false_or, ne_eq, beq_iff_eq, bne_iff_ne, beq_eq_false_iff_ne, bne_eq_false_iff_eq] at *
    first | done | omega | exact decide_eq_true_iff (p := markP _) | exact decide_eq_true_iff (p := dayP _) | simp_all
set_option maxRecDepth 100000 in
set_option maxHeartbeats 4000000 in
theorem numbers_10 (e : En) (hk : e.kind = 10) (a1 a2 a3 : Option Addr) (c1 c2 c3 : Nat) (w : World) : Calls Tryz.prog 65 #[enV e a1 a2 a3 c1 c2 c3] w fun en w' => en = .returned (.bool (decide (numbersP e))) ∧ Upd (fun _ => False) w w' := by
  unfold enV
  rw [hk]
  have HK := hid hk
  clear hk
  go_enter Tryz.func65, Tryz.ntmps65
  go_wp2_with (first
    | (go_at_call 62; refine (mark_any _ _).mono ?_; rintro e w' ⟨rfl, rfl⟩)
    | (go_at_call 58; refine (key_any _ _).mono ?_; rintro e w' ⟨rfl, rfl⟩)
    | (go_at_call 59; refine (day_any _ _).mono ?_; rintro e w' ⟨rfl, rfl⟩))
  all_goals
    go_ret
    refine ⟨?_, (Upd.refl _ _).alloc _⟩
    have hk := HK.out
    clear HK
    refine ret_b ?_
    try simp only [Bool.or_eq_true, Bool.and_eq_true, decide_eq_true_eq, beq_iff_eq, bne_iff_ne, Bool.false_eq_true, false_iff, true_iff, ne_eq]
    try simp only [numbersP, hk, markP, dayP, keyP, coinsP, Int.reduceEq, if_true, if_false, or_self, or_true, true_or, or_false, false_or, ne_eq, beq_iff_eq, bne_iff_ne, beq_eq_false_iff_ne, bne_eq_false_iff_eq] at *
    first | done | omega | exact decide_eq_true_iff (p := markP _) | exact decide_eq_true_iff (p := dayP _) | simp_all
set_option maxRecDepth 100000 in
set_option maxHeartbeats 4000000 in
theorem numbers_11 (e : En) (hk : e.kind = 11) (a1 a2 a3 : Option Addr) (c1 c2 c3 : Nat) (w : World) : Calls Tryz.prog 65 #[enV e a1 a2 a3 c1 c2 c3] w fun en w' => en = .returned (.bool (decide (numbersP e))) ∧ Upd (fun _ => False) w w' := by
  unfold enV
  rw [hk]
  have HK := hid hk
  clear hk
  go_enter Tryz.func65, Tryz.ntmps65
  go_wp2_with (first
    | (go_at_call 62; refine (mark_any _ _).mono ?_; rintro e w' ⟨rfl, rfl⟩)
    | (go_at_call 58; refine (key_any _ _).mono ?_; rintro e w' ⟨rfl, rfl⟩)
    | (go_at_call 59; refine (day_any _ _).mono ?_; rintro e w' ⟨rfl, rfl⟩))
  all_goals
    go_ret
    refine ⟨?_, (Upd.refl _ _).alloc _⟩
    have hk := HK.out
    clear HK
    refine ret_b ?_
    try simp only [Bool.or_eq_true, Bool.and_eq_true, decide_eq_true_eq, beq_iff_eq, bne_iff_ne, Bool.false_eq_true, false_iff, true_iff, ne_eq]
    try simp only [numbersP, hk, markP, dayP, keyP, coinsP, Int.reduceEq, if_true, if_false, or_self, or_true, true_or, or_false, false_or, ne_eq, beq_iff_eq, bne_iff_ne, beq_eq_false_iff_ne, bne_eq_false_iff_eq] at *
    first | done | omega | exact decide_eq_true_iff (p := markP _) | exact decide_eq_true_iff (p := dayP _) | simp_all
set_option maxRecDepth 100000 in
set_option maxHeartbeats 4000000 in
theorem numbers_12 (e : En) (hk : e.kind = 12) (a1 a2 a3 : Option Addr) (c1 c2 c3 : Nat) (w : World) : Calls Tryz.prog 65 #[enV e a1 a2 a3 c1 c2 c3] w fun en w' => en = .returned (.bool (decide (numbersP e))) ∧ Upd (fun _ => False) w w' := by
  unfold enV
  rw [hk]
  have HK := hid hk
  clear hk
  go_enter Tryz.func65, Tryz.ntmps65
  go_wp2_with (first
    | (go_at_call 62; refine (mark_any _ _).mono ?_; rintro e w' ⟨rfl, rfl⟩)
    | (go_at_call 58; refine (key_any _ _).mono ?_; rintro e w' ⟨rfl, rfl⟩)
    | (go_at_call 59; refine (day_any _ _).mono ?_; rintro e w' ⟨rfl, rfl⟩))
  all_goals
    go_ret
    refine ⟨?_, (Upd.refl _ _).alloc _⟩
    have hk := HK.out
    clear HK
    refine ret_b ?_
    try simp only [Bool.or_eq_true, Bool.and_eq_true, decide_eq_true_eq, beq_iff_eq, bne_iff_ne, Bool.false_eq_true, false_iff, true_iff, ne_eq]
    try simp only [numbersP, hk, markP, dayP, keyP, coinsP, Int.reduceEq, if_true, if_false, or_self, or_true, true_or, or_false, false_or, ne_eq, beq_iff_eq, bne_iff_ne, beq_eq_false_iff_ne, bne_eq_false_iff_eq] at *
    first | done | omega | exact decide_eq_true_iff (p := markP _) | exact decide_eq_true_iff (p := dayP _) | simp_all
set_option maxRecDepth 100000 in
set_option maxHeartbeats 4000000 in
theorem numbers_13 (e : En) (hk : e.kind = 13) (a1 a2 a3 : Option Addr) (c1 c2 c3 : Nat) (w : World) : Calls Tryz.prog 65 #[enV e a1 a2 a3 c1 c2 c3] w fun en w' => en = .returned (.bool (decide (numbersP e))) ∧ Upd (fun _ => False) w w' := by
  unfold enV
  rw [hk]
  have HK := hid hk
  clear hk
  go_enter Tryz.func65, Tryz.ntmps65
  go_wp2_with (first
    | (go_at_call 62; refine (mark_any _ _).mono ?_; rintro e w' ⟨rfl, rfl⟩)
    | (go_at_call 58; refine (key_any _ _).mono ?_; rintro e w' ⟨rfl, rfl⟩)
    | (go_at_call 59; refine (day_any _ _).mono ?_; rintro e w' ⟨rfl, rfl⟩))
  all_goals
    go_ret
    refine ⟨?_, (Upd.refl _ _).alloc _⟩
    have hk := HK.out
    clear HK
    refine ret_b ?_
    try simp only [Bool.or_eq_true, Bool.and_eq_true, decide_eq_true_eq, beq_iff_eq, bne_iff_ne, Bool.false_eq_true, false_iff, true_iff, ne_eq]
    try simp only [numbersP, hk, markP, dayP, keyP, coinsP, Int.reduceEq, if_true, if_false, or_self, or_true, true_or, or_false, false_or, ne_eq, beq_iff_eq, bne_iff_ne, beq_eq_false_iff_ne, bne_eq_false_iff_eq] at *
    first | done | omega | exact decide_eq_true_iff (p := markP _) | exact decide_eq_true_iff (p := dayP _) | simp_all
set_option maxRecDepth 100000 in
set_option maxHeartbeats 4000000 in
theorem numbers_14 (e : En) (hk : e.kind = 14) (a1 a2 a3 : Option Addr) (c1 c2 c3 : Nat) (w : World) : Calls Tryz.prog 65 #[enV e a1 a2 a3 c1 c2 c3] w fun en w' => en = .returned (.bool (decide (numbersP e))) ∧ Upd (fun _ => False) w w' := by
  unfold enV
  rw [hk]
  have HK := hid hk
  clear hk
  go_enter Tryz.func65, Tryz.ntmps65
  go_wp2_with (first
    | (go_at_call 62; refine (mark_any _ _).mono ?_; rintro e w' ⟨rfl, rfl⟩)
    | (go_at_call 58; refine (key_any _ _).mono ?_; rintro e w' ⟨rfl, rfl⟩)
    | (go_at_call 59; refine (day_any _ _).mono ?_; rintro e w' ⟨rfl, rfl⟩))
  all_goals
    go_ret
    refine ⟨?_, (Upd.refl _ _).alloc _⟩
    have hk := HK.out
    clear HK
    refine ret_b ?_
    try simp only [Bool.or_eq_true, Bool.and_eq_true, decide_eq_true_eq, beq_iff_eq, bne_iff_ne, Bool.false_eq_true, false_iff, true_iff, ne_eq]
    try simp only [numbersP, hk, markP, dayP, keyP, coinsP, Int.reduceEq, if_true, if_false, or_self, or_true, true_or, or_false, false_or, ne_eq, beq_iff_eq, bne_iff_ne, beq_eq_false_iff_ne, bne_eq_false_iff_eq] at *
    first | done | omega | exact decide_eq_true_iff (p := markP _) | exact decide_eq_true_iff (p := dayP _) | simp_all
set_option maxRecDepth 100000 in
set_option maxHeartbeats 4000000 in
theorem numbers_15 (e : En) (hk : e.kind = 15) (a1 a2 a3 : Option Addr) (c1 c2 c3 : Nat) (w : World) : Calls Tryz.prog 65 #[enV e a1 a2 a3 c1 c2 c3] w fun en w' => en = .returned (.bool (decide (numbersP e))) ∧ Upd (fun _ => False) w w' := by
  unfold enV
  rw [hk]
  have HK := hid hk
  clear hk
  go_enter Tryz.func65, Tryz.ntmps65
  go_wp2_with (first
    | (go_at_call 62; refine (mark_any _ _).mono ?_; rintro e w' ⟨rfl, rfl⟩)
    | (go_at_call 58; refine (key_any _ _).mono ?_; rintro e w' ⟨rfl, rfl⟩)
    | (go_at_call 59; refine (day_any _ _).mono ?_; rintro e w' ⟨rfl, rfl⟩))
  all_goals
    go_ret
    refine ⟨?_, (Upd.refl _ _).alloc _⟩
    have hk := HK.out
    clear HK
    refine ret_b ?_
    try simp only [Bool.or_eq_true, Bool.and_eq_true, decide_eq_true_eq, beq_iff_eq, bne_iff_ne, Bool.false_eq_true, false_iff, true_iff, ne_eq]
    try simp only [numbersP, hk, markP, dayP, keyP, coinsP, Int.reduceEq, if_true, if_false, or_self, or_true, true_or, or_false, false_or, ne_eq, beq_iff_eq, bne_iff_ne, beq_eq_false_iff_ne, bne_eq_false_iff_eq] at *
    first | done | omega | exact decide_eq_true_iff (p := markP _) | exact decide_eq_true_iff (p := dayP _) | simp_all
set_option maxRecDepth 100000 in
set_option maxHeartbeats 4000000 in
theorem numbers_16 (e : En) (hk : e.kind = 16) (a1 a2 a3 : Option Addr) (c1 c2 c3 : Nat) (w : World) : Calls Tryz.prog 65 #[enV e a1 a2 a3 c1 c2 c3] w fun en w' => en = .returned (.bool (decide (numbersP e))) ∧ Upd (fun _ => False) w w' := by
  unfold enV
  rw [hk]
  have HK := hid hk
  clear hk
  go_enter Tryz.func65, Tryz.ntmps65
  go_wp2_with (first
    | (go_at_call 62; refine (mark_any _ _).mono ?_; rintro e w' ⟨rfl, rfl⟩)
    | (go_at_call 58; refine (key_any _ _).mono ?_; rintro e w' ⟨rfl, rfl⟩)
    | (go_at_call 59; refine (day_any _ _).mono ?_; rintro e w' ⟨rfl, rfl⟩))
  all_goals
    go_ret
    refine ⟨?_, (Upd.refl _ _).alloc _⟩
    have hk := HK.out
    clear HK
    refine ret_b ?_
    try simp only [Bool.or_eq_true, Bool.and_eq_true, decide_eq_true_eq, beq_iff_eq, bne_iff_ne, Bool.false_eq_true, false_iff, true_iff, ne_eq]
    try simp only [numbersP, hk, markP, dayP, keyP, coinsP, Int.reduceEq, if_true, if_false, or_self, or_true, true_or, or_false, false_or, ne_eq, beq_iff_eq, bne_iff_ne, beq_eq_false_iff_ne, bne_eq_false_iff_eq] at *
    first | done | omega | exact decide_eq_true_iff (p := markP _) | exact decide_eq_true_iff (p := dayP _) | simp_all
set_option maxRecDepth 100000 in
set_option maxHeartbeats 4000000 in
theorem numbers_17 (e : En) (hk : e.kind = 17) (a1 a2 a3 : Option Addr) (c1 c2 c3 : Nat) (w : World) : Calls Tryz.prog 65 #[enV e a1 a2 a3 c1 c2 c3] w fun en w' => en = .returned (.bool (decide (numbersP e))) ∧ Upd (fun _ => False) w w' := by
  unfold enV
  rw [hk]
  have HK := hid hk
  clear hk
  go_enter Tryz.func65, Tryz.ntmps65
  go_wp2_with (first
    | (go_at_call 62; refine (mark_any _ _).mono ?_; rintro e w' ⟨rfl, rfl⟩)
    | (go_at_call 58; refine (key_any _ _).mono ?_; rintro e w' ⟨rfl, rfl⟩)
    | (go_at_call 59; refine (day_any _ _).mono ?_; rintro e w' ⟨rfl, rfl⟩))
  all_goals
    go_ret
    refine ⟨?_, (Upd.refl _ _).alloc _⟩
    have hk := HK.out
    clear HK
    refine ret_b ?_
    try simp only [Bool.or_eq_true, Bool.and_eq_true, decide_eq_true_eq, beq_iff_eq, bne_iff_ne, Bool.false_eq_true, false_iff, true_iff, ne_eq]
    try simp only [numbersP, hk, markP, dayP, keyP, coinsP, Int.reduceEq, if_true, if_false, or_self, or_true, true_or, or_false, false_or, ne_eq, beq_iff_eq, bne_iff_ne, beq_eq_false_iff_ne, bne_eq_false_iff_eq] at *
    first | done | omega | exact decide_eq_true_iff (p := markP _) | exact decide_eq_true_iff (p := dayP _) | simp_all
set_option maxRecDepth 100000 in
set_option maxHeartbeats 4000000 in
theorem numbers_18 (e : En) (hk : e.kind = 18) (a1 a2 a3 : Option Addr) (c1 c2 c3 : Nat) (w : World) : Calls Tryz.prog 65 #[enV e a1 a2 a3 c1 c2 c3] w fun en w' => en = .returned (.bool (decide (numbersP e))) ∧ Upd (fun _ => False) w w' := by
  unfold enV
  rw [hk]
  have HK := hid hk
  clear hk
  go_enter Tryz.func65, Tryz.ntmps65
  go_wp2_with (first
    | (go_at_call 62; refine (mark_any _ _).mono ?_; rintro e w' ⟨rfl, rfl⟩)
    | (go_at_call 58; refine (key_any _ _).mono ?_; rintro e w' ⟨rfl, rfl⟩)
    | (go_at_call 59; refine (day_any _ _).mono ?_; rintro e w' ⟨rfl, rfl⟩))
  all_goals
    go_ret
    refine ⟨?_, (Upd.refl _ _).alloc _⟩
    have hk := HK.out
    clear HK
    refine ret_b ?_
    try simp only [Bool.or_eq_true, Bool.and_eq_true, decide_eq_true_eq, beq_iff_eq, bne_iff_ne, Bool.false_eq_true, false_iff, true_iff, ne_eq]
    try simp only [numbersP, hk, markP, dayP, keyP, coinsP, Int.reduceEq, if_true, if_false, or_self, or_true, true_or, or_false, false_or, ne_eq, beq_iff_eq, bne_iff_ne, beq_eq_false_iff_ne, bne_eq_false_iff_eq] at *
    first | done | omega | exact decide_eq_true_iff (p := markP _) | exact decide_eq_true_iff (p := dayP _) | simp_all
set_option maxRecDepth 100000 in
set_option maxHeartbeats 4000000 in
theorem numbers_19 (e : En) (hk : e.kind = 19) (a1 a2 a3 : Option Addr) (c1 c2 c3 : Nat) (w : World) : Calls Tryz.prog 65 #[enV e a1 a2 a3 c1 c2 c3] w fun en w' => en = .returned (.bool (decide (numbersP e))) ∧ Upd (fun _ => False) w w' := by
  unfold enV
  rw [hk]
  have HK := hid hk
  clear hk
  go_enter Tryz.func65, Tryz.ntmps65
  go_wp2_with (first
    | (go_at_call 62; refine (mark_any _ _).mono ?_; rintro e w' ⟨rfl, rfl⟩)
    | (go_at_call 58; refine (key_any _ _).mono ?_; rintro e w' ⟨rfl, rfl⟩)
    | (go_at_call 59; refine (day_any _ _).mono ?_; rintro e w' ⟨rfl, rfl⟩))
  all_goals
    go_ret
    refine ⟨?_, (Upd.refl _ _).alloc _⟩
    have hk := HK.out
    clear HK
    refine ret_b ?_
    try simp only [Bool.or_eq_true, Bool.and_eq_true, decide_eq_true_eq, beq_iff_eq, bne_iff_ne, Bool.false_eq_true, false_iff, true_iff, ne_eq]
    try simp only [numbersP, hk, markP, dayP, keyP, coinsP, Int.reduceEq, if_true, if_false, or_self, or_true, true_or, or_false, false_or, ne_eq, beq_iff_eq, bne_iff_ne, beq_eq_false_iff_ne, bne_eq_false_iff_eq] at *
    first | done | omega | exact decide_eq_true_iff (p := markP _) | exact decide_eq_true_iff (p := dayP _) | simp_all
set_option maxRecDepth 100000 in
set_option maxHeartbeats 4000000 in
theorem numbers_20 (e : En) (hk : e.kind = 20) (a1 a2 a3 : Option Addr) (c1 c2 c3 : Nat) (w : World) : Calls Tryz.prog 65 #[enV e a1 a2 a3 c1 c2 c3] w fun en w' => en = .returned (.bool (decide (numbersP e))) ∧ Upd (fun _ => False) w w' := by
  unfold enV
  rw [hk]
  have HK := hid hk
  clear hk
  go_enter Tryz.func65, Tryz.ntmps65
  go_wp2_with (first
    | (go_at_call 62; refine (mark_any _ _).mono ?_; rintro e w' ⟨rfl, rfl⟩)
    | (go_at_call 58; refine (key_any _ _).mono ?_; rintro e w' ⟨rfl, rfl⟩)
    | (go_at_call 59; refine (day_any _ _).mono ?_; rintro e w' ⟨rfl, rfl⟩))
  all_goals
    go_ret
    refine ⟨?_, (Upd.refl _ _).alloc _⟩
    have hk := HK.out
    clear HK
    refine ret_b ?_
    try simp only [Bool.or_eq_true, Bool.and_eq_true, decide_eq_true_eq, beq_iff_eq, bne_iff_ne, Bool.false_eq_true, false_iff, true_iff, ne_eq]
    try simp only [numbersP, hk, markP, dayP, keyP, coinsP, Int.reduceEq, if_true, if_false, or_self, or_true, true_or, or_false, false_or, ne_eq, beq_iff_eq, bne_iff_ne, beq_eq_false_iff_ne, bne_eq_false_iff_eq] at *
    first | done | omega | exact decide_eq_true_iff (p := markP _) | exact decide_eq_true_iff (p := dayP _) | simp_all
theorem numbers_any (e : En) (hk : 0 ≤ e.kind ∧ e.kind < 21) (a1 a2 a3 : Option Addr) (c1 c2 c3 : Nat) (w : World) : Calls Tryz.prog 65 #[enV e a1 a2 a3 c1 c2 c3] w fun en w' => en = .returned (.bool (decide (numbersP e))) ∧ Upd (fun _ => False) w w' := by
  have h : e.kind = 0 ∨ e.kind = 1 ∨ e.kind = 2 ∨ e.kind = 3 ∨ e.kind = 4 ∨ e.kind = 5 ∨ e.kind = 6 ∨ e.kind = 7 ∨ e.kind = 8 ∨ e.kind = 9 ∨ e.kind = 10 ∨ e.kind = 11 ∨ e.kind = 12 ∨ e.kind = 13 ∨ e.kind = 14 ∨ e.kind = 15 ∨ e.kind = 16 ∨ e.kind = 17 ∨ e.kind = 18 ∨ e.kind = 19 ∨ e.kind = 20 := by omega
  rcases h with h | h | h | h | h | h | h | h | h | h | h | h | h | h | h | h | h | h | h | h | h
  · exact numbers_0 e h _ _ _ _ _ _ w
  · exact numbers_1 e h _ _ _ _ _ _ w
  · exact numbers_2 e h _ _ _ _ _ _ w
  · exact numbers_3 e h _ _ _ _ _ _ w
  · exact numbers_4 e h _ _ _ _ _ _ w
  · exact numbers_5 e h _ _ _ _ _ _ w
  · exact numbers_6 e h _ _ _ _ _ _ w
  · exact numbers_7 e h _ _ _ _ _ _ w
  · exact numbers_8 e h _ _ _ _ _ _ w
  · exact numbers_9 e h _ _ _ _ _ _ w
  · exact numbers_10 e h _ _ _ _ _ _ w
  · exact numbers_11 e h _ _ _ _ _ _ w
  · exact numbers_12 e h _ _ _ _ _ _ w
  · exact numbers_13 e h _ _ _ _ _ _ w
  · exact numbers_14 e h _ _ _ _ _ _ w
  · exact numbers_15 e h _ _ _ _ _ _ w
  · exact numbers_16 e h _ _ _ _ _ _ w
  · exact numbers_17 e h _ _ _ _ _ _ w
  · exact numbers_18 e h _ _ _ _ _ _ w
  · exact numbers_19 e h _ _ _ _ _ _ w
  · exact numbers_20 e h _ _ _ _ _ _ w
end Go.Proofs.YtdcahnkcnbhknaaGreatDoor
