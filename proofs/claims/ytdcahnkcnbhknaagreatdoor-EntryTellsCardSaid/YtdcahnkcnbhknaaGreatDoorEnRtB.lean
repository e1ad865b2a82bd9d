/- Walks: the reference's ref, n, m. -/
import Derived.Test.YtdcahnkcnbhknaaGreatDoorEnRtS
namespace Go.Proofs.YtdcahnkcnbhknaaGreatDoor
open Go.RowKit Go.Deep

theorem use_len (k : Int) : (useF k).length ≤ 1000 := by
  unfold useF
  rw [List.getD_eq_getElem?_getD]
  cases h : useTab[k.toNat]? with
  | none => exact Nat.zero_le _
  | some l =>
    have : ∀ l ∈ useTab, l.length ≤ 1000 := by decide
    exact this l (List.mem_of_getElem? h)
set_option maxRecDepth 100000 in
set_option maxHeartbeats 8000000 in
theorem rref_any (e : En) (hk : 0 ≤ e.kind ∧ e.kind < 21) (a1 a2 a3 : Option Addr) (c1 c2 c3 : Nat) (w : World) : Calls Tryz.prog 71 #[enV e a1 a2 a3 c1 c2 c3] w fun en w' => en = .returned (.bool (decide (refR e))) ∧ Upd (fun _ => False) w w' := by
  unfold enV
  by_cases h1 : e.ref = -1
  case neg =>
    have t1 : (e.ref == -1) = false := beq_eq_false_iff_ne.2 h1
    have EQ := hid (show toP e.ref 1073741824 ↔ refR e by unfold refR; rw [if_neg h1])
    clear h1
    go_enter Tryz.func71, Tryz.ntmps71
    go_wp2_with (go_at_call 66; refine (to_any _ _ _).mono ?_; rintro ex wx ⟨rfl, rfl⟩)
    go_ret
    exact ⟨ret_dec EQ.out, (Upd.refl _ _).alloc _⟩
  have t1 : (e.ref == -1) = true := beq_iff_eq.2 h1
  have EQ := hid (show refR e ↔ (114 ∉ useF e.kind ∨ e.kind = 7 ∨ e.kind = 8 ∨ e.kind = 18 ∨ e.kind = 19) by unfold refR; rw [if_pos h1])
  clear h1
  by_cases h2 : 114 ∈ useF e.kind
  case neg =>
    have HY := hid (EQ.out.2 (.inl h2))
    go_enter Tryz.func71, Tryz.ntmps71
    go_wp2_with (first | (go_at_call 69; refine (ruses_any _ hk _).mono ?_; rintro ex wx ⟨rfl, rfl⟩) | (go_at_call 70; refine (rin_any (useF e.kind) 114 114 rfl (use_len _) _).mono ?_; rintro ex wx ⟨rfl, rfl⟩; rw [decide_eq_false h2]))
    go_ret
    exact ⟨ret_t HY.out, (Upd.refl _ _).alloc _⟩
  have H2 := hid h2
  clear h2
  go_enter Tryz.func71, Tryz.ntmps71
  go_wp2_with (first | (go_at_call 69; refine (ruses_any _ hk _).mono ?_; rintro ex wx ⟨rfl, rfl⟩) | (go_at_call 70; refine (rin_any (useF e.kind) 114 114 rfl (use_len _) _).mono ?_; rintro ex wx ⟨rfl, rfl⟩; rw [decide_eq_true H2.out]))
  all_goals
    go_ret
    refine ⟨ret_b ?_, (Upd.refl _ _).alloc _⟩
    rw [EQ.out]
    have h2 := H2.out
    simp only [Bool.or_eq_true, Bool.and_eq_true, decide_eq_true_eq, beq_iff_eq, bne_iff_ne, Bool.false_eq_true, false_iff, true_iff, ne_eq] at *
    first
      | omega
      | simp_all
set_option maxRecDepth 100000 in
set_option maxHeartbeats 8000000 in
theorem rm_any (e : En) (a1 a2 a3 : Option Addr) (c1 c2 c3 : Nat) (w : World) : Calls Tryz.prog 73 #[enV e a1 a2 a3 c1 c2 c3] w fun en w' => en = .returned (.bool (decide (mR e))) ∧ Upd (fun _ => False) w w' := by
  unfold enV
  by_cases h1 : e.kind = 16
  case neg =>
    have t1 : (e.kind == 16) = false := beq_eq_false_iff_ne.2 h1
    have EQ := hid (show toP e.m 1048576 ↔ mR e by unfold mR; rw [if_neg h1])
    clear h1
    go_enter Tryz.func73, Tryz.ntmps73
    go_wp2_with (go_at_call 66; refine (to_any _ _ _).mono ?_; rintro ex wx ⟨rfl, rfl⟩)
    go_ret
    exact ⟨ret_dec EQ.out, (Upd.refl _ _).alloc _⟩
  have t1 : (e.kind == 16) = true := beq_iff_eq.2 h1
  have EQ := hid (show mR e ↔ (toP e.m 1073741824 ∧ e.m ≠ e.circle) by unfold mR; rw [if_pos h1])
  clear h1
  by_cases h2 : toP e.m 1073741824
  case neg =>
    have HN := hid (show ¬ mR e from fun h => h2 (EQ.out.1 h).1)
    go_enter Tryz.func73, Tryz.ntmps73
    go_wp2_with (go_at_call 66; refine (to_any _ _ _).mono ?_; rintro ex wx ⟨rfl, rfl⟩; rw [decide_eq_false h2])
    go_ret
    exact ⟨ret_f HN.out, (Upd.refl _ _).alloc _⟩
  have EQ2 := hid (show (e.m != e.circle) = true ↔ mR e by rw [EQ.out, bne_iff_ne]; exact ⟨fun h => ⟨h2, h⟩, fun h => h.2⟩)
  have H2 := hid h2
  clear h2
  go_enter Tryz.func73, Tryz.ntmps73
  go_wp2_with (go_at_call 66; refine (to_any _ _ _).mono ?_; rintro ex wx ⟨rfl, rfl⟩; rw [decide_eq_true H2.out])
  all_goals
    go_ret
    exact ⟨ret_b (by first | exact EQ2.out | (rw [← EQ2.out]; simp_all)), (Upd.refl _ _).alloc _⟩
set_option maxRecDepth 100000 in
set_option maxHeartbeats 40000000 in
theorem rn_any (e : En) (hk : 0 ≤ e.kind ∧ e.kind < 21) (a1 a2 a3 : Option Addr) (c1 c2 c3 : Nat) (w : World) : Calls Tryz.prog 72 #[enV e a1 a2 a3 c1 c2 c3] w fun en w' => en = .returned (.bool (decide (nR e))) ∧ Upd (fun _ => False) w w' := by
  unfold enV
  rcases kinds hk with hk | hk | hk | hk | hk | hk | hk | hk | hk | hk | hk | hk | hk | hk | hk | hk | hk | hk | hk | hk | hk <;> (
  rw [hk]
  have HK := hid hk
  clear hk
  go_enter Tryz.func72, Tryz.ntmps72
  go_wp2_with (go_at_call 66; refine (to_any _ _ _).mono ?_; rintro ex wx ⟨rfl, rfl⟩)
  all_goals
    go_ret
    refine ⟨?_, (Upd.refl _ _).alloc _⟩
    have hk := HK.out
    clear HK
    refine ret_b ?_
    try simp only [Bool.or_eq_true, Bool.and_eq_true, decide_eq_true_eq, beq_iff_eq, bne_iff_ne, Bool.false_eq_true, false_iff, true_iff, ne_eq]
    try simp only [nR, hk, toP, Int.reduceEq, if_true, if_false, or_self, or_true, true_or, or_false, false_or, ne_eq, beq_iff_eq, bne_iff_ne, beq_eq_false_iff_ne, bne_eq_false_iff_eq] at *
    first | done | omega | exact decide_eq_true_iff (p := toP _ _) | simp_all)
end Go.Proofs.YtdcahnkcnbhknaaGreatDoor
