/- Walks: what a page's header says, how much room it has. -/
import Derived.Test.YtlefilfdomjkeaaGreatDoorStRow
import Derived.Test.YtlefilfdomjkeaaGreatDoorStCalm
import Derived.Test.YtlefilfdomjkeaaGreatDoorFq
namespace Go.Proofs.YtlefilfdomjkeaaGreatDoor
open Go.RowKit Go.Deep

abbrev pgC (p : Pg) : Array Value := #[.int .i64 p.kind, .int .i64 p.pos, .int .i64 p.number, .int .i64 p.diff, .int .i64 p.offset, .int .i64 p.rest, .string ⟨p.bytes.toArray⟩]
def pgV (p : Pg) : Value := .agg (pgC p)
/-- Its numbers are ints. -/
structure PgI (p : Pg) : Prop where
  kind : I64 (p.kind : Int)
  pos : I64 (p.pos : Int)
  number : I64 (p.number : Int)
  diff : I64 (p.diff : Int)
  offset : I64 (p.offset : Int)
  rest : I64 (p.rest : Int)
theorem numE_21 {n : Int} (h : I64 n) : (numE n).length ≤ 21 := by
  unfold numE
  split
  · simp
  · unfold intE
    have := itoa_len h
    simp
    omega
theorem pg_cells {w : World} {b : Nat} {p : Pg} {t : TypeId} (h : w.heap[b]? = some (.cells (pgC p) t (0, 0))) :
    w.cell? ⟨b, 0, none⟩ = some (.int .i64 p.kind) ∧ w.cell? ⟨b, 1, none⟩ = some (.int .i64 p.pos) ∧ w.cell? ⟨b, 2, none⟩ = some (.int .i64 p.number) ∧ w.cell? ⟨b, 3, none⟩ = some (.int .i64 p.diff) ∧ w.cell? ⟨b, 4, none⟩ = some (.int .i64 p.offset) ∧ w.cell? ⟨b, 5, none⟩ = some (.int .i64 p.rest) ∧ w.cell? ⟨b, 6, none⟩ = some (.string ⟨p.bytes.toArray⟩) := by
  refine ⟨?_, ?_, ?_, ?_, ?_, ?_, ?_⟩ <;> rw [cell_of_block h] <;> rfl
set_option maxRecDepth 100000 in
set_option maxHeartbeats 1000000 in
theorem header_any (p : Pg) (h : PgI p) (w : World) (E : Env w) :
    Calls Tryz.prog 42 #[pgV p] w fun e w' => e = .returned (.string ⟨(hdrP p).toArray⟩) ∧ Upd (fun _ => False) w w' := by
  obtain ⟨W1, hW1⟩ : ∃ W1, W1 = w.alloc (.cells (pgC p) 75 (0, 0)) := ⟨_, rfl⟩
  have hb : W1.heap[w.heap.size]? = some (.cells (pgC p) 75 (0, 0)) := by rw [hW1]; exact heap_alloc_new
  have u1 : Upd (fun _ => False) w W1 := by rw [hW1]; exact (Upd.refl _ _).alloc _
  obtain ⟨c0, c1, c2, c3, c4, c5, _⟩ := pg_cells hb
  have E1 := E.keep0 u1
  have hh : hdrP p = numE p.kind ++ numE p.pos ++ numE p.number ++ numE p.diff ++ numE p.offset ++ numE p.rest := rfl
  have l0 := numE_21 h.kind
  have v0 : ∀ q : UW W1, Calls Tryz.prog 68 #[.int .i64 p.kind] q.w fun e w' => e = .returned (.string ⟨(numE p.kind).toArray⟩) ∧ Upd (fun _ => False) q.w w' := fun q => numE_any _ h.kind _ (E1.keep0 q.u)
  have l1 := numE_21 h.pos
  have v1 : ∀ q : UW W1, Calls Tryz.prog 68 #[.int .i64 p.pos] q.w fun e w' => e = .returned (.string ⟨(numE p.pos).toArray⟩) ∧ Upd (fun _ => False) q.w w' := fun q => numE_any _ h.pos _ (E1.keep0 q.u)
  have l2 := numE_21 h.number
  have v2 : ∀ q : UW W1, Calls Tryz.prog 68 #[.int .i64 p.number] q.w fun e w' => e = .returned (.string ⟨(numE p.number).toArray⟩) ∧ Upd (fun _ => False) q.w w' := fun q => numE_any _ h.number _ (E1.keep0 q.u)
  have l3 := numE_21 h.diff
  have v3 : ∀ q : UW W1, Calls Tryz.prog 68 #[.int .i64 p.diff] q.w fun e w' => e = .returned (.string ⟨(numE p.diff).toArray⟩) ∧ Upd (fun _ => False) q.w w' := fun q => numE_any _ h.diff _ (E1.keep0 q.u)
  have l4 := numE_21 h.offset
  have v4 : ∀ q : UW W1, Calls Tryz.prog 68 #[.int .i64 p.offset] q.w fun e w' => e = .returned (.string ⟨(numE p.offset).toArray⟩) ∧ Upd (fun _ => False) q.w w' := fun q => numE_any _ h.offset _ (E1.keep0 q.u)
  have l5 := numE_21 h.rest
  have v5 : ∀ q : UW W1, Calls Tryz.prog 68 #[.int .i64 p.rest] q.w fun e w' => e = .returned (.string ⟨(numE p.rest).toArray⟩) ∧ Upd (fun _ => False) q.w w' := fun q => numE_any _ h.rest _ (E1.keep0 q.u)
  generalize numE (p.kind : Int) = n0 at *
  generalize (p.kind : Int) = k0 at *
  generalize numE (p.pos : Int) = n1 at *
  generalize (p.pos : Int) = k1 at *
  generalize numE (p.number : Int) = n2 at *
  generalize (p.number : Int) = k2 at *
  generalize numE (p.diff : Int) = n3 at *
  generalize (p.diff : Int) = k3 at *
  generalize numE (p.offset : Int) = n4 at *
  generalize (p.offset : Int) = k4 at *
  generalize numE (p.rest : Int) = n5 at *
  generalize (p.rest : Int) = k5 at *
  obtain ⟨s1, q1⟩ : ∃ l, n0 ++ n1 = l := ⟨_, rfl⟩
  have ls1 : s1.length ≤ 21 * 2 := by rw [← q1, List.length_append]; omega
  have a1 : ∀ w, (Op.stringOp .add ⟨n0.toArray⟩ ⟨n1.toArray⟩).run Tryz.prog w = .ok (.string ⟨s1.toArray⟩) w := fun w => by rw [← q1]; exact add_lists _ _ (by omega) w
  rw [q1] at hh
  obtain ⟨s2, q2⟩ : ∃ l, s1 ++ n2 = l := ⟨_, rfl⟩
  have ls2 : s2.length ≤ 21 * 3 := by rw [← q2, List.length_append]; omega
  have a2 : ∀ w, (Op.stringOp .add ⟨s1.toArray⟩ ⟨n2.toArray⟩).run Tryz.prog w = .ok (.string ⟨s2.toArray⟩) w := fun w => by rw [← q2]; exact add_lists _ _ (by omega) w
  rw [q2] at hh
  obtain ⟨s3, q3⟩ : ∃ l, s2 ++ n3 = l := ⟨_, rfl⟩
  have ls3 : s3.length ≤ 21 * 4 := by rw [← q3, List.length_append]; omega
  have a3 : ∀ w, (Op.stringOp .add ⟨s2.toArray⟩ ⟨n3.toArray⟩).run Tryz.prog w = .ok (.string ⟨s3.toArray⟩) w := fun w => by rw [← q3]; exact add_lists _ _ (by omega) w
  rw [q3] at hh
  obtain ⟨s4, q4⟩ : ∃ l, s3 ++ n4 = l := ⟨_, rfl⟩
  have ls4 : s4.length ≤ 21 * 5 := by rw [← q4, List.length_append]; omega
  have a4 : ∀ w, (Op.stringOp .add ⟨s3.toArray⟩ ⟨n4.toArray⟩).run Tryz.prog w = .ok (.string ⟨s4.toArray⟩) w := fun w => by rw [← q4]; exact add_lists _ _ (by omega) w
  rw [q4] at hh
  obtain ⟨s5, q5⟩ : ∃ l, s4 ++ n5 = l := ⟨_, rfl⟩
  have ls5 : s5.length ≤ 21 * 6 := by rw [← q5, List.length_append]; omega
  have a5 : ∀ w, (Op.stringOp .add ⟨s4.toArray⟩ ⟨n5.toArray⟩).run Tryz.prog w = .ok (.string ⟨s5.toArray⟩) w := fun w => by rw [← q5]; exact add_lists _ _ (by omega) w
  rw [q5] at hh
  have HH := hid hh; have U1 := hid u1; have HW := hid hW1
  clear hh hb u1 hW1 E E1 h q1 q2 q3 q4 q5 l0 l1 l2 l3 l4 l5 ls1 ls2 ls3 ls4 ls5
  have HV : pgV p = .agg (pgC p) := rfl
  go_enter Tryz.func42, Tryz.ntmps42
  go_wp2_with fail
  rw [show w.alloc (.cells (pgC p) 75 (0, 0)) = W1 from HW.out.symm]
  have ec0 := fun p : UW W1 => p.cell c0
  have ec1 := fun p : UW W1 => p.cell c1
  have ec2 := fun p : UW W1 => p.cell c2
  have ec3 := fun p : UW W1 => p.cell c3
  have ec4 := fun p : UW W1 => p.cell c4
  have ec5 := fun p : UW W1 => p.cell c5
  refine region_upd (by kernel_rfl) (by kernel_rfl) ?_
  repeat (go_big_quiet_step ((go_at_call 68; (first | with_reducible exact Calls.upd_of (v0 _) | with_reducible exact Calls.upd_of (v1 _) | with_reducible exact Calls.upd_of (v2 _) | with_reducible exact Calls.upd_of (v3 _) | with_reducible exact Calls.upd_of (v4 _) | with_reducible exact Calls.upd_of (v5 _)))))
  refine wpQuiet_nil ?_
  intro _ hw1
  refine uw_out hw1 ?_
  rintro w1 u2 rfl
  have U2 := hid u2
  clear hw1 u2
  go_wp2_with fail
  go_ret
  exact ⟨by rw [HH.out]; rfl, U1.out.trans U2.out⟩
theorem hdr_126 {p : Pg} (h : PgI p) : (hdrP p).length ≤ 126 := by
  unfold hdrP
  simp only [List.length_append]
  have := numE_21 h.kind; have := numE_21 h.pos; have := numE_21 h.number; have := numE_21 h.diff; have := numE_21 h.offset; have := numE_21 h.rest
  omega
set_option maxRecDepth 100000 in
set_option maxHeartbeats 1000000 in
theorem room_any (p : Pg) (h : PgI p) (w : World) (E : Env w) :
    Calls Tryz.prog 43 #[pgV p] w fun e w' => e = .returned (.int .i64 (roomP p)) ∧ Upd (fun _ => False) w w' := by
  obtain ⟨W1, hW1⟩ : ∃ W1, W1 = w.alloc (.cells (pgC p) 75 (0, 0)) := ⟨_, rfl⟩
  have hb : W1.heap[w.heap.size]? = some (.cells (pgC p) 75 (0, 0)) := by rw [hW1]; exact heap_alloc_new
  have u1 : Upd (fun _ => False) w W1 := by rw [hW1]; exact (Upd.refl _ _).alloc _
  obtain ⟨c0, c1, c2, c3, c4, c5, c6⟩ := pg_cells hb
  have HV : pgV p = .agg (pgC p) := rfl
  have H := hid h; have HE := hid (E.keep0 u1); have U1 := hid u1; have HW := hid hW1
  by_cases hk : p.kind = 1
  · have hr : roomP p = 0 := by unfold roomP; rw [if_pos hk]
    have HR := hid hr
    have g1 : ((p.kind : Int) == 1) = true := by rw [hk]; rfl
    clear hk hr hb u1 hW1 h E
    go_enter Tryz.func43, Tryz.ntmps43
    go_wp2_with fail
    go_ret
    exact ⟨by rw [HR.out]; rfl, by have := U1.out; rw [HW.out] at this; exact this⟩
  · have hr : roomP p = min (p.rest : Int) (64 - ((hdrP p).length : Int)) := by unfold roomP; rw [if_neg hk]
    have HR := hid hr
    have g1 : ((p.kind : Int) == 1) = false := beq_eq_false_iff_ne.2 (by omega)
    have hl := hdr_126 h
    have hri : (p.rest : Int) ≤ 9223372036854775807 := h.rest.2
    have hc : ∀ q : UW W1, Calls Tryz.prog 42 #[.agg (pgC p)] q.w fun e w2 => e = .returned (.string ⟨(hdrP p).toArray⟩) ∧ Upd (fun _ => False) q.w w2 := fun q => header_any p H.out q.w (HE.out.keep0 q.u)
    generalize hdrP p = hd at *
    have fin : ∀ x : Int, x = min (p.rest : Int) (64 - (hd.length : Int)) → ∀ w1, Upd (fun _ => False) W1 w1 → (Ending.returned (.int .i64 x) = .returned (.int .i64 (roomP p)) ∧ Upd (fun _ => False) w w1) := fun x hx w1 u => ⟨by rw [hx, ← hr], u1.trans u⟩
    have FIN := hid fin
    have w1 : IntKind.i64.wrap (64 - (hd.length : Int)) = 64 - (hd.length : Int) := IntWalk.i64_in _ (by omega)
    have w2 : wrap64 (64 - (hd.length : Int)) = 64 - (hd.length : Int) := IntWalk.wrap64_in _ (by constructor <;> omega)
    clear hk hr hb u1 hW1 h E fin
    by_cases hm : (p.rest : Int) ≤ 64 - (hd.length : Int)
    all_goals
      go_enter Tryz.func43, Tryz.ntmps43
      go_wp2_with fail
      rw [show w.alloc (.cells (pgC p) 75 (0, 0)) = W1 from HW.out.symm]
      have ec0 := fun p : UW W1 => p.cell c0
      have ec1 := fun p : UW W1 => p.cell c1
      have ec2 := fun p : UW W1 => p.cell c2
      have ec3 := fun p : UW W1 => p.cell c3
      have ec4 := fun p : UW W1 => p.cell c4
      have ec5 := fun p : UW W1 => p.cell c5
      have ec6 := fun p : UW W1 => p.cell c6
      refine region_upd (by kernel_rfl) (by kernel_rfl) ?_
      repeat (go_big_quiet_step ((go_at_call 42; with_reducible exact Calls.upd_of (hc _))))
      refine wpQuiet_nil ?_
      intro _ hw1
      refine uw_out hw1 ?_
      rintro w1 u2 rfl
      have U2 := hid u2
      clear hw1 u2
      go_wp2_with fail
      go_ret
    · exact FIN.out _ (by omega) _ U2.out
    · exact FIN.out _ (by omega) _ U2.out
end Go.Proofs.YtlefilfdomjkeaaGreatDoor
