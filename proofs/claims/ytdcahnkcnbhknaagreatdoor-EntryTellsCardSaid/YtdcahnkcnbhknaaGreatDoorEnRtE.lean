/- Walks: the reference's Read. -/
import Derived.Test.YtdcahnkcnbhknaaGreatDoorEnRtD
import Derived.Test.YtdcahnkcnbhknaaGreatDoorEnRead
import Derived.Test.YtdcahnkcnbhknaaGreatDoorWrR6
namespace Go.Proofs.YtdcahnkcnbhknaaGreatDoor
open Go.RowKit Go.Deep

set_option maxRecDepth 100000 in
set_option maxHeartbeats 40000000 in
theorem rread_any (s : List UInt8) (w : World) (hl : s.length ≤ 10000000) : Calls Tryz.prog 12 #[.string ⟨s.toArray⟩] w (ReadPost s w) := by
  have HL := hid hl
  clear hl
  go_enter Tryz.func12, Tryz.ntmps12
  go_wp2_with fail
  obtain ⟨W0, hW0⟩ : ∃ W0, W0 = w.alloc (.cells #[.int .i64 0, .int .i64 0, .int .i64 0, .slice none 0 0, .int .i64 0, .int .i64 0, .int .i64 0, .int .i64 0, .int .i64 0, .int .i64 0, .slice none 0 0, .slice none 0 0, .string ⟨#[]⟩] 25 (0, 0)) := ⟨_, rfl⟩
  have u0 : Upd (fun _ => False) w W0 := by rw [hW0]; exact (Upd.refl _ _).alloc _
  have hs0 : W0.heap.size = w.heap.size + 1 := by rw [hW0]; simp
  have hb0 : W0.heap[w.heap.size]? = some (.cells (en13 En.none none none none 0 0 0) 25 (0, 0)) := by rw [hW0]; exact heap_alloc_new
  rw [← hW0]
  refine (qopen_any s _).mono ?_
  rintro en x0 ⟨rfl, hr, u⟩
  rw [hs0] at hr
  obtain ⟨rb, hrb⟩ : ∃ x, w.heap.size + 1 = x := ⟨_, rfl⟩
  rw [hrb] at hr
  have RBW := hid (show w.heap.size < rb by omega)
  obtain ⟨XA, hXA⟩ : ∃ XA, XA = x0.alloc (.cells #[.int .i64 0, .int .i64 0, .int .i64 0, .slice none 0 0, .int .i64 0, .int .i64 0, .int .i64 0, .int .i64 0, .int .i64 0, .int .i64 0, .slice none 0 0, .slice none 0 0, .string ⟨#[]⟩] 25 (0, 0)) := ⟨_, rfl⟩
  have ua : Upd (fun _ => False) x0 XA := by rw [hXA]; exact (Upd.refl _ _).alloc _
  have hbe : XA.heap[x0.heap.size]? = some (.cells (en13 En.none none none none 0 0 0) 25 (0, 0)) := by rw [hXA]; exact heap_alloc_new
  obtain ⟨eb, heb⟩ : ∃ x, x0.heap.size = x := ⟨_, rfl⟩
  have EBL := hid (show rb < eb by rw [← heb]; exact heap_lt hr)
  rw [heb] at hbe
  have T0 := hid ((ua.block _ (Nat.lt_trans RBW.out (heap_lt hr)) id).trans ((u.block _ (heap_lt hb0) id).trans hb0))
  have V0 := hid ((u0.trans u).trans ua)
  have D0 := hid (hr.upd ua id)
  have EB0 := hid hbe
  obtain ⟨q0, hq0⟩ : ∃ q : Unit × RS, q = ((), ⟨s, false⟩) := ⟨_, rfl⟩
  have LL0 := hid (show q0.2.rest.length ≤ 10000000 by rw [hq0]; exact HL.out)
  have K0 := hid (show RS.Ok q0.2 by rw [hq0]; exact fun h => nomatch h)
  have D0 := hid (show RqAt XA rb q0.2 by rw [hq0]; exact D0.out)
  have RE := hid (show readG q0.2 = readE s by rw [hq0]; rfl)
  obtain ⟨E0, hE0⟩ : ∃ x, En.none = x := ⟨_, rfl⟩
  rw [hE0] at EB0
  have HE0 := hid hE0
  have HXA := hid hXA
  rw [hs0, hrb]
  clear u0 hs0 hb0 hW0 u hr hq0 hrb ua hbe hXA hE0
  go_wp2_with fail
  rw [← HXA.out]
  try rw [heb]
  clear HXA heb
  obtain ⟨q1, hq1⟩ : ∃ q, numF q0.2 = q := ⟨_, rfl⟩
  refine (qNumR_any rb _ _ D0.out LL0.out).mono ?_
  rintro en x1 ⟨rfl, hr, u⟩
  rw [hq1] at hr ⊢
  have G1 := hid (show I64 q1.1 by rw [← hq1]; exact numberF_i64 _ _ _)
  have K1 := hid (show RS.Ok q1.2 by rw [← hq1]; exact numF_ok K0.out)
  have LL1 := hid (show q1.2.rest.length ≤ 10000000 by rw [← hq1]; exact Nat.le_trans (numF_len0 K0.out) LL0.out)
  have D1 := hid hr
  have V1 := hid (V0.out.comp u fun i hi e => by have := RBW.out; omega)
  have T1 := hid ((u.block _ (heap_lt T0.out) fun e => by have := RBW.out; omega).trans T0.out)
  have hbe := (u.block eb (heap_lt EB0.out) (Nat.ne_of_gt EBL.out)).trans EB0.out
  have Q1 := hid hq1
  clear hr u hq1 K0 LL0 D0 V0 T0 EB0
  obtain ⟨cz, _, _, _, _, _, _, _, _, _, _, _, _⟩ := cells13 hbe
  have fz : x1.frozen? ⟨eb, 0, none⟩ = false := frozen13 hbe
  have heb' := heap_lt hbe
  obtain ⟨X1, hX⟩ : ∃ z, z = x1.setCell ⟨eb, 0, none⟩ (.int .i64 q1.1) := ⟨_, rfl⟩
  have us : Upd (· = eb) x1 X1 := by rw [hX]; exact (Upd.refl _ _).at_ 0 _
  obtain ⟨E1, hE⟩ : ∃ x, ({ E0 with author := q1.1 } : En) = x := ⟨_, rfl⟩
  have hbs : X1.heap[eb]? = some (.cells (en13 E1 none none none 0 0 0) 25 (0, 0)) := by
    rw [hX, heap_setCell_same (p := ⟨eb, 0, none⟩) rfl hbe, ← hE]
    rfl
  have EB1 := hid hbs; have HE1 := hid hE
  have D1 := hid (D1.out.upd us (Nat.ne_of_lt EBL.out))
  have V1 := hid (V1.out.comp us fun i hi e => by have := RBW.out; have := EBL.out; omega)
  have T1 := hid ((us.block _ (heap_lt T1.out) fun e => by have := RBW.out; have := EBL.out; omega).trans T1.out)
  have HX := hid hX
  clear hbe us hbs hE hX
  go_wp2_with fail
  rw [← HX.out]
  clear HX cz fz heb'
  obtain ⟨q2, hq2⟩ : ∃ q, numF q1.2 = q := ⟨_, rfl⟩
  go_wp2_with fail
  refine (qNumR_any rb _ _ D1.out LL1.out).mono ?_
  rintro en x2 ⟨rfl, hr, u⟩
  rw [hq2] at hr ⊢
  have G2 := hid (show I64 q2.1 by rw [← hq2]; exact numberF_i64 _ _ _)
  have K2 := hid (show RS.Ok q2.2 by rw [← hq2]; exact numF_ok K1.out)
  have LL2 := hid (show q2.2.rest.length ≤ 10000000 by rw [← hq2]; exact Nat.le_trans (numF_len0 K1.out) LL1.out)
  have D2 := hid hr
  have V2 := hid (V1.out.comp u fun i hi e => by have := RBW.out; omega)
  have T2 := hid ((u.block _ (heap_lt T1.out) fun e => by have := RBW.out; omega).trans T1.out)
  have hbe := (u.block eb (heap_lt EB1.out) (Nat.ne_of_gt EBL.out)).trans EB1.out
  have Q2 := hid hq2
  clear hr u hq2 K1 LL1 D1 V1 T1 EB1
  obtain ⟨_, cz, _, _, _, _, _, _, _, _, _, _, _⟩ := cells13 hbe
  have fz : x2.frozen? ⟨eb, 1, none⟩ = false := frozen13 hbe
  have heb' := heap_lt hbe
  obtain ⟨X2, hX⟩ : ∃ z, z = x2.setCell ⟨eb, 1, none⟩ (.int .i64 q2.1) := ⟨_, rfl⟩
  have us : Upd (· = eb) x2 X2 := by rw [hX]; exact (Upd.refl _ _).at_ 1 _
  obtain ⟨E2, hE⟩ : ∃ x, ({ E1 with seq := q2.1 } : En) = x := ⟨_, rfl⟩
  have hbs : X2.heap[eb]? = some (.cells (en13 E2 none none none 0 0 0) 25 (0, 0)) := by
    rw [hX, heap_setCell_same (p := ⟨eb, 1, none⟩) rfl hbe, ← hE]
    rfl
  have EB2 := hid hbs; have HE2 := hid hE
  have D2 := hid (D2.out.upd us (Nat.ne_of_lt EBL.out))
  have V2 := hid (V2.out.comp us fun i hi e => by have := RBW.out; have := EBL.out; omega)
  have T2 := hid ((us.block _ (heap_lt T2.out) fun e => by have := RBW.out; have := EBL.out; omega).trans T2.out)
  have HX := hid hX
  clear hbe us hbs hE hX
  go_wp2_with fail
  rw [← HX.out]
  clear HX cz fz heb'
  obtain ⟨q3, hq3⟩ : ∃ q, numF q2.2 = q := ⟨_, rfl⟩
  go_wp2_with fail
  refine (qNumR_any rb _ _ D2.out LL2.out).mono ?_
  rintro en x3 ⟨rfl, hr, u⟩
  rw [hq3] at hr ⊢
  have G3 := hid (show I64 q3.1 by rw [← hq3]; exact numberF_i64 _ _ _)
  have K3 := hid (show RS.Ok q3.2 by rw [← hq3]; exact numF_ok K2.out)
  have LL3 := hid (show q3.2.rest.length ≤ 10000000 by rw [← hq3]; exact Nat.le_trans (numF_len0 K2.out) LL2.out)
  have D3 := hid hr
  have V3 := hid (V2.out.comp u fun i hi e => by have := RBW.out; omega)
  have T3 := hid ((u.block _ (heap_lt T2.out) fun e => by have := RBW.out; omega).trans T2.out)
  have hbe := (u.block eb (heap_lt EB2.out) (Nat.ne_of_gt EBL.out)).trans EB2.out
  have Q3 := hid hq3
  clear hr u hq3 K2 LL2 D2 V2 T2 EB2
  obtain ⟨_, _, cz, _, _, _, _, _, _, _, _, _, _⟩ := cells13 hbe
  have fz : x3.frozen? ⟨eb, 2, none⟩ = false := frozen13 hbe
  have heb' := heap_lt hbe
  obtain ⟨X3, hX⟩ : ∃ z, z = x3.setCell ⟨eb, 2, none⟩ (.int .i64 q3.1) := ⟨_, rfl⟩
  have us : Upd (· = eb) x3 X3 := by rw [hX]; exact (Upd.refl _ _).at_ 2 _
  obtain ⟨E3, hE⟩ : ∃ x, ({ E2 with day := q3.1 } : En) = x := ⟨_, rfl⟩
  have hbs : X3.heap[eb]? = some (.cells (en13 E3 none none none 0 0 0) 25 (0, 0)) := by
    rw [hX, heap_setCell_same (p := ⟨eb, 2, none⟩) rfl hbe, ← hE]
    rfl
  have EB3 := hid hbs; have HE3 := hid hE
  have D3 := hid (D3.out.upd us (Nat.ne_of_lt EBL.out))
  have V3 := hid (V3.out.comp us fun i hi e => by have := RBW.out; have := EBL.out; omega)
  have T3 := hid ((us.block _ (heap_lt T3.out) fun e => by have := RBW.out; have := EBL.out; omega).trans T3.out)
  have HX := hid hX
  clear hbe us hbs hE hX
  go_wp2_with fail
  rw [← HX.out]
  clear HX cz fz heb'
  obtain ⟨q4, hq4⟩ : ∃ q, numsF q3.2 = q := ⟨_, rfl⟩
  go_wp2_with fail
  refine (qNumsR_any rb _ _ D3.out LL3.out K3.out).mono ?_
  rintro en x4 ⟨al4, nl4, cl4, rfl, hrep, hr, u⟩
  rw [show itemsF intF q3.2 = q4 from hq4] at hrep hr
  obtain ⟨_, _, hv, h14, h24, _⟩ := slice_open hrep
  injection hv with e1 e2 e3
  subst e1 e2 e3
  have h24 : cl4 ≤ 9223372036854775807 := h24
  have N4 := hid ((kSlice (kInt .i64)).mono hrep fun g hg => (show eb < g ∧ g < x4.heap.size from ⟨Nat.lt_of_lt_of_le (heap_lt EB3.out) hg.1, hg.2⟩))
  clear hrep
  have K4 := hid (show RS.Ok q4.2 by rw [← hq4]; exact numsF_ok K3.out)
  have LL4 := hid (show q4.2.rest.length ≤ 10000000 by rw [← hq4]; exact Nat.le_trans (numsF_len0 K3.out) LL3.out)
  have D4 := hid hr
  have V4 := hid (V3.out.comp u fun i hi e => by have := RBW.out; omega)
  have T4 := hid ((u.block _ (heap_lt T3.out) fun e => by have := RBW.out; omega).trans T3.out)
  have hbe := (u.block eb (heap_lt EB3.out) (Nat.ne_of_gt EBL.out)).trans EB3.out
  have Q4 := hid hq4
  clear hr u hq4 K3 LL3 D3 V3 T3 EB3
  obtain ⟨_, _, _, cz, _, _, _, _, _, _, _, _, _⟩ := cells13 hbe
  have fz : x4.frozen? ⟨eb, 3, none⟩ = false := frozen13 hbe
  have heb' := heap_lt hbe
  obtain ⟨X4, hX⟩ : ∃ z, z = x4.setCell ⟨eb, 3, none⟩ (.slice al4 q4.1.length cl4) := ⟨_, rfl⟩
  have us : Upd (· = eb) x4 X4 := by rw [hX]; exact (Upd.refl _ _).at_ 3 _
  obtain ⟨E4, hE⟩ : ∃ x, ({ E3 with knows := q4.1 } : En) = x := ⟨_, rfl⟩
  have hbs : X4.heap[eb]? = some (.cells (en13 E4 al4 none none cl4 0 0) 25 (0, 0)) := by
    rw [hX, heap_setCell_same (p := ⟨eb, 3, none⟩) rfl hbe, ← hE]
    rfl
  have EB4 := hid hbs; have HE4 := hid hE
  have D4 := hid (D4.out.upd us (Nat.ne_of_lt EBL.out))
  have V4 := hid (V4.out.comp us fun i hi e => by have := RBW.out; have := EBL.out; omega)
  have T4 := hid ((us.block _ (heap_lt T4.out) fun e => by have := RBW.out; have := EBL.out; omega).trans T4.out)
  have N4 := hid ((kSlice (kInt .i64)).mono (rep_keep_ne N4.out us fun g hg => Nat.ne_of_gt hg.1) fun g hg => (show eb < g ∧ g < X4.heap.size from ⟨hg.1, Nat.lt_of_lt_of_le hg.2 us.size⟩))
  have HX := hid hX
  clear hbe us hbs hE hX
  go_wp2_with fail
  rw [← HX.out]
  clear HX cz fz heb'
  obtain ⟨q5, hq5⟩ : ∃ q, numF q4.2 = q := ⟨_, rfl⟩
  go_wp2_with fail
  refine (qNumR_any rb _ _ D4.out LL4.out).mono ?_
  rintro en x5 ⟨rfl, hr, u⟩
  rw [hq5] at hr ⊢
  have G5 := hid (show I64 q5.1 by rw [← hq5]; exact numberF_i64 _ _ _)
  have N4 := hid ((kSlice (kInt .i64)).mono (rep_keep_ne N4.out u fun g hg => Nat.ne_of_gt (Nat.lt_trans EBL.out hg.1)) fun g hg => (show eb < g ∧ g < x5.heap.size from ⟨hg.1, Nat.lt_of_lt_of_le hg.2 u.size⟩))
  have K5 := hid (show RS.Ok q5.2 by rw [← hq5]; exact numF_ok K4.out)
  have LL5 := hid (show q5.2.rest.length ≤ 10000000 by rw [← hq5]; exact Nat.le_trans (numF_len0 K4.out) LL4.out)
  have D5 := hid hr
  have V5 := hid (V4.out.comp u fun i hi e => by have := RBW.out; omega)
  have T5 := hid ((u.block _ (heap_lt T4.out) fun e => by have := RBW.out; omega).trans T4.out)
  have hbe := (u.block eb (heap_lt EB4.out) (Nat.ne_of_gt EBL.out)).trans EB4.out
  have Q5 := hid hq5
  clear hr u hq5 K4 LL4 D4 V4 T4 EB4
  obtain ⟨_, _, _, _, cz, _, _, _, _, _, _, _, _⟩ := cells13 hbe
  have fz : x5.frozen? ⟨eb, 4, none⟩ = false := frozen13 hbe
  have heb' := heap_lt hbe
  obtain ⟨X5, hX⟩ : ∃ z, z = x5.setCell ⟨eb, 4, none⟩ (.int .i64 q5.1) := ⟨_, rfl⟩
  have us : Upd (· = eb) x5 X5 := by rw [hX]; exact (Upd.refl _ _).at_ 4 _
  obtain ⟨E5, hE⟩ : ∃ x, ({ E4 with kind := q5.1 } : En) = x := ⟨_, rfl⟩
  have hbs : X5.heap[eb]? = some (.cells (en13 E5 al4 none none cl4 0 0) 25 (0, 0)) := by
    rw [hX, heap_setCell_same (p := ⟨eb, 4, none⟩) rfl hbe, ← hE]
    rfl
  have EB5 := hid hbs; have HE5 := hid hE
  have D5 := hid (D5.out.upd us (Nat.ne_of_lt EBL.out))
  have V5 := hid (V5.out.comp us fun i hi e => by have := RBW.out; have := EBL.out; omega)
  have T5 := hid ((us.block _ (heap_lt T5.out) fun e => by have := RBW.out; have := EBL.out; omega).trans T5.out)
  have N4 := hid ((kSlice (kInt .i64)).mono (rep_keep_ne N4.out us fun g hg => Nat.ne_of_gt hg.1) fun g hg => (show eb < g ∧ g < X5.heap.size from ⟨hg.1, Nat.lt_of_lt_of_le hg.2 us.size⟩))
  have HX := hid hX
  clear hbe us hbs hE hX
  go_wp2_with fail
  rw [← HX.out]
  clear HX cz fz heb'
  obtain ⟨q6, hq6⟩ : ∃ q, numF q5.2 = q := ⟨_, rfl⟩
  go_wp2_with fail
  refine (qNumR_any rb _ _ D5.out LL5.out).mono ?_
  rintro en x6 ⟨rfl, hr, u⟩
  rw [hq6] at hr ⊢
  have G6 := hid (show I64 q6.1 by rw [← hq6]; exact numberF_i64 _ _ _)
  have N4 := hid ((kSlice (kInt .i64)).mono (rep_keep_ne N4.out u fun g hg => Nat.ne_of_gt (Nat.lt_trans EBL.out hg.1)) fun g hg => (show eb < g ∧ g < x6.heap.size from ⟨hg.1, Nat.lt_of_lt_of_le hg.2 u.size⟩))
  have K6 := hid (show RS.Ok q6.2 by rw [← hq6]; exact numF_ok K5.out)
  have LL6 := hid (show q6.2.rest.length ≤ 10000000 by rw [← hq6]; exact Nat.le_trans (numF_len0 K5.out) LL5.out)
  have D6 := hid hr
  have V6 := hid (V5.out.comp u fun i hi e => by have := RBW.out; omega)
  have T6 := hid ((u.block _ (heap_lt T5.out) fun e => by have := RBW.out; omega).trans T5.out)
  have hbe := (u.block eb (heap_lt EB5.out) (Nat.ne_of_gt EBL.out)).trans EB5.out
  have Q6 := hid hq6
  clear hr u hq6 K5 LL5 D5 V5 T5 EB5
  obtain ⟨_, _, _, _, _, cz, _, _, _, _, _, _, _⟩ := cells13 hbe
  have fz : x6.frozen? ⟨eb, 5, none⟩ = false := frozen13 hbe
  have heb' := heap_lt hbe
  obtain ⟨X6, hX⟩ : ∃ z, z = x6.setCell ⟨eb, 5, none⟩ (.int .i64 q6.1) := ⟨_, rfl⟩
  have us : Upd (· = eb) x6 X6 := by rw [hX]; exact (Upd.refl _ _).at_ 5 _
  obtain ⟨E6, hE⟩ : ∃ x, ({ E5 with circle := q6.1 } : En) = x := ⟨_, rfl⟩
  have hbs : X6.heap[eb]? = some (.cells (en13 E6 al4 none none cl4 0 0) 25 (0, 0)) := by
    rw [hX, heap_setCell_same (p := ⟨eb, 5, none⟩) rfl hbe, ← hE]
    rfl
  have EB6 := hid hbs; have HE6 := hid hE
  have D6 := hid (D6.out.upd us (Nat.ne_of_lt EBL.out))
  have V6 := hid (V6.out.comp us fun i hi e => by have := RBW.out; have := EBL.out; omega)
  have T6 := hid ((us.block _ (heap_lt T6.out) fun e => by have := RBW.out; have := EBL.out; omega).trans T6.out)
  have N4 := hid ((kSlice (kInt .i64)).mono (rep_keep_ne N4.out us fun g hg => Nat.ne_of_gt hg.1) fun g hg => (show eb < g ∧ g < X6.heap.size from ⟨hg.1, Nat.lt_of_lt_of_le hg.2 us.size⟩))
  have HX := hid hX
  clear hbe us hbs hE hX
  go_wp2_with fail
  rw [← HX.out]
  clear HX cz fz heb'
  obtain ⟨q7, hq7⟩ : ∃ q, numF q6.2 = q := ⟨_, rfl⟩
  go_wp2_with fail
  refine (qNumR_any rb _ _ D6.out LL6.out).mono ?_
  rintro en x7 ⟨rfl, hr, u⟩
  rw [hq7] at hr ⊢
  have G7 := hid (show I64 q7.1 by rw [← hq7]; exact numberF_i64 _ _ _)
  have N4 := hid ((kSlice (kInt .i64)).mono (rep_keep_ne N4.out u fun g hg => Nat.ne_of_gt (Nat.lt_trans EBL.out hg.1)) fun g hg => (show eb < g ∧ g < x7.heap.size from ⟨hg.1, Nat.lt_of_lt_of_le hg.2 u.size⟩))
  have K7 := hid (show RS.Ok q7.2 by rw [← hq7]; exact numF_ok K6.out)
  have LL7 := hid (show q7.2.rest.length ≤ 10000000 by rw [← hq7]; exact Nat.le_trans (numF_len0 K6.out) LL6.out)
  have D7 := hid hr
  have V7 := hid (V6.out.comp u fun i hi e => by have := RBW.out; omega)
  have T7 := hid ((u.block _ (heap_lt T6.out) fun e => by have := RBW.out; omega).trans T6.out)
  have hbe := (u.block eb (heap_lt EB6.out) (Nat.ne_of_gt EBL.out)).trans EB6.out
  have Q7 := hid hq7
  clear hr u hq7 K6 LL6 D6 V6 T6 EB6
  obtain ⟨_, _, _, _, _, _, cz, _, _, _, _, _, _⟩ := cells13 hbe
  have fz : x7.frozen? ⟨eb, 6, none⟩ = false := frozen13 hbe
  have heb' := heap_lt hbe
  obtain ⟨X7, hX⟩ : ∃ z, z = x7.setCell ⟨eb, 6, none⟩ (.int .i64 q7.1) := ⟨_, rfl⟩
  have us : Upd (· = eb) x7 X7 := by rw [hX]; exact (Upd.refl _ _).at_ 6 _
  obtain ⟨E7, hE⟩ : ∃ x, ({ E6 with who := q7.1 } : En) = x := ⟨_, rfl⟩
  have hbs : X7.heap[eb]? = some (.cells (en13 E7 al4 none none cl4 0 0) 25 (0, 0)) := by
    rw [hX, heap_setCell_same (p := ⟨eb, 6, none⟩) rfl hbe, ← hE]
    rfl
  have EB7 := hid hbs; have HE7 := hid hE
  have D7 := hid (D7.out.upd us (Nat.ne_of_lt EBL.out))
  have V7 := hid (V7.out.comp us fun i hi e => by have := RBW.out; have := EBL.out; omega)
  have T7 := hid ((us.block _ (heap_lt T7.out) fun e => by have := RBW.out; have := EBL.out; omega).trans T7.out)
  have N4 := hid ((kSlice (kInt .i64)).mono (rep_keep_ne N4.out us fun g hg => Nat.ne_of_gt hg.1) fun g hg => (show eb < g ∧ g < X7.heap.size from ⟨hg.1, Nat.lt_of_lt_of_le hg.2 us.size⟩))
  have HX := hid hX
  clear hbe us hbs hE hX
  go_wp2_with fail
  rw [← HX.out]
  clear HX cz fz heb'
  obtain ⟨q8, hq8⟩ : ∃ q, intF q7.2 = q := ⟨_, rfl⟩
  go_wp2_with fail
  refine (qIntR_any rb _ _ D7.out LL7.out).mono ?_
  rintro en x8 ⟨rfl, hr, u⟩
  rw [hq8] at hr ⊢
  have G8 := hid (show I64 q8.1 by rw [← hq8]; exact numberF_i64 _ _ _)
  have N4 := hid ((kSlice (kInt .i64)).mono (rep_keep_ne N4.out u fun g hg => Nat.ne_of_gt (Nat.lt_trans EBL.out hg.1)) fun g hg => (show eb < g ∧ g < x8.heap.size from ⟨hg.1, Nat.lt_of_lt_of_le hg.2 u.size⟩))
  have K8 := hid (show RS.Ok q8.2 by rw [← hq8]; exact intF_ok K7.out)
  have LL8 := hid (show q8.2.rest.length ≤ 10000000 by rw [← hq8]; exact Nat.le_trans (intF_len0 K7.out) LL7.out)
  have D8 := hid hr
  have V8 := hid (V7.out.comp u fun i hi e => by have := RBW.out; omega)
  have T8 := hid ((u.block _ (heap_lt T7.out) fun e => by have := RBW.out; omega).trans T7.out)
  have hbe := (u.block eb (heap_lt EB7.out) (Nat.ne_of_gt EBL.out)).trans EB7.out
  have Q8 := hid hq8
  clear hr u hq8 K7 LL7 D7 V7 T7 EB7
  obtain ⟨_, _, _, _, _, _, _, cz, _, _, _, _, _⟩ := cells13 hbe
  have fz : x8.frozen? ⟨eb, 7, none⟩ = false := frozen13 hbe
  have heb' := heap_lt hbe
  obtain ⟨X8, hX⟩ : ∃ z, z = x8.setCell ⟨eb, 7, none⟩ (.int .i64 q8.1) := ⟨_, rfl⟩
  have us : Upd (· = eb) x8 X8 := by rw [hX]; exact (Upd.refl _ _).at_ 7 _
  obtain ⟨E8, hE⟩ : ∃ x, ({ E7 with n := q8.1 } : En) = x := ⟨_, rfl⟩
  have hbs : X8.heap[eb]? = some (.cells (en13 E8 al4 none none cl4 0 0) 25 (0, 0)) := by
    rw [hX, heap_setCell_same (p := ⟨eb, 7, none⟩) rfl hbe, ← hE]
    rfl
  have EB8 := hid hbs; have HE8 := hid hE
  have D8 := hid (D8.out.upd us (Nat.ne_of_lt EBL.out))
  have V8 := hid (V8.out.comp us fun i hi e => by have := RBW.out; have := EBL.out; omega)
  have T8 := hid ((us.block _ (heap_lt T8.out) fun e => by have := RBW.out; have := EBL.out; omega).trans T8.out)
  have N4 := hid ((kSlice (kInt .i64)).mono (rep_keep_ne N4.out us fun g hg => Nat.ne_of_gt hg.1) fun g hg => (show eb < g ∧ g < X8.heap.size from ⟨hg.1, Nat.lt_of_lt_of_le hg.2 us.size⟩))
  have HX := hid hX
  clear hbe us hbs hE hX
  go_wp2_with fail
  rw [← HX.out]
  clear HX cz fz heb'
  obtain ⟨q9, hq9⟩ : ∃ q, intF q8.2 = q := ⟨_, rfl⟩
  go_wp2_with fail
  refine (qIntR_any rb _ _ D8.out LL8.out).mono ?_
  rintro en x9 ⟨rfl, hr, u⟩
  rw [hq9] at hr ⊢
  have G9 := hid (show I64 q9.1 by rw [← hq9]; exact numberF_i64 _ _ _)
  have N4 := hid ((kSlice (kInt .i64)).mono (rep_keep_ne N4.out u fun g hg => Nat.ne_of_gt (Nat.lt_trans EBL.out hg.1)) fun g hg => (show eb < g ∧ g < x9.heap.size from ⟨hg.1, Nat.lt_of_lt_of_le hg.2 u.size⟩))
  have K9 := hid (show RS.Ok q9.2 by rw [← hq9]; exact intF_ok K8.out)
  have LL9 := hid (show q9.2.rest.length ≤ 10000000 by rw [← hq9]; exact Nat.le_trans (intF_len0 K8.out) LL8.out)
  have D9 := hid hr
  have V9 := hid (V8.out.comp u fun i hi e => by have := RBW.out; omega)
  have T9 := hid ((u.block _ (heap_lt T8.out) fun e => by have := RBW.out; omega).trans T8.out)
  have hbe := (u.block eb (heap_lt EB8.out) (Nat.ne_of_gt EBL.out)).trans EB8.out
  have Q9 := hid hq9
  clear hr u hq9 K8 LL8 D8 V8 T8 EB8
  obtain ⟨_, _, _, _, _, _, _, _, cz, _, _, _, _⟩ := cells13 hbe
  have fz : x9.frozen? ⟨eb, 8, none⟩ = false := frozen13 hbe
  have heb' := heap_lt hbe
  obtain ⟨X9, hX⟩ : ∃ z, z = x9.setCell ⟨eb, 8, none⟩ (.int .i64 q9.1) := ⟨_, rfl⟩
  have us : Upd (· = eb) x9 X9 := by rw [hX]; exact (Upd.refl _ _).at_ 8 _
  obtain ⟨E9, hE⟩ : ∃ x, ({ E8 with m := q9.1 } : En) = x := ⟨_, rfl⟩
  have hbs : X9.heap[eb]? = some (.cells (en13 E9 al4 none none cl4 0 0) 25 (0, 0)) := by
    rw [hX, heap_setCell_same (p := ⟨eb, 8, none⟩) rfl hbe, ← hE]
    rfl
  have EB9 := hid hbs; have HE9 := hid hE
  have D9 := hid (D9.out.upd us (Nat.ne_of_lt EBL.out))
  have V9 := hid (V9.out.comp us fun i hi e => by have := RBW.out; have := EBL.out; omega)
  have T9 := hid ((us.block _ (heap_lt T9.out) fun e => by have := RBW.out; have := EBL.out; omega).trans T9.out)
  have N4 := hid ((kSlice (kInt .i64)).mono (rep_keep_ne N4.out us fun g hg => Nat.ne_of_gt hg.1) fun g hg => (show eb < g ∧ g < X9.heap.size from ⟨hg.1, Nat.lt_of_lt_of_le hg.2 us.size⟩))
  have HX := hid hX
  clear hbe us hbs hE hX
  go_wp2_with fail
  rw [← HX.out]
  clear HX cz fz heb'
  obtain ⟨q10, hq10⟩ : ∃ q, intF q9.2 = q := ⟨_, rfl⟩
  go_wp2_with fail
  refine (qIntR_any rb _ _ D9.out LL9.out).mono ?_
  rintro en x10 ⟨rfl, hr, u⟩
  rw [hq10] at hr ⊢
  have G10 := hid (show I64 q10.1 by rw [← hq10]; exact numberF_i64 _ _ _)
  have N4 := hid ((kSlice (kInt .i64)).mono (rep_keep_ne N4.out u fun g hg => Nat.ne_of_gt (Nat.lt_trans EBL.out hg.1)) fun g hg => (show eb < g ∧ g < x10.heap.size from ⟨hg.1, Nat.lt_of_lt_of_le hg.2 u.size⟩))
  have K10 := hid (show RS.Ok q10.2 by rw [← hq10]; exact intF_ok K9.out)
  have LL10 := hid (show q10.2.rest.length ≤ 10000000 by rw [← hq10]; exact Nat.le_trans (intF_len0 K9.out) LL9.out)
  have D10 := hid hr
  have V10 := hid (V9.out.comp u fun i hi e => by have := RBW.out; omega)
  have T10 := hid ((u.block _ (heap_lt T9.out) fun e => by have := RBW.out; omega).trans T9.out)
  have hbe := (u.block eb (heap_lt EB9.out) (Nat.ne_of_gt EBL.out)).trans EB9.out
  have Q10 := hid hq10
  clear hr u hq10 K9 LL9 D9 V9 T9 EB9
  obtain ⟨_, _, _, _, _, _, _, _, _, cz, _, _, _⟩ := cells13 hbe
  have fz : x10.frozen? ⟨eb, 9, none⟩ = false := frozen13 hbe
  have heb' := heap_lt hbe
  obtain ⟨X10, hX⟩ : ∃ z, z = x10.setCell ⟨eb, 9, none⟩ (.int .i64 q10.1) := ⟨_, rfl⟩
  have us : Upd (· = eb) x10 X10 := by rw [hX]; exact (Upd.refl _ _).at_ 9 _
  obtain ⟨E10, hE⟩ : ∃ x, ({ E9 with ref := q10.1 } : En) = x := ⟨_, rfl⟩
  have hbs : X10.heap[eb]? = some (.cells (en13 E10 al4 none none cl4 0 0) 25 (0, 0)) := by
    rw [hX, heap_setCell_same (p := ⟨eb, 9, none⟩) rfl hbe, ← hE]
    rfl
  have EB10 := hid hbs; have HE10 := hid hE
  have D10 := hid (D10.out.upd us (Nat.ne_of_lt EBL.out))
  have V10 := hid (V10.out.comp us fun i hi e => by have := RBW.out; have := EBL.out; omega)
  have T10 := hid ((us.block _ (heap_lt T10.out) fun e => by have := RBW.out; have := EBL.out; omega).trans T10.out)
  have N4 := hid ((kSlice (kInt .i64)).mono (rep_keep_ne N4.out us fun g hg => Nat.ne_of_gt hg.1) fun g hg => (show eb < g ∧ g < X10.heap.size from ⟨hg.1, Nat.lt_of_lt_of_le hg.2 us.size⟩))
  have HX := hid hX
  clear hbe us hbs hE hX
  go_wp2_with fail
  rw [← HX.out]
  clear HX cz fz heb'
  obtain ⟨q11, hq11⟩ : ∃ q, numsF q10.2 = q := ⟨_, rfl⟩
  go_wp2_with fail
  refine (qNumsR_any rb _ _ D10.out LL10.out K10.out).mono ?_
  rintro en x11 ⟨al11, nl11, cl11, rfl, hrep, hr, u⟩
  rw [show itemsF intF q10.2 = q11 from hq11] at hrep hr
  obtain ⟨_, _, hv, h111, h211, _⟩ := slice_open hrep
  injection hv with e1 e2 e3
  subst e1 e2 e3
  have h211 : cl11 ≤ 9223372036854775807 := h211
  have N11 := hid ((kSlice (kInt .i64)).mono hrep fun g hg => (show eb < g ∧ g < x11.heap.size from ⟨Nat.lt_of_lt_of_le (heap_lt EB10.out) hg.1, hg.2⟩))
  clear hrep
  have N4 := hid ((kSlice (kInt .i64)).mono (rep_keep_ne N4.out u fun g hg => Nat.ne_of_gt (Nat.lt_trans EBL.out hg.1)) fun g hg => (show eb < g ∧ g < x11.heap.size from ⟨hg.1, Nat.lt_of_lt_of_le hg.2 u.size⟩))
  have K11 := hid (show RS.Ok q11.2 by rw [← hq11]; exact numsF_ok K10.out)
  have LL11 := hid (show q11.2.rest.length ≤ 10000000 by rw [← hq11]; exact Nat.le_trans (numsF_len0 K10.out) LL10.out)
  have D11 := hid hr
  have V11 := hid (V10.out.comp u fun i hi e => by have := RBW.out; omega)
  have T11 := hid ((u.block _ (heap_lt T10.out) fun e => by have := RBW.out; omega).trans T10.out)
  have hbe := (u.block eb (heap_lt EB10.out) (Nat.ne_of_gt EBL.out)).trans EB10.out
  have Q11 := hid hq11
  clear hr u hq11 K10 LL10 D10 V10 T10 EB10
  obtain ⟨_, _, _, _, _, _, _, _, _, _, cz, _, _⟩ := cells13 hbe
  have fz : x11.frozen? ⟨eb, 10, none⟩ = false := frozen13 hbe
  have heb' := heap_lt hbe
  obtain ⟨X11, hX⟩ : ∃ z, z = x11.setCell ⟨eb, 10, none⟩ (.slice al11 q11.1.length cl11) := ⟨_, rfl⟩
  have us : Upd (· = eb) x11 X11 := by rw [hX]; exact (Upd.refl _ _).at_ 10 _
  obtain ⟨E11, hE⟩ : ∃ x, ({ E10 with keys := q11.1 } : En) = x := ⟨_, rfl⟩
  have hbs : X11.heap[eb]? = some (.cells (en13 E11 al4 al11 none cl4 cl11 0) 25 (0, 0)) := by
    rw [hX, heap_setCell_same (p := ⟨eb, 10, none⟩) rfl hbe, ← hE]
    rfl
  have EB11 := hid hbs; have HE11 := hid hE
  have D11 := hid (D11.out.upd us (Nat.ne_of_lt EBL.out))
  have V11 := hid (V11.out.comp us fun i hi e => by have := RBW.out; have := EBL.out; omega)
  have T11 := hid ((us.block _ (heap_lt T11.out) fun e => by have := RBW.out; have := EBL.out; omega).trans T11.out)
  have N4 := hid ((kSlice (kInt .i64)).mono (rep_keep_ne N4.out us fun g hg => Nat.ne_of_gt hg.1) fun g hg => (show eb < g ∧ g < X11.heap.size from ⟨hg.1, Nat.lt_of_lt_of_le hg.2 us.size⟩))
  have N11 := hid ((kSlice (kInt .i64)).mono (rep_keep_ne N11.out us fun g hg => Nat.ne_of_gt hg.1) fun g hg => (show eb < g ∧ g < X11.heap.size from ⟨hg.1, Nat.lt_of_lt_of_le hg.2 us.size⟩))
  have HX := hid hX
  clear hbe us hbs hE hX
  go_wp2_with fail
  rw [← HX.out]
  clear HX cz fz heb'
  obtain ⟨q12, hq12⟩ : ∃ q, numF q11.2 = q := ⟨_, rfl⟩
  go_wp2_with fail
  refine (qNumR_any rb _ _ D11.out LL11.out).mono ?_
  rintro en x12 ⟨rfl, hr, u⟩
  rw [hq12] at hr ⊢
  have G12 := hid (show I64 q12.1 by rw [← hq12]; exact numberF_i64 _ _ _)
  have N4 := hid ((kSlice (kInt .i64)).mono (rep_keep_ne N4.out u fun g hg => Nat.ne_of_gt (Nat.lt_trans EBL.out hg.1)) fun g hg => (show eb < g ∧ g < x12.heap.size from ⟨hg.1, Nat.lt_of_lt_of_le hg.2 u.size⟩))
  have N11 := hid ((kSlice (kInt .i64)).mono (rep_keep_ne N11.out u fun g hg => Nat.ne_of_gt (Nat.lt_trans EBL.out hg.1)) fun g hg => (show eb < g ∧ g < x12.heap.size from ⟨hg.1, Nat.lt_of_lt_of_le hg.2 u.size⟩))
  have K12 := hid (show RS.Ok q12.2 by rw [← hq12]; exact numF_ok K11.out)
  have LL12 := hid (show q12.2.rest.length ≤ 10000000 by rw [← hq12]; exact Nat.le_trans (numF_len0 K11.out) LL11.out)
  have D12 := hid hr
  have V12 := hid (V11.out.comp u fun i hi e => by have := RBW.out; omega)
  have T12 := hid ((u.block _ (heap_lt T11.out) fun e => by have := RBW.out; omega).trans T11.out)
  have hbe := (u.block eb (heap_lt EB11.out) (Nat.ne_of_gt EBL.out)).trans EB11.out
  have Q12 := hid hq12
  clear hr u hq12 K11 LL11 D11 V11 T11 EB11
  have EB12 := hid hbe
  clear hbe
  have HEN := hid (show E11 = ⟨q1.1, q2.1, q3.1, q4.1, q5.1, q6.1, q7.1, q8.1, q9.1, q10.1, q11.1, [], []⟩ by
    rw [← HE11.out, ← HE10.out, ← HE9.out, ← HE8.out, ← HE7.out, ← HE6.out, ← HE5.out, ← HE4.out, ← HE3.out, ← HE2.out, ← HE1.out, ← HE0.out]; rfl)
  clear HE0 HE1 HE2 HE3 HE4 HE5 HE6 HE7 HE8 HE9 HE10 HE11
  obtain ⟨e0, he0⟩ : ∃ e, E11 = e := ⟨_, rfl⟩
  rw [he0] at EB12 HEN
  clear he0
  obtain ⟨SP, hSP⟩ : ∃ x, spansF 42 q12.1 q12.2 [] = x := ⟨_, rfl⟩
  obtain ⟨qt, hqt⟩ : ∃ x, textF SP.2 = x := ⟨_, rfl⟩
  have RD := hid (show readE s = (({ e0 with spans := SP.1, text := qt.1 } : En), qt.2) by
    rw [← RE.out, readG_eq Q1.out Q2.out Q3.out Q4.out Q5.out Q6.out Q7.out Q8.out Q9.out Q10.out Q11.out Q12.out hSP hqt, HEN.out])
  have HSP := hid hSP; have HQT := hid hqt
  have EK := hid (show e0.knows = q4.1 ∧ e0.keys = q11.1 by rw [HEN.out]; exact ⟨rfl, rfl⟩)
  have HE0z := hid (show ({ e0 with spans := ([] : List Sp) } : En) = e0 by rw [HEN.out])
  clear RE hSP hqt Q1 Q2 Q3 Q4 Q5 Q6 Q7 Q8 Q9 Q10 Q11 Q12 HEN
  obtain ⟨mn, hmn⟩ : ∃ x, q12.1 = x := ⟨_, rfl⟩
  rw [hmn] at HSP G12
  try rw [hmn]
  have hi12 : -9223372036854775808 ≤ mn := G12.out.1
  have hi13 : mn ≤ 9223372036854775807 := G12.out.2
  clear hmn G1 G2 G3 G5 G6 G7 G8 G9 G10 G12
  go_wp2_with fail
  go_loopg [7, 8] 42 (fun gg s7 _ wr => ∃ (i : Nat) (r : RS) (acc : List Sp) (a3 : Option Addr) (c3 : Nat), i + gg = 42 ∧ i ≤ 41 ∧ acc.length = i ∧ s7 = .int .i64 i ∧ r.Ok ∧ r.rest.length ≤ 10000000 ∧ RqAt wr rb r ∧ wr.heap[eb]? = some (.cells (en13 { e0 with spans := acc } al4 al11 a3 cl4 cl11 c3) 25 (0, 0)) ∧ wr.ownsRow x12.heap.size 39 3 (.slice a3 acc.length c3) acc.length (flatS acc) ∧ (∀ s ∈ acc, SpWf s) ∧ spansF gg (mn - i) r acc = SP ∧ Upd (fun i => i = rb ∨ i = eb) x12 wr)
  case atStart => exact ⟨0, q12.2, [], none, 0, rfl, by decide, rfl, rfl, K12.out, LL12.out, D12.out, by rw [HE0z.out]; exact EB12.out, World.ownsRow_nil _ _ _ _, (fun s hs => nomatch hs), by rw [show mn - ((0 : Nat) : Int) = mn by omega]; exact HSP.out, Upd.refl _ _⟩
  case round =>
    obtain ⟨i, r, acc, a3, c3, hgl, hil, hal, rfl, hok, hrl, hr, hbl, hown, hwf, hsp, u⟩ := hrel
    obtain ⟨f, rfl⟩ : ∃ f, gk = f + 1 := ⟨gk - 1, by omega⟩
    have HOK := hid hok
    have RR := hid hr; have BL := hid hbl; have OW := hid hown; have WF := hid hwf; have SPF := hid hsp; have UL := hid u; have HAL := hid hal
    obtain ⟨_, _, _, _, _, _, _, _, _, _, _, d11, _⟩ := cells13 hbl
    have d11 : wr.cell? ⟨eb, 11, none⟩ = some (.slice a3 acc.length c3) := d11
    clear hr hbl hown hwf hsp u hok hal
    by_cases hA : (i : Int) < mn
    case neg =>
      have tA : decide ((i : Int) < mn) = false := decide_eq_false hA
      have hspe := SPF.out
      rw [spansF_stop (fun h => hA (by have := h.1; omega))] at hspe
      subst hspe
      have HQ := hid (show textF r = qt from HQT.out)
      have UZ := hid (V12.out.comp UL.out fun i hi e => by have := RBW.out; have := EBL.out; omega)
      have TZ := hid ((UL.out.block _ (heap_lt T12.out) fun e => by have := RBW.out; have := EBL.out; omega).trans T12.out)
      have M4 := hid ((kSlice (kInt .i64)).keep N4.out fun g hg _ => UL.out.block g hg.2 fun e => by have := hg.1; have := EBL.out; omega)
      have M11 := hid ((kSlice (kInt .i64)).keep N11.out fun g hg _ => UL.out.block g hg.2 fun e => by have := hg.1; have := EBL.out; omega)
      have EBX := hid (heap_lt EB12.out)
      have XS12 := hid UL.out.size
      clear SPF UL HQT V12 T12 N4 N11 EB12
      go_wp2_with fail
      clear tA hA
      refine (qTextR_any rb r _ RR.out hrl HOK.out).mono ?_
      rintro en wt ⟨rfl, ht, u⟩
      rw [HQ.out] at ht ⊢
      have hbt := (u.block _ (heap_lt BL.out) (Nat.ne_of_gt EBL.out)).trans BL.out
      have ft : wt.frozen? ⟨eb, 12, none⟩ = false := frozen13 hbt
      obtain ⟨_, _, _, _, _, _, _, _, _, _, _, _, dt⟩ := cells13 hbt
      have UT := hid (UZ.out.comp u fun i hi e => by have := RBW.out; omega)
      have TT := hid ((u.block _ (heap_lt TZ.out) fun e => by have := RBW.out; omega).trans TZ.out)
      have P4 := hid (rep_keep_ne M4.out u fun g hg => Nat.ne_of_gt (Nat.lt_trans EBL.out hg.1))
      have P11 := hid (rep_keep_ne M11.out u fun g hg => Nat.ne_of_gt (Nat.lt_trans EBL.out hg.1))
      have PS := hid (ownsRow_upd OW.out u fun g hg e => by have := (OW.out.lt g hg).1; have := EBX.out; have := EBL.out; omega)
      have HT := hid ht; have HBT := hid hbt
      have USZ := hid u.size
      clear ht hbt u UZ TZ M4 M11 OW BL RR d11
      go_wp2_with fail
      clear dt ft
      obtain ⟨W5, hW5⟩ : ∃ W5, W5 = wt.setCell ⟨eb, 12, none⟩ (.string ⟨qt.1.toArray⟩) := ⟨_, rfl⟩
      rw [← hW5]
      have u5 : Upd (· = eb) wt W5 := by rw [hW5]; exact (Upd.refl _ _).at_ 12 _
      obtain ⟨x, hx⟩ : ∃ x : En, { e0 with spans := acc, text := qt.1 } = x := ⟨_, rfl⟩
      have hb5 : W5.heap[eb]? = some (.cells (en13 x al4 al11 a3 cl4 cl11 c3) 25 (0, 0)) := by rw [hW5, store_12 HBT.out, ← hx]
      have RDX := hid (show readE s = (x, qt.2) by rw [RD.out, hx])
      have hr5 := HT.out.upd u5 (Nat.ne_of_lt EBL.out)
      have U5 := hid (UT.out.comp u5 fun i hi e => by have := EBL.out; have := RBW.out; omega)
      have T5 := hid ((u5.block _ (heap_lt TT.out) fun e => by have := EBL.out; have := RBW.out; omega).trans TT.out)
      have ek := EK.out
      have X1 : Hid (x.knows = q4.1) := hid (by rw [← hx]; exact ek.1)
      have X2 : Hid (x.keys = q11.1) := hid (by rw [← hx]; exact ek.2)
      have X3 : Hid (x.spans = acc) := hid (by rw [← hx])
      have r4 := rep_keep_ne P4.out u5 fun g hg => Nat.ne_of_gt hg.1
      have r11 := rep_keep_ne P11.out u5 fun g hg => Nat.ne_of_gt hg.1
      have rs := sps_own_rep (A := fun g => w.heap.size < g ∧ g < W5.heap.size) (ownsRow_upd PS.out u5 fun g hg e => by have := (PS.out.lt g hg).1; have := EBX.out; omega) WF.out fun g hg => ⟨by have := (PS.out.lt g hg).1; have := EBX.out; have := EBL.out; have := RBW.out; omega, Nat.lt_of_lt_of_le (PS.out.lt g hg).2 u5.size⟩
      have hsz5 : eb < W5.heap.size := heap_lt hb5
      have hx12 : x12.heap.size ≤ W5.heap.size := Nat.le_trans XS12.out (Nat.le_trans USZ.out u5.size)
      have hrep : EnRep (fun g => w.heap.size < g ∧ g < W5.heap.size) W5 x al4 al11 a3 cl4 cl11 c3 :=
        ⟨by rw [X1.out]; exact (kSlice (kInt .i64)).mono r4 fun g hg => ⟨Nat.lt_trans (Nat.lt_trans RBW.out EBL.out) hg.1, Nat.lt_of_lt_of_le hg.2 hx12⟩, by rw [X2.out]; exact (kSlice (kInt .i64)).mono r11 fun g hg => ⟨Nat.lt_trans (Nat.lt_trans RBW.out EBL.out) hg.1, Nat.lt_of_lt_of_le hg.2 hx12⟩, by rw [X3.out]; exact rs⟩
      have REP := hid hrep; have HB5 := hid hb5; have HR5 := hid hr5
      have WFX := hid (show EnWf x by
        have := readG_wf (r := ⟨s, false⟩) (fun h => nomatch h) HL.out
        rw [read_g, RDX.out] at this
        exact this)
      clear hW5 u5 hx hb5 hr5 r4 r11 rs hsz5 hrep ek UT TT P4 P11 PS HT HBT X1 X2 X3 EK
      by_cases hdone : doneF qt.2 = true
      case neg =>
        have hd : doneF qt.2 = false := by simpa using hdone
        have HN := hid (rdF_bad RDX.out fun h => by
          have h1 := h.1; have h2 := h.2.1
          unfold doneF at hd
          rw [h1, h2] at hd
          cases hd)
        clear hdone
        refine (qdone_any rb qt.2 _ HR5.out).mono ?_
        rintro en w6 ⟨rfl, hw6⟩
        subst hw6
        rw [hd]
        clear hd
        have ft : ∀ k, W5.frozen? ⟨w.heap.size, k, none⟩ = false := fun k => frozen13 T5.out
        obtain ⟨z0, z1, z2, z3, z4, z5, z6, z7, z8, z9, z10, z11, z12⟩ := cells13 T5.out
        go_wp2_with fail
        clear z0 z1 z2 z3 z4 z5 z6 z7 z8 z9 z10 z11 z12 ft
        obtain ⟨WF, hWF⟩ : ∃ WF, WF = W5.setCells w.heap.size 0 [.int .i64 0, .int .i64 0, .int .i64 0, .slice none 0 0, .int .i64 0, .int .i64 0, .int .i64 0, .int .i64 0, .int .i64 0, .int .i64 0, .slice none 0 0, .slice none 0 0, .string ⟨#[]⟩] := ⟨_, rfl⟩
        have uf : Upd (· = w.heap.size) W5 WF := by rw [hWF]; exact upd_setCells' (S := (· = w.heap.size)) _ (.inl rfl) _ _ _ (Upd.refl _ _)
        have hbf : WF.heap[w.heap.size]? = some (.cells (en13 En.none none none none 0 0 0) 25 (0, 0)) := by
          rw [hWF]; exact heap_setCells _ _ _ _ _ _ _ T5.out (by simp)
        simp only [World.setCells] at hWF
        rw [← hWF]
        obtain ⟨z0, z1, z2, z3, z4, z5, z6, z7, z8, z9, z10, z11, z12⟩ := cells13 hbf
        have UF := hid (U5.out.comp uf fun i hi e => by omega)
        clear hWF uf hbf
        refine bodyPost_ret (v := .tuple #[.agg #[.int .i64 0, .int .i64 0, .int .i64 0, .slice none 0 0, .int .i64 0, .int .i64 0, .int .i64 0, .int .i64 0, .int .i64 0, .int .i64 0, .slice none 0 0, .slice none 0 0, .string ⟨#[]⟩], .int .i64 2]) (by rw [results_cell_tmp rfl]; go_simp; decide) rfl ?_
        exact read_no HN.out UF.out
      have HDN := hid hdone
      by_cases hright : RightE x
      case neg =>
        have HN := hid (rdF_bad RDX.out fun h => hright h.2.2.1)
        have HRN := hid hright
        obtain ⟨d0, d1, d2, d3, d4, d5, d6, d7, d8, d9, d10, d11, d12⟩ := cells13 HB5.out
        clear hright hdone
        refine (qdone_any rb qt.2 _ HR5.out).mono ?_
        rintro en w6 ⟨rfl, hw6⟩
        subst hw6
        rw [HDN.out]
        go_wp2_with fail
        refine (rright_any x al4 al11 a3 cl4 cl11 c3 _ _ REP.out).mono ?_
        rintro en w6 ⟨rfl, u⟩
        rw [decide_eq_false HRN.out]
        have U6 := hid (U5.out.trans u)
        have T6 := hid ((u.block _ (heap_lt T5.out) id).trans T5.out)
        clear u d0 d1 d2 d3 d4 d5 d6 d7 d8 d9 d10 d11 d12
        have ft : ∀ k, w6.frozen? ⟨w.heap.size, k, none⟩ = false := fun k => frozen13 T6.out
        obtain ⟨z0, z1, z2, z3, z4, z5, z6, z7, z8, z9, z10, z11, z12⟩ := cells13 T6.out
        go_wp2_with fail
        clear z0 z1 z2 z3 z4 z5 z6 z7 z8 z9 z10 z11 z12 ft
        obtain ⟨WF, hWF⟩ : ∃ WF, WF = w6.setCells w.heap.size 0 [.int .i64 0, .int .i64 0, .int .i64 0, .slice none 0 0, .int .i64 0, .int .i64 0, .int .i64 0, .int .i64 0, .int .i64 0, .int .i64 0, .slice none 0 0, .slice none 0 0, .string ⟨#[]⟩] := ⟨_, rfl⟩
        have uf : Upd (· = w.heap.size) w6 WF := by rw [hWF]; exact upd_setCells' (S := (· = w.heap.size)) _ (.inl rfl) _ _ _ (Upd.refl _ _)
        have hbf : WF.heap[w.heap.size]? = some (.cells (en13 En.none none none none 0 0 0) 25 (0, 0)) := by
          rw [hWF]; exact heap_setCells _ _ _ _ _ _ _ T6.out (by simp)
        simp only [World.setCells] at hWF
        rw [← hWF]
        obtain ⟨z0, z1, z2, z3, z4, z5, z6, z7, z8, z9, z10, z11, z12⟩ := cells13 hbf
        have UF := hid (U6.out.comp uf fun i hi e => by omega)
        clear hWF uf hbf
        refine bodyPost_ret (v := .tuple #[.agg #[.int .i64 0, .int .i64 0, .int .i64 0, .slice none 0 0, .int .i64 0, .int .i64 0, .int .i64 0, .int .i64 0, .int .i64 0, .int .i64 0, .slice none 0 0, .slice none 0 0, .string ⟨#[]⟩], .int .i64 2]) (by rw [results_cell_tmp rfl]; go_simp; decide) rfl ?_
        exact read_no HN.out UF.out
      have HRY := hid hright
      obtain ⟨d0, d1, d2, d3, d4, d5, d6, d7, d8, d9, d10, d11, d12⟩ := cells13 HB5.out
      clear hright hdone
      refine (qdone_any rb qt.2 _ HR5.out).mono ?_
      rintro en w6 ⟨rfl, hw6⟩
      subst hw6
      rw [HDN.out]
      go_wp2_with fail
      refine (rright_any x al4 al11 a3 cl4 cl11 c3 _ _ REP.out).mono ?_
      rintro en w6 ⟨rfl, u⟩
      rw [decide_eq_true HRY.out]
      have U6 := hid (U5.out.trans u)
      have T6 := hid ((u.block _ (heap_lt T5.out) id).trans T5.out)
      have B6 := hid ((u.block _ (heap_lt HB5.out) id).trans HB5.out)
      have R6 := hid (REP.out.keep u)
      have S6 := hid u.size
      clear u d0 d1 d2 d3 d4 d5 d6 d7 d8 d9 d10 d11 d12
      obtain ⟨d0, d1, d2, d3, d4, d5, d6, d7, d8, d9, d10, d11, d12⟩ := cells13 B6.out
      go_wp2_with fail
      refine (rtext_any x al4 al11 a3 cl4 cl11 c3 _ (EnRep.wide R6.out fun g hg => Nat.lt_of_lt_of_le hg.2 S6.out) WFX.out).mono ?_
      rintro en w7 ⟨rfl, u⟩
      have U7 := hid (U6.out.trans u)
      have T7 := hid ((u.block _ (heap_lt T6.out) id).trans T6.out)
      have B7 := hid ((u.block _ (heap_lt B6.out) id).trans B6.out)
      have R7 := hid (EnRep.wide (R6.out.keep u) (B := fun g => w.heap.size < g ∧ g < w7.heap.size) fun g hg => ⟨hg.1, Nat.lt_of_lt_of_le hg.2 (Nat.le_trans S6.out u.size)⟩)
      clear u d0 d1 d2 d3 d4 d5 d6 d7 d8 d9 d10 d11 d12
      by_cases heq : txtF x = s
      case neg =>
        have hq1 : (txtF x == s) = false := beq_eq_false_iff_ne.2 heq
        have hq2 : (txtF x != s) = true := bne_iff_ne.2 heq
        have HN := hid (rdF_bad RDX.out fun h => heq h.2.2.2)
        clear heq
        have ft : ∀ k, w7.frozen? ⟨w.heap.size, k, none⟩ = false := fun k => frozen13 T7.out
        obtain ⟨z0, z1, z2, z3, z4, z5, z6, z7, z8, z9, z10, z11, z12⟩ := cells13 T7.out
        go_wp2_with fail
        clear z0 z1 z2 z3 z4 z5 z6 z7 z8 z9 z10 z11 z12 ft
        obtain ⟨WF, hWF⟩ : ∃ WF, WF = w7.setCells w.heap.size 0 [.int .i64 0, .int .i64 0, .int .i64 0, .slice none 0 0, .int .i64 0, .int .i64 0, .int .i64 0, .int .i64 0, .int .i64 0, .int .i64 0, .slice none 0 0, .slice none 0 0, .string ⟨#[]⟩] := ⟨_, rfl⟩
        have uf : Upd (· = w.heap.size) w7 WF := by rw [hWF]; exact upd_setCells' (S := (· = w.heap.size)) _ (.inl rfl) _ _ _ (Upd.refl _ _)
        have hbf : WF.heap[w.heap.size]? = some (.cells (en13 En.none none none none 0 0 0) 25 (0, 0)) := by
          rw [hWF]; exact heap_setCells _ _ _ _ _ _ _ T7.out (by simp)
        simp only [World.setCells] at hWF
        rw [← hWF]
        obtain ⟨z0, z1, z2, z3, z4, z5, z6, z7, z8, z9, z10, z11, z12⟩ := cells13 hbf
        have UF := hid (U7.out.comp uf fun i hi e => by omega)
        clear hWF uf hbf
        refine bodyPost_ret (v := .tuple #[.agg #[.int .i64 0, .int .i64 0, .int .i64 0, .slice none 0 0, .int .i64 0, .int .i64 0, .int .i64 0, .int .i64 0, .int .i64 0, .int .i64 0, .slice none 0 0, .slice none 0 0, .string ⟨#[]⟩], .int .i64 2]) (by rw [results_cell_tmp rfl]; go_simp; decide) rfl ?_
        exact read_no HN.out UF.out
      have hq1 : (txtF x == s) = true := beq_iff_eq.2 heq
      have hq2 : (txtF x != s) = false := by rw [heq]; simp
      have HY := hid (rdF_good RDX.out ⟨by
        have h := HDN.out
        unfold doneF at h
        simp only [Bool.and_eq_true, Bool.not_eq_true'] at h
        exact h.1, by
        have h := HDN.out
        unfold doneF at h
        simp only [Bool.and_eq_true, List.isEmpty_iff] at h
        exact h.2, HRY.out, heq⟩)
      obtain ⟨d0, d1, d2, d3, d4, d5, d6, d7, d8, d9, d10, d11, d12⟩ := cells13 B7.out
      clear heq
      have ft : ∀ k, w7.frozen? ⟨w.heap.size, k, none⟩ = false := fun k => frozen13 T7.out
      obtain ⟨z0, z1, z2, z3, z4, z5, z6, z7, z8, z9, z10, z11, z12⟩ := cells13 T7.out
      go_wp2_with fail
      clear z0 z1 z2 z3 z4 z5 z6 z7 z8 z9 z10 z11 z12 ft d0 d1 d2 d3 d4 d5 d6 d7 d8 d9 d10 d11 d12 hq1 hq2
      obtain ⟨WF, hWF⟩ : ∃ WF, WF = w7.setCells w.heap.size 0 [.int .i64 x.author, .int .i64 x.seq, .int .i64 x.day, .slice al4 x.knows.length cl4, .int .i64 x.kind, .int .i64 x.circle, .int .i64 x.who, .int .i64 x.n, .int .i64 x.m, .int .i64 x.ref, .slice al11 x.keys.length cl11, .slice a3 x.spans.length c3, .string ⟨x.text.toArray⟩] := ⟨_, rfl⟩
      have uf : Upd (· = w.heap.size) w7 WF := by rw [hWF]; exact upd_setCells' (S := (· = w.heap.size)) _ (.inl rfl) _ _ _ (Upd.refl _ _)
      have hbf : WF.heap[w.heap.size]? = some (.cells (en13 x al4 al11 a3 cl4 cl11 c3) 25 (0, 0)) := by
        rw [hWF]; exact heap_setCells _ _ _ _ _ _ _ T7.out (by simp)
      simp only [World.setCells] at hWF
      rw [← hWF]
      obtain ⟨z0, z1, z2, z3, z4, z5, z6, z7, z8, z9, z10, z11, z12⟩ := cells13 hbf
      have UF := hid (U7.out.comp uf fun i hi e => by omega)
      have RF := hid (EnRep.wide (EnRep.keep1 R7.out uf fun g hg => Nat.ne_of_gt hg.1) (B := fun g => w.heap.size ≤ g ∧ g < WF.heap.size) fun g hg => ⟨Nat.le_of_lt hg.1, Nat.lt_of_lt_of_le hg.2 uf.size⟩)
      clear hWF uf hbf
      refine bodyPost_ret (v := .tuple #[.agg #[.int .i64 x.author, .int .i64 x.seq, .int .i64 x.day, .slice al4 x.knows.length cl4, .int .i64 x.kind, .int .i64 x.circle, .int .i64 x.who, .int .i64 x.n, .int .i64 x.m, .int .i64 x.ref, .slice al11 x.keys.length cl11, .slice a3 x.spans.length c3, .string ⟨x.text.toArray⟩], .int .i64 0]) (by rw [results_cell_tmp rfl]; go_simp) rfl ?_
      exact read_yes HY.out RF.out UF.out
    have tA : decide ((i : Int) < mn) = true := decide_eq_true hA
    by_cases hC : i ≤ 40
    case neg =>
      have tC : decide ((i : Int) ≤ 40) = false := decide_eq_false (by omega)
      have tC2 : decide (i ≤ 40) = false := decide_eq_false hC
      have hspe := SPF.out
      rw [spansF_stop (fun h => hC (by have := h.2.2; have := HAL.out; omega))] at hspe
      subst hspe
      have HQ := hid (show textF r = qt from HQT.out)
      have UZ := hid (V12.out.comp UL.out fun i hi e => by have := RBW.out; have := EBL.out; omega)
      have TZ := hid ((UL.out.block _ (heap_lt T12.out) fun e => by have := RBW.out; have := EBL.out; omega).trans T12.out)
      have M4 := hid ((kSlice (kInt .i64)).keep N4.out fun g hg _ => UL.out.block g hg.2 fun e => by have := hg.1; have := EBL.out; omega)
      have M11 := hid ((kSlice (kInt .i64)).keep N11.out fun g hg _ => UL.out.block g hg.2 fun e => by have := hg.1; have := EBL.out; omega)
      have EBX := hid (heap_lt EB12.out)
      have XS12 := hid UL.out.size
      clear SPF UL HQT V12 T12 N4 N11 EB12
      go_wp2_with fail
      clear tA tC tC2 hA hC
      refine (qTextR_any rb r _ RR.out hrl HOK.out).mono ?_
      rintro en wt ⟨rfl, ht, u⟩
      rw [HQ.out] at ht ⊢
      have hbt := (u.block _ (heap_lt BL.out) (Nat.ne_of_gt EBL.out)).trans BL.out
      have ft : wt.frozen? ⟨eb, 12, none⟩ = false := frozen13 hbt
      obtain ⟨_, _, _, _, _, _, _, _, _, _, _, _, dt⟩ := cells13 hbt
      have UT := hid (UZ.out.comp u fun i hi e => by have := RBW.out; omega)
      have TT := hid ((u.block _ (heap_lt TZ.out) fun e => by have := RBW.out; omega).trans TZ.out)
      have P4 := hid (rep_keep_ne M4.out u fun g hg => Nat.ne_of_gt (Nat.lt_trans EBL.out hg.1))
      have P11 := hid (rep_keep_ne M11.out u fun g hg => Nat.ne_of_gt (Nat.lt_trans EBL.out hg.1))
      have PS := hid (ownsRow_upd OW.out u fun g hg e => by have := (OW.out.lt g hg).1; have := EBX.out; have := EBL.out; omega)
      have HT := hid ht; have HBT := hid hbt
      have USZ := hid u.size
      clear ht hbt u UZ TZ M4 M11 OW BL RR d11
      go_wp2_with fail
      clear dt ft
      obtain ⟨W5, hW5⟩ : ∃ W5, W5 = wt.setCell ⟨eb, 12, none⟩ (.string ⟨qt.1.toArray⟩) := ⟨_, rfl⟩
      rw [← hW5]
      have u5 : Upd (· = eb) wt W5 := by rw [hW5]; exact (Upd.refl _ _).at_ 12 _
      obtain ⟨x, hx⟩ : ∃ x : En, { e0 with spans := acc, text := qt.1 } = x := ⟨_, rfl⟩
      have hb5 : W5.heap[eb]? = some (.cells (en13 x al4 al11 a3 cl4 cl11 c3) 25 (0, 0)) := by rw [hW5, store_12 HBT.out, ← hx]
      have RDX := hid (show readE s = (x, qt.2) by rw [RD.out, hx])
      have hr5 := HT.out.upd u5 (Nat.ne_of_lt EBL.out)
      have U5 := hid (UT.out.comp u5 fun i hi e => by have := EBL.out; have := RBW.out; omega)
      have T5 := hid ((u5.block _ (heap_lt TT.out) fun e => by have := EBL.out; have := RBW.out; omega).trans TT.out)
      have ek := EK.out
      have X1 : Hid (x.knows = q4.1) := hid (by rw [← hx]; exact ek.1)
      have X2 : Hid (x.keys = q11.1) := hid (by rw [← hx]; exact ek.2)
      have X3 : Hid (x.spans = acc) := hid (by rw [← hx])
      have r4 := rep_keep_ne P4.out u5 fun g hg => Nat.ne_of_gt hg.1
      have r11 := rep_keep_ne P11.out u5 fun g hg => Nat.ne_of_gt hg.1
      have rs := sps_own_rep (A := fun g => w.heap.size < g ∧ g < W5.heap.size) (ownsRow_upd PS.out u5 fun g hg e => by have := (PS.out.lt g hg).1; have := EBX.out; omega) WF.out fun g hg => ⟨by have := (PS.out.lt g hg).1; have := EBX.out; have := EBL.out; have := RBW.out; omega, Nat.lt_of_lt_of_le (PS.out.lt g hg).2 u5.size⟩
      have hsz5 : eb < W5.heap.size := heap_lt hb5
      have hx12 : x12.heap.size ≤ W5.heap.size := Nat.le_trans XS12.out (Nat.le_trans USZ.out u5.size)
      have hrep : EnRep (fun g => w.heap.size < g ∧ g < W5.heap.size) W5 x al4 al11 a3 cl4 cl11 c3 :=
        ⟨by rw [X1.out]; exact (kSlice (kInt .i64)).mono r4 fun g hg => ⟨Nat.lt_trans (Nat.lt_trans RBW.out EBL.out) hg.1, Nat.lt_of_lt_of_le hg.2 hx12⟩, by rw [X2.out]; exact (kSlice (kInt .i64)).mono r11 fun g hg => ⟨Nat.lt_trans (Nat.lt_trans RBW.out EBL.out) hg.1, Nat.lt_of_lt_of_le hg.2 hx12⟩, by rw [X3.out]; exact rs⟩
      have REP := hid hrep; have HB5 := hid hb5; have HR5 := hid hr5
      have WFX := hid (show EnWf x by
        have := readG_wf (r := ⟨s, false⟩) (fun h => nomatch h) HL.out
        rw [read_g, RDX.out] at this
        exact this)
      clear hW5 u5 hx hb5 hr5 r4 r11 rs hsz5 hrep ek UT TT P4 P11 PS HT HBT X1 X2 X3 EK
      by_cases hdone : doneF qt.2 = true
      case neg =>
        have hd : doneF qt.2 = false := by simpa using hdone
        have HN := hid (rdF_bad RDX.out fun h => by
          have h1 := h.1; have h2 := h.2.1
          unfold doneF at hd
          rw [h1, h2] at hd
          cases hd)
        clear hdone
        refine (qdone_any rb qt.2 _ HR5.out).mono ?_
        rintro en w6 ⟨rfl, hw6⟩
        subst hw6
        rw [hd]
        clear hd
        have ft : ∀ k, W5.frozen? ⟨w.heap.size, k, none⟩ = false := fun k => frozen13 T5.out
        obtain ⟨z0, z1, z2, z3, z4, z5, z6, z7, z8, z9, z10, z11, z12⟩ := cells13 T5.out
        go_wp2_with fail
        clear z0 z1 z2 z3 z4 z5 z6 z7 z8 z9 z10 z11 z12 ft
        obtain ⟨WF, hWF⟩ : ∃ WF, WF = W5.setCells w.heap.size 0 [.int .i64 0, .int .i64 0, .int .i64 0, .slice none 0 0, .int .i64 0, .int .i64 0, .int .i64 0, .int .i64 0, .int .i64 0, .int .i64 0, .slice none 0 0, .slice none 0 0, .string ⟨#[]⟩] := ⟨_, rfl⟩
        have uf : Upd (· = w.heap.size) W5 WF := by rw [hWF]; exact upd_setCells' (S := (· = w.heap.size)) _ (.inl rfl) _ _ _ (Upd.refl _ _)
        have hbf : WF.heap[w.heap.size]? = some (.cells (en13 En.none none none none 0 0 0) 25 (0, 0)) := by
          rw [hWF]; exact heap_setCells _ _ _ _ _ _ _ T5.out (by simp)
        simp only [World.setCells] at hWF
        rw [← hWF]
        obtain ⟨z0, z1, z2, z3, z4, z5, z6, z7, z8, z9, z10, z11, z12⟩ := cells13 hbf
        have UF := hid (U5.out.comp uf fun i hi e => by omega)
        clear hWF uf hbf
        refine bodyPost_ret (v := .tuple #[.agg #[.int .i64 0, .int .i64 0, .int .i64 0, .slice none 0 0, .int .i64 0, .int .i64 0, .int .i64 0, .int .i64 0, .int .i64 0, .int .i64 0, .slice none 0 0, .slice none 0 0, .string ⟨#[]⟩], .int .i64 2]) (by rw [results_cell_tmp rfl]; go_simp; decide) rfl ?_
        exact read_no HN.out UF.out
      have HDN := hid hdone
      by_cases hright : RightE x
      case neg =>
        have HN := hid (rdF_bad RDX.out fun h => hright h.2.2.1)
        have HRN := hid hright
        obtain ⟨d0, d1, d2, d3, d4, d5, d6, d7, d8, d9, d10, d11, d12⟩ := cells13 HB5.out
        clear hright hdone
        refine (qdone_any rb qt.2 _ HR5.out).mono ?_
        rintro en w6 ⟨rfl, hw6⟩
        subst hw6
        rw [HDN.out]
        go_wp2_with fail
        refine (rright_any x al4 al11 a3 cl4 cl11 c3 _ _ REP.out).mono ?_
        rintro en w6 ⟨rfl, u⟩
        rw [decide_eq_false HRN.out]
        have U6 := hid (U5.out.trans u)
        have T6 := hid ((u.block _ (heap_lt T5.out) id).trans T5.out)
        clear u d0 d1 d2 d3 d4 d5 d6 d7 d8 d9 d10 d11 d12
        have ft : ∀ k, w6.frozen? ⟨w.heap.size, k, none⟩ = false := fun k => frozen13 T6.out
        obtain ⟨z0, z1, z2, z3, z4, z5, z6, z7, z8, z9, z10, z11, z12⟩ := cells13 T6.out
        go_wp2_with fail
        clear z0 z1 z2 z3 z4 z5 z6 z7 z8 z9 z10 z11 z12 ft
        obtain ⟨WF, hWF⟩ : ∃ WF, WF = w6.setCells w.heap.size 0 [.int .i64 0, .int .i64 0, .int .i64 0, .slice none 0 0, .int .i64 0, .int .i64 0, .int .i64 0, .int .i64 0, .int .i64 0, .int .i64 0, .slice none 0 0, .slice none 0 0, .string ⟨#[]⟩] := ⟨_, rfl⟩
        have uf : Upd (· = w.heap.size) w6 WF := by rw [hWF]; exact upd_setCells' (S := (· = w.heap.size)) _ (.inl rfl) _ _ _ (Upd.refl _ _)
        have hbf : WF.heap[w.heap.size]? = some (.cells (en13 En.none none none none 0 0 0) 25 (0, 0)) := by
          rw [hWF]; exact heap_setCells _ _ _ _ _ _ _ T6.out (by simp)
        simp only [World.setCells] at hWF
        rw [← hWF]
        obtain ⟨z0, z1, z2, z3, z4, z5, z6, z7, z8, z9, z10, z11, z12⟩ := cells13 hbf
        have UF := hid (U6.out.comp uf fun i hi e => by omega)
        clear hWF uf hbf
        refine bodyPost_ret (v := .tuple #[.agg #[.int .i64 0, .int .i64 0, .int .i64 0, .slice none 0 0, .int .i64 0, .int .i64 0, .int .i64 0, .int .i64 0, .int .i64 0, .int .i64 0, .slice none 0 0, .slice none 0 0, .string ⟨#[]⟩], .int .i64 2]) (by rw [results_cell_tmp rfl]; go_simp; decide) rfl ?_
        exact read_no HN.out UF.out
      have HRY := hid hright
      obtain ⟨d0, d1, d2, d3, d4, d5, d6, d7, d8, d9, d10, d11, d12⟩ := cells13 HB5.out
      clear hright hdone
      refine (qdone_any rb qt.2 _ HR5.out).mono ?_
      rintro en w6 ⟨rfl, hw6⟩
      subst hw6
      rw [HDN.out]
      go_wp2_with fail
      refine (rright_any x al4 al11 a3 cl4 cl11 c3 _ _ REP.out).mono ?_
      rintro en w6 ⟨rfl, u⟩
      rw [decide_eq_true HRY.out]
      have U6 := hid (U5.out.trans u)
      have T6 := hid ((u.block _ (heap_lt T5.out) id).trans T5.out)
      have B6 := hid ((u.block _ (heap_lt HB5.out) id).trans HB5.out)
      have R6 := hid (REP.out.keep u)
      have S6 := hid u.size
      clear u d0 d1 d2 d3 d4 d5 d6 d7 d8 d9 d10 d11 d12
      obtain ⟨d0, d1, d2, d3, d4, d5, d6, d7, d8, d9, d10, d11, d12⟩ := cells13 B6.out
      go_wp2_with fail
      refine (rtext_any x al4 al11 a3 cl4 cl11 c3 _ (EnRep.wide R6.out fun g hg => Nat.lt_of_lt_of_le hg.2 S6.out) WFX.out).mono ?_
      rintro en w7 ⟨rfl, u⟩
      have U7 := hid (U6.out.trans u)
      have T7 := hid ((u.block _ (heap_lt T6.out) id).trans T6.out)
      have B7 := hid ((u.block _ (heap_lt B6.out) id).trans B6.out)
      have R7 := hid (EnRep.wide (R6.out.keep u) (B := fun g => w.heap.size < g ∧ g < w7.heap.size) fun g hg => ⟨hg.1, Nat.lt_of_lt_of_le hg.2 (Nat.le_trans S6.out u.size)⟩)
      clear u d0 d1 d2 d3 d4 d5 d6 d7 d8 d9 d10 d11 d12
      by_cases heq : txtF x = s
      case neg =>
        have hq1 : (txtF x == s) = false := beq_eq_false_iff_ne.2 heq
        have hq2 : (txtF x != s) = true := bne_iff_ne.2 heq
        have HN := hid (rdF_bad RDX.out fun h => heq h.2.2.2)
        clear heq
        have ft : ∀ k, w7.frozen? ⟨w.heap.size, k, none⟩ = false := fun k => frozen13 T7.out
        obtain ⟨z0, z1, z2, z3, z4, z5, z6, z7, z8, z9, z10, z11, z12⟩ := cells13 T7.out
        go_wp2_with fail
        clear z0 z1 z2 z3 z4 z5 z6 z7 z8 z9 z10 z11 z12 ft
        obtain ⟨WF, hWF⟩ : ∃ WF, WF = w7.setCells w.heap.size 0 [.int .i64 0, .int .i64 0, .int .i64 0, .slice none 0 0, .int .i64 0, .int .i64 0, .int .i64 0, .int .i64 0, .int .i64 0, .int .i64 0, .slice none 0 0, .slice none 0 0, .string ⟨#[]⟩] := ⟨_, rfl⟩
        have uf : Upd (· = w.heap.size) w7 WF := by rw [hWF]; exact upd_setCells' (S := (· = w.heap.size)) _ (.inl rfl) _ _ _ (Upd.refl _ _)
        have hbf : WF.heap[w.heap.size]? = some (.cells (en13 En.none none none none 0 0 0) 25 (0, 0)) := by
          rw [hWF]; exact heap_setCells _ _ _ _ _ _ _ T7.out (by simp)
        simp only [World.setCells] at hWF
        rw [← hWF]
        obtain ⟨z0, z1, z2, z3, z4, z5, z6, z7, z8, z9, z10, z11, z12⟩ := cells13 hbf
        have UF := hid (U7.out.comp uf fun i hi e => by omega)
        clear hWF uf hbf
        refine bodyPost_ret (v := .tuple #[.agg #[.int .i64 0, .int .i64 0, .int .i64 0, .slice none 0 0, .int .i64 0, .int .i64 0, .int .i64 0, .int .i64 0, .int .i64 0, .int .i64 0, .slice none 0 0, .slice none 0 0, .string ⟨#[]⟩], .int .i64 2]) (by rw [results_cell_tmp rfl]; go_simp; decide) rfl ?_
        exact read_no HN.out UF.out
      have hq1 : (txtF x == s) = true := beq_iff_eq.2 heq
      have hq2 : (txtF x != s) = false := by rw [heq]; simp
      have HY := hid (rdF_good RDX.out ⟨by
        have h := HDN.out
        unfold doneF at h
        simp only [Bool.and_eq_true, Bool.not_eq_true'] at h
        exact h.1, by
        have h := HDN.out
        unfold doneF at h
        simp only [Bool.and_eq_true, List.isEmpty_iff] at h
        exact h.2, HRY.out, heq⟩)
      obtain ⟨d0, d1, d2, d3, d4, d5, d6, d7, d8, d9, d10, d11, d12⟩ := cells13 B7.out
      clear heq
      have ft : ∀ k, w7.frozen? ⟨w.heap.size, k, none⟩ = false := fun k => frozen13 T7.out
      obtain ⟨z0, z1, z2, z3, z4, z5, z6, z7, z8, z9, z10, z11, z12⟩ := cells13 T7.out
      go_wp2_with fail
      clear z0 z1 z2 z3 z4 z5 z6 z7 z8 z9 z10 z11 z12 ft d0 d1 d2 d3 d4 d5 d6 d7 d8 d9 d10 d11 d12 hq1 hq2
      obtain ⟨WF, hWF⟩ : ∃ WF, WF = w7.setCells w.heap.size 0 [.int .i64 x.author, .int .i64 x.seq, .int .i64 x.day, .slice al4 x.knows.length cl4, .int .i64 x.kind, .int .i64 x.circle, .int .i64 x.who, .int .i64 x.n, .int .i64 x.m, .int .i64 x.ref, .slice al11 x.keys.length cl11, .slice a3 x.spans.length c3, .string ⟨x.text.toArray⟩] := ⟨_, rfl⟩
      have uf : Upd (· = w.heap.size) w7 WF := by rw [hWF]; exact upd_setCells' (S := (· = w.heap.size)) _ (.inl rfl) _ _ _ (Upd.refl _ _)
      have hbf : WF.heap[w.heap.size]? = some (.cells (en13 x al4 al11 a3 cl4 cl11 c3) 25 (0, 0)) := by
        rw [hWF]; exact heap_setCells _ _ _ _ _ _ _ T7.out (by simp)
      simp only [World.setCells] at hWF
      rw [← hWF]
      obtain ⟨z0, z1, z2, z3, z4, z5, z6, z7, z8, z9, z10, z11, z12⟩ := cells13 hbf
      have UF := hid (U7.out.comp uf fun i hi e => by omega)
      have RF := hid (EnRep.wide (EnRep.keep1 R7.out uf fun g hg => Nat.ne_of_gt hg.1) (B := fun g => w.heap.size ≤ g ∧ g < WF.heap.size) fun g hg => ⟨Nat.le_of_lt hg.1, Nat.lt_of_lt_of_le hg.2 uf.size⟩)
      clear hWF uf hbf
      refine bodyPost_ret (v := .tuple #[.agg #[.int .i64 x.author, .int .i64 x.seq, .int .i64 x.day, .slice al4 x.knows.length cl4, .int .i64 x.kind, .int .i64 x.circle, .int .i64 x.who, .int .i64 x.n, .int .i64 x.m, .int .i64 x.ref, .slice al11 x.keys.length cl11, .slice a3 x.spans.length c3, .string ⟨x.text.toArray⟩], .int .i64 0]) (by rw [results_cell_tmp rfl]; go_simp) rfl ?_
      exact read_yes HY.out RF.out UF.out
    have tC : decide ((i : Int) ≤ 40) = true := decide_eq_true (by omega)
    have tC2 : decide (i ≤ 40) = true := decide_eq_true hC
    by_cases hB : r.rest = []
    case pos =>
      have tB : decide ((0 : Int) < (r.rest.length : Int)) = false := by rw [hB]; rfl
      have tB2 : decide (0 < r.rest.length) = false := by rw [hB]; rfl
      have hspe := SPF.out
      rw [spansF_stop (fun h => h.2.1 hB)] at hspe
      subst hspe
      have HQ := hid (show textF r = qt from HQT.out)
      have UZ := hid (V12.out.comp UL.out fun i hi e => by have := RBW.out; have := EBL.out; omega)
      have TZ := hid ((UL.out.block _ (heap_lt T12.out) fun e => by have := RBW.out; have := EBL.out; omega).trans T12.out)
      have M4 := hid ((kSlice (kInt .i64)).keep N4.out fun g hg _ => UL.out.block g hg.2 fun e => by have := hg.1; have := EBL.out; omega)
      have M11 := hid ((kSlice (kInt .i64)).keep N11.out fun g hg _ => UL.out.block g hg.2 fun e => by have := hg.1; have := EBL.out; omega)
      have EBX := hid (heap_lt EB12.out)
      have XS12 := hid UL.out.size
      clear SPF UL HQT V12 T12 N4 N11 EB12
      go_wp2_with fail
      refine (qleft_any rb r _ RR.out).mono ?_
      rintro en w6 ⟨rfl, hw6⟩
      subst hw6
      go_wp2_with fail
      clear tA tC tC2 tB tB2 hA hB hC
      refine (qTextR_any rb r _ RR.out hrl HOK.out).mono ?_
      rintro en wt ⟨rfl, ht, u⟩
      rw [HQ.out] at ht ⊢
      have hbt := (u.block _ (heap_lt BL.out) (Nat.ne_of_gt EBL.out)).trans BL.out
      have ft : wt.frozen? ⟨eb, 12, none⟩ = false := frozen13 hbt
      obtain ⟨_, _, _, _, _, _, _, _, _, _, _, _, dt⟩ := cells13 hbt
      have UT := hid (UZ.out.comp u fun i hi e => by have := RBW.out; omega)
      have TT := hid ((u.block _ (heap_lt TZ.out) fun e => by have := RBW.out; omega).trans TZ.out)
      have P4 := hid (rep_keep_ne M4.out u fun g hg => Nat.ne_of_gt (Nat.lt_trans EBL.out hg.1))
      have P11 := hid (rep_keep_ne M11.out u fun g hg => Nat.ne_of_gt (Nat.lt_trans EBL.out hg.1))
      have PS := hid (ownsRow_upd OW.out u fun g hg e => by have := (OW.out.lt g hg).1; have := EBX.out; have := EBL.out; omega)
      have HT := hid ht; have HBT := hid hbt
      have USZ := hid u.size
      clear ht hbt u UZ TZ M4 M11 OW BL RR d11
      go_wp2_with fail
      clear dt ft
      obtain ⟨W5, hW5⟩ : ∃ W5, W5 = wt.setCell ⟨eb, 12, none⟩ (.string ⟨qt.1.toArray⟩) := ⟨_, rfl⟩
      rw [← hW5]
      have u5 : Upd (· = eb) wt W5 := by rw [hW5]; exact (Upd.refl _ _).at_ 12 _
      obtain ⟨x, hx⟩ : ∃ x : En, { e0 with spans := acc, text := qt.1 } = x := ⟨_, rfl⟩
      have hb5 : W5.heap[eb]? = some (.cells (en13 x al4 al11 a3 cl4 cl11 c3) 25 (0, 0)) := by rw [hW5, store_12 HBT.out, ← hx]
      have RDX := hid (show readE s = (x, qt.2) by rw [RD.out, hx])
      have hr5 := HT.out.upd u5 (Nat.ne_of_lt EBL.out)
      have U5 := hid (UT.out.comp u5 fun i hi e => by have := EBL.out; have := RBW.out; omega)
      have T5 := hid ((u5.block _ (heap_lt TT.out) fun e => by have := EBL.out; have := RBW.out; omega).trans TT.out)
      have ek := EK.out
      have X1 : Hid (x.knows = q4.1) := hid (by rw [← hx]; exact ek.1)
      have X2 : Hid (x.keys = q11.1) := hid (by rw [← hx]; exact ek.2)
      have X3 : Hid (x.spans = acc) := hid (by rw [← hx])
      have r4 := rep_keep_ne P4.out u5 fun g hg => Nat.ne_of_gt hg.1
      have r11 := rep_keep_ne P11.out u5 fun g hg => Nat.ne_of_gt hg.1
      have rs := sps_own_rep (A := fun g => w.heap.size < g ∧ g < W5.heap.size) (ownsRow_upd PS.out u5 fun g hg e => by have := (PS.out.lt g hg).1; have := EBX.out; omega) WF.out fun g hg => ⟨by have := (PS.out.lt g hg).1; have := EBX.out; have := EBL.out; have := RBW.out; omega, Nat.lt_of_lt_of_le (PS.out.lt g hg).2 u5.size⟩
      have hsz5 : eb < W5.heap.size := heap_lt hb5
      have hx12 : x12.heap.size ≤ W5.heap.size := Nat.le_trans XS12.out (Nat.le_trans USZ.out u5.size)
      have hrep : EnRep (fun g => w.heap.size < g ∧ g < W5.heap.size) W5 x al4 al11 a3 cl4 cl11 c3 :=
        ⟨by rw [X1.out]; exact (kSlice (kInt .i64)).mono r4 fun g hg => ⟨Nat.lt_trans (Nat.lt_trans RBW.out EBL.out) hg.1, Nat.lt_of_lt_of_le hg.2 hx12⟩, by rw [X2.out]; exact (kSlice (kInt .i64)).mono r11 fun g hg => ⟨Nat.lt_trans (Nat.lt_trans RBW.out EBL.out) hg.1, Nat.lt_of_lt_of_le hg.2 hx12⟩, by rw [X3.out]; exact rs⟩
      have REP := hid hrep; have HB5 := hid hb5; have HR5 := hid hr5
      have WFX := hid (show EnWf x by
        have := readG_wf (r := ⟨s, false⟩) (fun h => nomatch h) HL.out
        rw [read_g, RDX.out] at this
        exact this)
      clear hW5 u5 hx hb5 hr5 r4 r11 rs hsz5 hrep ek UT TT P4 P11 PS HT HBT X1 X2 X3 EK
      by_cases hdone : doneF qt.2 = true
      case neg =>
        have hd : doneF qt.2 = false := by simpa using hdone
        have HN := hid (rdF_bad RDX.out fun h => by
          have h1 := h.1; have h2 := h.2.1
          unfold doneF at hd
          rw [h1, h2] at hd
          cases hd)
        clear hdone
        refine (qdone_any rb qt.2 _ HR5.out).mono ?_
        rintro en w6 ⟨rfl, hw6⟩
        subst hw6
        rw [hd]
        clear hd
        have ft : ∀ k, W5.frozen? ⟨w.heap.size, k, none⟩ = false := fun k => frozen13 T5.out
        obtain ⟨z0, z1, z2, z3, z4, z5, z6, z7, z8, z9, z10, z11, z12⟩ := cells13 T5.out
        go_wp2_with fail
        clear z0 z1 z2 z3 z4 z5 z6 z7 z8 z9 z10 z11 z12 ft
        obtain ⟨WF, hWF⟩ : ∃ WF, WF = W5.setCells w.heap.size 0 [.int .i64 0, .int .i64 0, .int .i64 0, .slice none 0 0, .int .i64 0, .int .i64 0, .int .i64 0, .int .i64 0, .int .i64 0, .int .i64 0, .slice none 0 0, .slice none 0 0, .string ⟨#[]⟩] := ⟨_, rfl⟩
        have uf : Upd (· = w.heap.size) W5 WF := by rw [hWF]; exact upd_setCells' (S := (· = w.heap.size)) _ (.inl rfl) _ _ _ (Upd.refl _ _)
        have hbf : WF.heap[w.heap.size]? = some (.cells (en13 En.none none none none 0 0 0) 25 (0, 0)) := by
          rw [hWF]; exact heap_setCells _ _ _ _ _ _ _ T5.out (by simp)
        simp only [World.setCells] at hWF
        rw [← hWF]
        obtain ⟨z0, z1, z2, z3, z4, z5, z6, z7, z8, z9, z10, z11, z12⟩ := cells13 hbf
        have UF := hid (U5.out.comp uf fun i hi e => by omega)
        clear hWF uf hbf
        refine bodyPost_ret (v := .tuple #[.agg #[.int .i64 0, .int .i64 0, .int .i64 0, .slice none 0 0, .int .i64 0, .int .i64 0, .int .i64 0, .int .i64 0, .int .i64 0, .int .i64 0, .slice none 0 0, .slice none 0 0, .string ⟨#[]⟩], .int .i64 2]) (by rw [results_cell_tmp rfl]; go_simp; decide) rfl ?_
        exact read_no HN.out UF.out
      have HDN := hid hdone
      by_cases hright : RightE x
      case neg =>
        have HN := hid (rdF_bad RDX.out fun h => hright h.2.2.1)
        have HRN := hid hright
        obtain ⟨d0, d1, d2, d3, d4, d5, d6, d7, d8, d9, d10, d11, d12⟩ := cells13 HB5.out
        clear hright hdone
        refine (qdone_any rb qt.2 _ HR5.out).mono ?_
        rintro en w6 ⟨rfl, hw6⟩
        subst hw6
        rw [HDN.out]
        go_wp2_with fail
        refine (rright_any x al4 al11 a3 cl4 cl11 c3 _ _ REP.out).mono ?_
        rintro en w6 ⟨rfl, u⟩
        rw [decide_eq_false HRN.out]
        have U6 := hid (U5.out.trans u)
        have T6 := hid ((u.block _ (heap_lt T5.out) id).trans T5.out)
        clear u d0 d1 d2 d3 d4 d5 d6 d7 d8 d9 d10 d11 d12
        have ft : ∀ k, w6.frozen? ⟨w.heap.size, k, none⟩ = false := fun k => frozen13 T6.out
        obtain ⟨z0, z1, z2, z3, z4, z5, z6, z7, z8, z9, z10, z11, z12⟩ := cells13 T6.out
        go_wp2_with fail
        clear z0 z1 z2 z3 z4 z5 z6 z7 z8 z9 z10 z11 z12 ft
        obtain ⟨WF, hWF⟩ : ∃ WF, WF = w6.setCells w.heap.size 0 [.int .i64 0, .int .i64 0, .int .i64 0, .slice none 0 0, .int .i64 0, .int .i64 0, .int .i64 0, .int .i64 0, .int .i64 0, .int .i64 0, .slice none 0 0, .slice none 0 0, .string ⟨#[]⟩] := ⟨_, rfl⟩
        have uf : Upd (· = w.heap.size) w6 WF := by rw [hWF]; exact upd_setCells' (S := (· = w.heap.size)) _ (.inl rfl) _ _ _ (Upd.refl _ _)
        have hbf : WF.heap[w.heap.size]? = some (.cells (en13 En.none none none none 0 0 0) 25 (0, 0)) := by
          rw [hWF]; exact heap_setCells _ _ _ _ _ _ _ T6.out (by simp)
        simp only [World.setCells] at hWF
        rw [← hWF]
        obtain ⟨z0, z1, z2, z3, z4, z5, z6, z7, z8, z9, z10, z11, z12⟩ := cells13 hbf
        have UF := hid (U6.out.comp uf fun i hi e => by omega)
        clear hWF uf hbf
        refine bodyPost_ret (v := .tuple #[.agg #[.int .i64 0, .int .i64 0, .int .i64 0, .slice none 0 0, .int .i64 0, .int .i64 0, .int .i64 0, .int .i64 0, .int .i64 0, .int .i64 0, .slice none 0 0, .slice none 0 0, .string ⟨#[]⟩], .int .i64 2]) (by rw [results_cell_tmp rfl]; go_simp; decide) rfl ?_
        exact read_no HN.out UF.out
      have HRY := hid hright
      obtain ⟨d0, d1, d2, d3, d4, d5, d6, d7, d8, d9, d10, d11, d12⟩ := cells13 HB5.out
      clear hright hdone
      refine (qdone_any rb qt.2 _ HR5.out).mono ?_
      rintro en w6 ⟨rfl, hw6⟩
      subst hw6
      rw [HDN.out]
      go_wp2_with fail
      refine (rright_any x al4 al11 a3 cl4 cl11 c3 _ _ REP.out).mono ?_
      rintro en w6 ⟨rfl, u⟩
      rw [decide_eq_true HRY.out]
      have U6 := hid (U5.out.trans u)
      have T6 := hid ((u.block _ (heap_lt T5.out) id).trans T5.out)
      have B6 := hid ((u.block _ (heap_lt HB5.out) id).trans HB5.out)
      have R6 := hid (REP.out.keep u)
      have S6 := hid u.size
      clear u d0 d1 d2 d3 d4 d5 d6 d7 d8 d9 d10 d11 d12
      obtain ⟨d0, d1, d2, d3, d4, d5, d6, d7, d8, d9, d10, d11, d12⟩ := cells13 B6.out
      go_wp2_with fail
      refine (rtext_any x al4 al11 a3 cl4 cl11 c3 _ (EnRep.wide R6.out fun g hg => Nat.lt_of_lt_of_le hg.2 S6.out) WFX.out).mono ?_
      rintro en w7 ⟨rfl, u⟩
      have U7 := hid (U6.out.trans u)
      have T7 := hid ((u.block _ (heap_lt T6.out) id).trans T6.out)
      have B7 := hid ((u.block _ (heap_lt B6.out) id).trans B6.out)
      have R7 := hid (EnRep.wide (R6.out.keep u) (B := fun g => w.heap.size < g ∧ g < w7.heap.size) fun g hg => ⟨hg.1, Nat.lt_of_lt_of_le hg.2 (Nat.le_trans S6.out u.size)⟩)
      clear u d0 d1 d2 d3 d4 d5 d6 d7 d8 d9 d10 d11 d12
      by_cases heq : txtF x = s
      case neg =>
        have hq1 : (txtF x == s) = false := beq_eq_false_iff_ne.2 heq
        have hq2 : (txtF x != s) = true := bne_iff_ne.2 heq
        have HN := hid (rdF_bad RDX.out fun h => heq h.2.2.2)
        clear heq
        have ft : ∀ k, w7.frozen? ⟨w.heap.size, k, none⟩ = false := fun k => frozen13 T7.out
        obtain ⟨z0, z1, z2, z3, z4, z5, z6, z7, z8, z9, z10, z11, z12⟩ := cells13 T7.out
        go_wp2_with fail
        clear z0 z1 z2 z3 z4 z5 z6 z7 z8 z9 z10 z11 z12 ft
        obtain ⟨WF, hWF⟩ : ∃ WF, WF = w7.setCells w.heap.size 0 [.int .i64 0, .int .i64 0, .int .i64 0, .slice none 0 0, .int .i64 0, .int .i64 0, .int .i64 0, .int .i64 0, .int .i64 0, .int .i64 0, .slice none 0 0, .slice none 0 0, .string ⟨#[]⟩] := ⟨_, rfl⟩
        have uf : Upd (· = w.heap.size) w7 WF := by rw [hWF]; exact upd_setCells' (S := (· = w.heap.size)) _ (.inl rfl) _ _ _ (Upd.refl _ _)
        have hbf : WF.heap[w.heap.size]? = some (.cells (en13 En.none none none none 0 0 0) 25 (0, 0)) := by
          rw [hWF]; exact heap_setCells _ _ _ _ _ _ _ T7.out (by simp)
        simp only [World.setCells] at hWF
        rw [← hWF]
        obtain ⟨z0, z1, z2, z3, z4, z5, z6, z7, z8, z9, z10, z11, z12⟩ := cells13 hbf
        have UF := hid (U7.out.comp uf fun i hi e => by omega)
        clear hWF uf hbf
        refine bodyPost_ret (v := .tuple #[.agg #[.int .i64 0, .int .i64 0, .int .i64 0, .slice none 0 0, .int .i64 0, .int .i64 0, .int .i64 0, .int .i64 0, .int .i64 0, .int .i64 0, .slice none 0 0, .slice none 0 0, .string ⟨#[]⟩], .int .i64 2]) (by rw [results_cell_tmp rfl]; go_simp; decide) rfl ?_
        exact read_no HN.out UF.out
      have hq1 : (txtF x == s) = true := beq_iff_eq.2 heq
      have hq2 : (txtF x != s) = false := by rw [heq]; simp
      have HY := hid (rdF_good RDX.out ⟨by
        have h := HDN.out
        unfold doneF at h
        simp only [Bool.and_eq_true, Bool.not_eq_true'] at h
        exact h.1, by
        have h := HDN.out
        unfold doneF at h
        simp only [Bool.and_eq_true, List.isEmpty_iff] at h
        exact h.2, HRY.out, heq⟩)
      obtain ⟨d0, d1, d2, d3, d4, d5, d6, d7, d8, d9, d10, d11, d12⟩ := cells13 B7.out
      clear heq
      have ft : ∀ k, w7.frozen? ⟨w.heap.size, k, none⟩ = false := fun k => frozen13 T7.out
      obtain ⟨z0, z1, z2, z3, z4, z5, z6, z7, z8, z9, z10, z11, z12⟩ := cells13 T7.out
      go_wp2_with fail
      clear z0 z1 z2 z3 z4 z5 z6 z7 z8 z9 z10 z11 z12 ft d0 d1 d2 d3 d4 d5 d6 d7 d8 d9 d10 d11 d12 hq1 hq2
      obtain ⟨WF, hWF⟩ : ∃ WF, WF = w7.setCells w.heap.size 0 [.int .i64 x.author, .int .i64 x.seq, .int .i64 x.day, .slice al4 x.knows.length cl4, .int .i64 x.kind, .int .i64 x.circle, .int .i64 x.who, .int .i64 x.n, .int .i64 x.m, .int .i64 x.ref, .slice al11 x.keys.length cl11, .slice a3 x.spans.length c3, .string ⟨x.text.toArray⟩] := ⟨_, rfl⟩
      have uf : Upd (· = w.heap.size) w7 WF := by rw [hWF]; exact upd_setCells' (S := (· = w.heap.size)) _ (.inl rfl) _ _ _ (Upd.refl _ _)
      have hbf : WF.heap[w.heap.size]? = some (.cells (en13 x al4 al11 a3 cl4 cl11 c3) 25 (0, 0)) := by
        rw [hWF]; exact heap_setCells _ _ _ _ _ _ _ T7.out (by simp)
      simp only [World.setCells] at hWF
      rw [← hWF]
      obtain ⟨z0, z1, z2, z3, z4, z5, z6, z7, z8, z9, z10, z11, z12⟩ := cells13 hbf
      have UF := hid (U7.out.comp uf fun i hi e => by omega)
      have RF := hid (EnRep.wide (EnRep.keep1 R7.out uf fun g hg => Nat.ne_of_gt hg.1) (B := fun g => w.heap.size ≤ g ∧ g < WF.heap.size) fun g hg => ⟨Nat.le_of_lt hg.1, Nat.lt_of_lt_of_le hg.2 uf.size⟩)
      clear hWF uf hbf
      refine bodyPost_ret (v := .tuple #[.agg #[.int .i64 x.author, .int .i64 x.seq, .int .i64 x.day, .slice al4 x.knows.length cl4, .int .i64 x.kind, .int .i64 x.circle, .int .i64 x.who, .int .i64 x.n, .int .i64 x.m, .int .i64 x.ref, .slice al11 x.keys.length cl11, .slice a3 x.spans.length c3, .string ⟨x.text.toArray⟩], .int .i64 0]) (by rw [results_cell_tmp rfl]; go_simp) rfl ?_
      exact read_yes HY.out RF.out UF.out
    have hrp : 0 < r.rest.length := List.length_pos_iff.2 hB
    have tB : decide ((0 : Int) < (r.rest.length : Int)) = true := decide_eq_true (by omega)
    have tB2 : decide (0 < r.rest.length) = true := decide_eq_true hrp
    obtain ⟨m1, hm1⟩ : ∃ q, numF r = q := ⟨_, rfl⟩
    obtain ⟨m2, hm2⟩ : ∃ q, numF m1.2 = q := ⟨_, rfl⟩
    obtain ⟨m3, hm3⟩ : ∃ q, numF m2.2 = q := ⟨_, rfl⟩
    have j1 : I64 m1.1 := by rw [← hm1]; exact numberF_i64 _ _ _
    have j2 : I64 m2.1 := by rw [← hm2]; exact numberF_i64 _ _ _
    have j3 : I64 m3.1 := by rw [← hm3]; exact numberF_i64 _ _ _
    have l1 : m1.2.rest.length ≤ 10000000 := by rw [← hm1]; exact Nat.le_trans (Nat.le_trans (numberF_len _ _ _) (Nat.sub_le _ _)) hrl
    have l2 : m2.2.rest.length ≤ 10000000 := by rw [← hm2]; exact Nat.le_trans (Nat.le_trans (numberF_len _ _ _) (Nat.sub_le _ _)) l1
    have l3 : m3.2.rest.length ≤ 10000000 := by rw [← hm3]; exact Nat.le_trans (Nat.le_trans (numberF_len _ _ _) (Nat.sub_le _ _)) l2
    have OK3 := hid (show m3.2.Ok by rw [← hm3]; exact numF_ok (by rw [← hm2]; exact numF_ok (by rw [← hm1]; exact numF_ok HOK.out)))
    have SPN := hid (show spansF f (mn - ((i + 1 : Nat) : Int)) m3.2 (acc ++ [⟨m1.1, m2.1, m3.1⟩]) = SP by
      rw [← SPF.out, spansF_go ⟨by omega, hB, by have := HAL.out; omega⟩, hm1, hm2, hm3, show mn - ((i + 1 : Nat) : Int) = mn - (i : Int) - 1 by omega])
    have WFS := hid (show SpWf ⟨m1.1, m2.1, m3.1⟩ from ⟨iwf j1, iwf j2, iwf j3⟩)
    have L3 := hid l3; have HM1 := hid hm1; have HM2 := hid hm2; have HM3 := hid hm3
    have EBX := hid (heap_lt EB12.out)
    obtain ⟨W1, hW1⟩ : ∃ W1, W1 = wr.alloc (.cells #[.int .i64 0, .int .i64 0, .int .i64 0] 39 (0, 0)) := ⟨_, rfl⟩
    have hx : W1.heap[wr.heap.size]? = some (.cells #[.int .i64 0, .int .i64 0, .int .i64 0] 39 (0, 0)) := by rw [hW1]; exact heap_alloc_new
    have u1 : Upd (fun _ => False) wr W1 := by rw [hW1]; exact (Upd.refl _ _).alloc _
    obtain ⟨xb, hxb⟩ : ∃ z, wr.heap.size = z := ⟨_, rfl⟩
    rw [hxb] at hx
    have XBE := hid (show eb < xb by rw [← hxb]; exact heap_lt BL.out)
    have XBO := hid (show ∀ g, (Value.slice a3 acc.length c3).ownBlock = some g → g < xb from fun g hg => by rw [← hxb]; exact (OW.out.lt g hg).2)
    have XBW := hid (show wr.heap.size ≤ xb by omega)
    have U1 := hid u1; have HX1 := hid hx; have R1 := hid (RR.out.upd u1 id); have HW1 := hid hW1
    go_wp2_with fail
    refine (qleft_any rb r _ RR.out).mono ?_
    rintro en w6 ⟨rfl, hw6⟩
    subst hw6
    clear SPF j1 j2 j3 l3 hB hm1 hm2 hm3 u1 hx hW1
    go_wp2_with fail
    rw [← HW1.out]
    try rw [hxb]
    clear HW1 tB tB2 tC tC2 tA hrp
    refine (qNumR_any rb r _ R1.out hrl).mono ?_
    rintro en y1 ⟨rfl, hr, u⟩
    rw [HM1.out] at hr ⊢
    have hx := (u.block xb (heap_lt HX1.out) fun e => by have := XBE.out; have := EBL.out; omega).trans HX1.out
    have cz : y1.cell? ⟨xb, 0, none⟩ = some (.int .i64 0) := by rw [cell_of_block hx]; rfl
    have fz : y1.frozen? ⟨xb, 0, none⟩ = false := frozen_of_block hx
    obtain ⟨Y1, hY⟩ : ∃ z, z = y1.setCell ⟨xb, 0, none⟩ (.int .i64 m1.1) := ⟨_, rfl⟩
    have us : Upd (· = xb) y1 Y1 := by rw [hY]; exact (Upd.refl _ _).at_ 0 _
    have HX2 := hid (show Y1.heap[xb]? = some (.cells #[.int .i64 m1.1, .int .i64 0, .int .i64 0] 39 (0, 0)) by rw [hY, heap_setCell_same (p := ⟨xb, 0, none⟩) rfl hx]; rfl)
    have R2 := hid (hr.upd us (fun e => by have := XBE.out; have := EBL.out; omega))
    have U2 := hid (show Upd (fun g => g = rb ∨ g = xb) wr Y1 from ((U1.out.mono fun _ h => h.elim).trans (u.mono fun _ h => .inl h)).trans (us.mono fun _ h => .inr h))
    have HY := hid hY
    clear hr u hx us hY HX1 R1 U1
    go_wp2_with fail
    rw [← HY.out]
    clear HY cz fz
    refine (qNumR_any rb m1.2 _ R2.out l1).mono ?_
    rintro en y2 ⟨rfl, hr, u⟩
    rw [HM2.out] at hr ⊢
    have hx := (u.block xb (heap_lt HX2.out) fun e => by have := XBE.out; have := EBL.out; omega).trans HX2.out
    have cz : y2.cell? ⟨xb, 1, none⟩ = some (.int .i64 0) := by rw [cell_of_block hx]; rfl
    have fz : y2.frozen? ⟨xb, 1, none⟩ = false := frozen_of_block hx
    obtain ⟨Y2, hY⟩ : ∃ z, z = y2.setCell ⟨xb, 1, none⟩ (.int .i64 m2.1) := ⟨_, rfl⟩
    have us : Upd (· = xb) y2 Y2 := by rw [hY]; exact (Upd.refl _ _).at_ 1 _
    have HX3 := hid (show Y2.heap[xb]? = some (.cells #[.int .i64 m1.1, .int .i64 m2.1, .int .i64 0] 39 (0, 0)) by rw [hY, heap_setCell_same (p := ⟨xb, 1, none⟩) rfl hx]; rfl)
    have R3 := hid (hr.upd us (fun e => by have := XBE.out; have := EBL.out; omega))
    have U3 := hid (show Upd (fun g => g = rb ∨ g = xb) wr Y2 from (U2.out.trans (u.mono fun _ h => .inl h)).trans (us.mono fun _ h => .inr h))
    have HY := hid hY
    clear hr u hx us hY HX2 R2 U2
    go_wp2_with fail
    rw [← HY.out]
    clear HY cz fz
    refine (qNumR_any rb m2.2 _ R3.out l2).mono ?_
    rintro en y3 ⟨rfl, hr, u⟩
    rw [HM3.out] at hr ⊢
    have hx := (u.block xb (heap_lt HX3.out) fun e => by have := XBE.out; have := EBL.out; omega).trans HX3.out
    have cz : y3.cell? ⟨xb, 2, none⟩ = some (.int .i64 0) := by rw [cell_of_block hx]; rfl
    have fz : y3.frozen? ⟨xb, 2, none⟩ = false := frozen_of_block hx
    obtain ⟨Y3, hY⟩ : ∃ z, z = y3.setCell ⟨xb, 2, none⟩ (.int .i64 m3.1) := ⟨_, rfl⟩
    have us : Upd (· = xb) y3 Y3 := by rw [hY]; exact (Upd.refl _ _).at_ 2 _
    have HX4 := hid (show Y3.heap[xb]? = some (.cells #[.int .i64 m1.1, .int .i64 m2.1, .int .i64 m3.1] 39 (0, 0)) by rw [hY, heap_setCell_same (p := ⟨xb, 2, none⟩) rfl hx]; rfl)
    have R4 := hid (hr.upd us (fun e => by have := XBE.out; have := EBL.out; omega))
    have U4 := hid (show Upd (fun g => g = rb ∨ g = xb) wr Y3 from (U3.out.trans (u.mono fun _ h => .inl h)).trans (us.mono fun _ h => .inr h))
    have HY := hid hY
    clear hr u hx us hY HX3 R3 U3
    go_upto_region 22 with (fail)
    rw [← HY.out]
    clear HY cz fz
    have hbe := (U4.out.block eb (heap_lt BL.out) fun e => by have := XBE.out; have := EBL.out; omega).trans BL.out
    obtain ⟨_, _, _, _, _, _, _, _, _, _, _, e11, _⟩ := cells13 hbe
    have e11 : Y3.cell? ⟨eb, 11, none⟩ = some (.slice a3 acc.length c3) := e11
    have hx4 := HX4.out
    have g0 : Y3.cell? ⟨xb, 0, none⟩ = some (.int .i64 m1.1) := by rw [cell_of_block hx4]; rfl
    have g1 : Y3.cell? ⟨xb, 1, none⟩ = some (.int .i64 m2.1) := by rw [cell_of_block hx4]; rfl
    have g2 : Y3.cell? ⟨xb, 2, none⟩ = some (.int .i64 m3.1) := by rw [cell_of_block hx4]; rfl
    have own6 := ownsRow_upd OW.out U4.out fun g hg e => by have := (OW.out.lt g hg).1; have := EBX.out; have := EBL.out; have := XBO.out g hg; omega
    obtain ⟨v', w5, r5, o5, u5, n5⟩ := append_one elemSp own6 #[.int .i64 m1.1, .int .i64 m2.1, .int .i64 m3.1] rfl (by simp [Value.oneCell']) (by have := HAL.out; unfold maxLen; omega) (by have := HAL.out; omega) (by have := UL.out.size; have := U4.out.size; omega) 23 (0, 0)
    obtain ⟨g5, cap5, rfl⟩ : ∃ g cap, v' = .slice (some ⟨g, 0, none⟩) (acc.length + 1) cap := by
      rcases ownsRow_fits o5 with ⟨_, hz⟩ | ⟨g, cap, h, _⟩
      · omega
      · exact ⟨g, cap, h⟩
    have hlt6 := own6.lt
    have hb5 := (u5.block eb (heap_lt hbe) (fun e => by have := (hlt6 eb e).1; have := EBX.out; omega)).trans hbe
    have hr5 := (u5.block rb (heap_lt R4.out) (fun e => by have := (hlt6 rb e).1; have := EBX.out; have := EBL.out; omega)).trans R4.out
    have f5 : w5.frozen? ⟨eb, 11, none⟩ = false := frozen13 hb5
    obtain ⟨_, _, _, _, _, _, _, _, _, _, _, e5, _⟩ := cells13 hb5
    have US := hid ((Upd.refl (· = eb) w5).at_ 11 (.slice (some ⟨g5, 0, none⟩) (acc.length + 1) cap5))
    have HB6 := hid (store_11 (b3 := some ⟨g5, 0, none⟩) (d3 := cap5) (l := acc ++ [⟨m1.1, m2.1, m3.1⟩]) (n := acc.length + 1) hb5 (by simp))
    have HR6 := hid (RqAt.upd (r := m3.2) (show RqAt w5 rb m3.2 from hr5) US.out (Nat.ne_of_lt EBL.out))
    have O6 := hid (ownsRow_upd o5 US.out fun g hg e => by have := (o5.lt g hg).1; have := EBX.out; omega)
    have hsz12 := UL.out.size
    have U6 := hid (((UL.out.comp U4.out fun i hi e => e.elim (fun e => .inl e) (fun e => by have := XBW.out; omega)).comp u5 fun i hi e => by have := (hlt6 i e).1; omega).trans (US.out.mono fun _ h => .inr h))
    have WF6 := hid (show ∀ t ∈ acc ++ [(⟨m1.1, m2.1, m3.1⟩ : Sp)], SpWf t from fun t ht => by
      rcases List.mem_append.1 ht with h | h
      · exact WF.out t h
      · rw [List.mem_singleton.1 h]; exact WFS.out)
    clear own6 o5 u5 n5 hb5 hr5 hbe hx4 hlt6 U4 HX4 R4
    go_wp2_with (at_builtin; refine wpList_append_run rfl _ _ _ _ rfl rfl rfl r5 ?_)
    go_roundg f
    case measure => omega
    case rel => exact ⟨i + 1, m3.2, acc ++ [⟨m1.1, m2.1, m3.1⟩], some ⟨g5, 0, none⟩, cap5, by omega, by omega, by rw [List.length_append, HAL.out]; rfl, by go_num, OK3.out, L3.out, HR6.out, HB6.out, by rw [List.length_append, flatS_append]; exact O6.out, WF6.out, SPN.out, U6.out⟩
end Go.Proofs.YtdcahnkcnbhknaaGreatDoor
