/- Walks: EntryFields. -/
import Derived.Test.YtdcahnkcnbhknaaGreatDoorEnNamed
import Derived.Deep.CutBlock
namespace Go.Proofs.YtdcahnkcnbhknaaGreatDoor
open Go.RowKit Go.Deep

set_option maxRecDepth 100000 in
set_option maxHeartbeats 16000000 in
theorem fields_walk (cs1 : Array Value) (e : En) (which n : Int) (cs2 : Array Value) (s : Sp) (w : World) (E : Env w) (hu : UsesIn w) (hz : 6 ≤ w.heap.size) (h0 : kEn.rep (· < w.heap.size) w cs1.toList e) (hwh : (Lit.int .u8 which).wf = true) (hn : (Lit.int .i64 n).wf = true) (h1 : kSp.rep (· < w.heap.size) w cs2.toList s) :
    Calls Tryz.prog 5 #[.agg cs1, .int .u8 which, .int .i64 n, .agg cs2] w fun e w' => e = .returned (.bool true) ∧ Upd (fun _ => False) w w' := by
  obtain ⟨a1, a2, a3, c1, c2, c3, rfl, ra, oa⟩ := en_open h0
  obtain ⟨hcs, sw⟩ := sp_open h1
  obtain rfl : cs2 = #[.int .i64 s.mark, .int .i64 s.fr, .int .i64 s.to] := by cases cs2; simp_all [spCells]
  have hw8 : 0 ≤ which ∧ which ≤ 255 := by simpa [Lit.wf, IntKind.min, IntKind.max, IntKind.signed, IntKind.bits] using hwh
  have hn8 := wfi hn
  obtain ⟨W0, hW0⟩ : ∃ W0, W0 = (w.alloc (.cells (en13 e a1 a2 a3 c1 c2 c3) 25 (0, 0))).alloc (.cells #[.int .i64 s.mark, .int .i64 s.fr, .int .i64 s.to] 39 (0, 0)) := ⟨_, rfl⟩
  have u0 : Upd (fun _ => False) w W0 := by rw [hW0]; exact ((Upd.refl _ _).alloc _).alloc _
  have hba : W0.heap[w.heap.size]? = some (.cells (en13 e a1 a2 a3 c1 c2 c3) 25 (0, 0)) := by rw [hW0, heap_alloc_old (by simp)]; exact heap_alloc_new
  have hbb : W0.heap[w.heap.size + 1]? = some (.cells #[.int .i64 s.mark, .int .i64 s.fr, .int .i64 s.to] 39 (0, 0)) := by
    have h : (w.alloc (.cells (en13 e a1 a2 a3 c1 c2 c3) 25 (0, 0))).heap.size = w.heap.size + 1 := by simp
    rw [hW0, ← h]; exact heap_alloc_new
  have HA0 : Hid (EnAt W0 w.heap.size e a1 a2 a3 c1 c2 c3) := hid ⟨hba, (ra.keep u0).wide fun _ hg => Nat.lt_of_lt_of_le hg u0.size⟩
  have HB0 := hid hbb
  have U0 := hid u0; have HW0 := hid hW0; have HE := hid (E.keep0 u0); have HU := hid (hu.keep u0); have HZ := hid (Nat.le_trans hz u0.size); have OA := hid oa; have SW := hid sw; have HN := hid hn8
  obtain ⟨pa, hpa⟩ : ∃ x, w.heap.size = x := ⟨_, rfl⟩
  have PA := hid hpa
  clear E hu hz h0 h1 ra oa sw u0 hba hbb hW0 hpa hcs hwh hn
  by_cases fa : FewE e
  case neg =>
    as_aux_lemma =>
    go_enter Tryz.func5, Tryz.ntmps5
    go_wp2_with fail
    rw [← HW0.out]
    clear HW0
    rw [PA.out] at HA0 HB0
    try rw [PA.out]
    refine (small_any _ HE.out HU.out HZ.out).mono ?_
    rintro en x0 ⟨rfl, u⟩
    have UC := hid u
    have LA := hid (HA0.out.keep u); have LB := hid ((u.block _ (heap_lt HB0.out) id).trans HB0.out)
    clear u HA0 HB0
    obtain ⟨e0, e1, e2, e3, e4, e5, e6, e7, e8, e9, e10, e11, e12⟩ := LA.out.cells
    go_wp2_with fail
    refine (few_any e a1 a2 a3 c1 c2 c3 _).mono ?_
    rintro en x1 ⟨rfl, u⟩
    rw [decide_eq_false fa]
    replace LA := hid (LA.out.keep u)
    replace LB := hid ((u.block _ (heap_lt LB.out) id).trans LB.out)
    replace UC := hid (UC.out.trans u)
    clear u e0 e1 e2 e3 e4 e5 e6 e7 e8 e9 e10 e11 e12
    go_wp2_with fail
    go_ret
    exact ⟨rfl, U0.out.trans UC.out⟩
  by_cases hr : RightE e
  case neg =>
    as_aux_lemma =>
    go_enter Tryz.func5, Tryz.ntmps5
    go_wp2_with fail
    rw [← HW0.out]
    clear HW0
    rw [PA.out] at HA0 HB0
    try rw [PA.out]
    refine (small_any _ HE.out HU.out HZ.out).mono ?_
    rintro en x0 ⟨rfl, u⟩
    have UC := hid u
    have LA := hid (HA0.out.keep u); have LB := hid ((u.block _ (heap_lt HB0.out) id).trans HB0.out)
    clear u HA0 HB0
    obtain ⟨e0, e1, e2, e3, e4, e5, e6, e7, e8, e9, e10, e11, e12⟩ := LA.out.cells
    go_wp2_with fail
    refine (few_any e a1 a2 a3 c1 c2 c3 _).mono ?_
    rintro en x1 ⟨rfl, u⟩
    rw [decide_eq_true fa]
    replace LA := hid (LA.out.keep u)
    replace LB := hid ((u.block _ (heap_lt LB.out) id).trans LB.out)
    replace UC := hid (UC.out.trans u)
    clear u e0 e1 e2 e3 e4 e5 e6 e7 e8 e9 e10 e11 e12
    obtain ⟨e0, e1, e2, e3, e4, e5, e6, e7, e8, e9, e10, e11, e12⟩ := LA.out.cells
    go_wp2_with fail
    refine (right_any e a1 a2 a3 c1 c2 c3 _ _ (HU.out.keep UC.out) LA.out.rep).mono ?_
    rintro en x2 ⟨rfl, u⟩
    rw [decide_eq_false hr]
    replace LA := hid (LA.out.keep u)
    replace LB := hid ((u.block _ (heap_lt LB.out) id).trans LB.out)
    replace UC := hid (UC.out.trans u)
    clear u e0 e1 e2 e3 e4 e5 e6 e7 e8 e9 e10 e11 e12
    go_wp2_with fail
    go_ret
    exact ⟨rfl, U0.out.trans UC.out⟩
  have WA := hid (OA.out.wf fa)
  have FA := hid fa; have HR := hid hr
  clear fa hr
  go_enter Tryz.func5, Tryz.ntmps5
  go_wp2_with fail
  rw [← HW0.out]
  clear HW0
  rw [PA.out] at HA0 HB0
  try rw [PA.out]
  refine (small_any _ HE.out HU.out HZ.out).mono ?_
  rintro en x0 ⟨rfl, u⟩
  have UC := hid u
  have LA := hid (HA0.out.keep u); have LB := hid ((u.block _ (heap_lt HB0.out) id).trans HB0.out)
  clear u HA0 HB0
  obtain ⟨e0, e1, e2, e3, e4, e5, e6, e7, e8, e9, e10, e11, e12⟩ := LA.out.cells
  go_wp2_with fail
  refine (few_any e a1 a2 a3 c1 c2 c3 _).mono ?_
  rintro en x1 ⟨rfl, u⟩
  rw [decide_eq_true FA.out]
  replace LA := hid (LA.out.keep u)
  replace LB := hid ((u.block _ (heap_lt LB.out) id).trans LB.out)
  replace UC := hid (UC.out.trans u)
  clear u e0 e1 e2 e3 e4 e5 e6 e7 e8 e9 e10 e11 e12
  obtain ⟨e0, e1, e2, e3, e4, e5, e6, e7, e8, e9, e10, e11, e12⟩ := LA.out.cells
  go_wp2_with fail
  refine (right_any e a1 a2 a3 c1 c2 c3 _ _ (HU.out.keep UC.out) LA.out.rep).mono ?_
  rintro en x2 ⟨rfl, u⟩
  rw [decide_eq_true HR.out]
  replace LA := hid (LA.out.keep u)
  replace LB := hid ((u.block _ (heap_lt LB.out) id).trans LB.out)
  replace UC := hid (UC.out.trans u)
  clear u e0 e1 e2 e3 e4 e5 e6 e7 e8 e9 e10 e11 e12
  go_upto_region 6 with (fail)
  obtain ⟨k, hk⟩ : ∃ k : Nat, which % 8 = (k : Int) := ⟨(which % 8).toNat, by omega⟩
  rw [hk]
  have hk8 : k < 8 := by omega
  have hki : (k : Int) < 8 := by omega
  obtain ⟨W1, hW1⟩ : ∃ z, z = x2.alloc (.cells #[.string ⟨#[67, 105, 114, 99, 108, 101]⟩, .string ⟨#[87, 104, 111]⟩, .string ⟨#[78]⟩, .string ⟨#[77]⟩, .string ⟨#[82, 101, 102]⟩, .string ⟨#[75, 101, 121, 115]⟩, .string ⟨#[83, 112, 97, 110, 115]⟩, .string ⟨#[84, 101, 120, 116]⟩] 9 (0, 0)) := ⟨_, rfl⟩
  have hb : W1.heap[x2.heap.size]? = some (.cells #[.string ⟨#[67, 105, 114, 99, 108, 101]⟩, .string ⟨#[87, 104, 111]⟩, .string ⟨#[78]⟩, .string ⟨#[77]⟩, .string ⟨#[82, 101, 102]⟩, .string ⟨#[75, 101, 121, 115]⟩, .string ⟨#[83, 112, 97, 110, 115]⟩, .string ⟨#[84, 101, 120, 116]⟩] 9 (0, 0)) := by rw [hW1]; exact heap_alloc_new
  have u : Upd (fun _ => False) x2 W1 := by rw [hW1]; exact (Upd.refl _ _).alloc _
  replace LA := hid (LA.out.keep u)
  replace LB := hid ((u.block _ (heap_lt LB.out) id).trans LB.out)
  replace UC := hid (UC.out.trans u)
  have NB := hid hb
  obtain ⟨nb, hnb⟩ : ∃ z, x2.heap.size = z := ⟨_, rfl⟩
  rw [← hW1]
  rw [hnb] at NB ⊢
  clear hb u hW1 hnb hk
  obtain ⟨e0, e1, e2, e3, e4, e5, e6, e7, e8, e9, e10, e11, e12⟩ := LA.out.cells
  have RP := hid LA.out.rep
  have hpl := heap_lt LA.out.blk
  have hnl := heap_lt NB.out
  have hsz := UC.out.size
  obtain ⟨W2, hW2⟩ : ∃ z, z = W1.alloc (.cells #[.int .i64 e.author, .int .i64 e.seq, .int .i64 e.day, .slice a1 e.knows.length c1, .int .i64 e.kind, .int .i64 e.circle, .int .i64 e.who, .int .i64 e.n, .int .i64 e.m, .int .i64 e.ref, .slice a2 e.keys.length c2, .slice a3 e.spans.length c3, .string ⟨e.text.toArray⟩] 25 (0, 0)) := ⟨_, rfl⟩
  have hb : W2.heap[W1.heap.size]? = some (.cells (en13 e a1 a2 a3 c1 c2 c3) 25 (0, 0)) := by rw [hW2]; exact heap_alloc_new
  have u : Upd (fun _ => False) W1 W2 := by rw [hW2]; exact (Upd.refl _ _).alloc _
  have HW2 := hid hW2
  replace RP := hid (RP.out.keep u)
  replace NB := hid ((u.block _ (heap_lt NB.out) id).trans NB.out)
  replace LA := hid (LA.out.keep u)
  replace LB := hid ((u.block _ (heap_lt LB.out) id).trans LB.out)
  replace UC := hid (UC.out.trans u)
  obtain ⟨px, hpx⟩ : ∃ z, W1.heap.size = z := ⟨_, rfl⟩
  have XB := hid hb
  rw [hpx] at XB RP
  have PX := hid (show pa < px by rw [← hpx]; exact hpl)
  have NX := hid (show nb < px by rw [← hpx]; exact hnl)
  have SX := hid (show W0.heap.size ≤ px by rw [← hpx]; exact hsz)
  have HPX := hid hpx
  clear hb u hW2 hpx hpl hnl hsz
  go_upto_block 0 with (fail)
  rw [← HW2.out]
  try rw [HPX.out]
  clear HW2 HPX e0 e1 e2 e3 e4 e5 e6 e7 e8 e9 e10 e11 e12
  go_cut [] (fun wx => ∃ b2 b3 d2 d3, EnAt wx px (setE e k n s) a1 b2 b3 c1 d2 d3 ∧ Upd (· = px) W2 wx)
  case first =>
    have hfz : ∀ j, W2.frozen? ⟨px, j, none⟩ = false := fun j => frozen13 XB.out
    obtain ⟨z0, z1, z2, z3, z4, z5, z6, z7, z8, z9, z10, z11, z12⟩ := cells13 XB.out
    have NE := hid (fun g (hg : g < px) => (show ¬ g = px from Nat.ne_of_lt hg))
    have XL := hid (heap_lt XB.out)
    have hkk : k = 0 ∨ k = 1 ∨ k = 2 ∨ k = 3 ∨ k = 4 ∨ k = 5 ∨ k = 6 ∨ k = 7 := by omega
    clear hk8 hki
    rcases hkk with rfl | rfl | rfl | rfl | rfl | rfl | rfl | rfl
    · as_aux_lemma =>
      go_wp2_with fail
      go_meet
      case rel =>
        have us := (Upd.refl (· = px) W2).at_ 5 (.int .i64 n)
        have r := (RP.out.keep1 us NE.out).wide (B := (· < (W2.setCell ⟨px, 5, none⟩ (.int .i64 n)).heap.size)) fun g hg => Nat.lt_of_lt_of_le (Nat.lt_trans hg XL.out) us.size
        exact ⟨a2, a3, c2, c3, ⟨by rw [heap_setCell_same (p := ⟨px, 5, none⟩) rfl XB.out]; rfl, ⟨r.knows, r.keys, r.spans⟩⟩, us⟩
    · as_aux_lemma =>
      go_wp2_with fail
      go_meet
      case rel =>
        have us := (Upd.refl (· = px) W2).at_ 6 (.int .i64 n)
        have r := (RP.out.keep1 us NE.out).wide (B := (· < (W2.setCell ⟨px, 6, none⟩ (.int .i64 n)).heap.size)) fun g hg => Nat.lt_of_lt_of_le (Nat.lt_trans hg XL.out) us.size
        exact ⟨a2, a3, c2, c3, ⟨by rw [heap_setCell_same (p := ⟨px, 6, none⟩) rfl XB.out]; rfl, ⟨r.knows, r.keys, r.spans⟩⟩, us⟩
    · as_aux_lemma =>
      go_wp2_with fail
      go_meet
      case rel =>
        have us := (Upd.refl (· = px) W2).at_ 7 (.int .i64 n)
        have r := (RP.out.keep1 us NE.out).wide (B := (· < (W2.setCell ⟨px, 7, none⟩ (.int .i64 n)).heap.size)) fun g hg => Nat.lt_of_lt_of_le (Nat.lt_trans hg XL.out) us.size
        exact ⟨a2, a3, c2, c3, ⟨by rw [heap_setCell_same (p := ⟨px, 7, none⟩) rfl XB.out]; rfl, ⟨r.knows, r.keys, r.spans⟩⟩, us⟩
    · as_aux_lemma =>
      go_wp2_with fail
      go_meet
      case rel =>
        have us := (Upd.refl (· = px) W2).at_ 8 (.int .i64 n)
        have r := (RP.out.keep1 us NE.out).wide (B := (· < (W2.setCell ⟨px, 8, none⟩ (.int .i64 n)).heap.size)) fun g hg => Nat.lt_of_lt_of_le (Nat.lt_trans hg XL.out) us.size
        exact ⟨a2, a3, c2, c3, ⟨by rw [heap_setCell_same (p := ⟨px, 8, none⟩) rfl XB.out]; rfl, ⟨r.knows, r.keys, r.spans⟩⟩, us⟩
    · as_aux_lemma =>
      go_wp2_with fail
      go_meet
      case rel =>
        have us := (Upd.refl (· = px) W2).at_ 9 (.int .i64 n)
        have r := (RP.out.keep1 us NE.out).wide (B := (· < (W2.setCell ⟨px, 9, none⟩ (.int .i64 n)).heap.size)) fun g hg => Nat.lt_of_lt_of_le (Nat.lt_trans hg XL.out) us.size
        exact ⟨a2, a3, c2, c3, ⟨by rw [heap_setCell_same (p := ⟨px, 9, none⟩) rfl XB.out]; rfl, ⟨r.knows, r.keys, r.spans⟩⟩, us⟩
    · as_aux_lemma =>
      obtain ⟨WA2, hWA⟩ : ∃ z, z = W2.alloc (.cells #[.int .i64 n] 3 (0, 0)) := ⟨_, rfl⟩
      have ua : Upd (· = px) W2 WA2 := by rw [hWA]; exact (Upd.refl _ _).alloc _
      have hbA : IntsBlk WA2 W2.heap.size [n] := by unfold IntsBlk; rw [hWA]; exact heap_alloc_new
      have xba : WA2.heap[px]? = some (.cells (en13 e a1 a2 a3 c1 c2 c3) 25 (0, 0)) := by rw [hWA, heap_alloc_old XL.out]; exact XB.out
      have fA : WA2.frozen? ⟨px, 10, none⟩ = false := frozen13 xba
      obtain ⟨_, _, _, _, _, _, _, _, _, _, y10, _, _⟩ := cells13 xba
      have UA := hid ua; have HBA := hid hbA; have XBA := hid xba; have HWA := hid hWA
      rw [hWA] at fA y10
      clear ua hbA xba hWA
      go_wp2_with fail
      try rw [← HWA.out]
      go_meet
      case rel =>
        have us := UA.out.at_ 10 (.slice (some ⟨W2.heap.size, 0, none⟩) 1 1)
        have u1 := (Upd.refl (· = px) WA2).at_ 10 (.slice (some ⟨W2.heap.size, 0, none⟩) 1 1)
        have r := (RP.out.keep1 us NE.out).wide (B := (· < (WA2.setCell ⟨px, 10, none⟩ (.slice (some ⟨W2.heap.size, 0, none⟩) 1 1)).heap.size)) fun g hg => Nat.lt_of_lt_of_le (Nat.lt_trans hg XL.out) us.size
        have hy := (HBA.out.upd u1 (Nat.ne_of_gt XL.out)).rep (A := (· < (WA2.setCell ⟨px, 10, none⟩ (.slice (some ⟨W2.heap.size, 0, none⟩) 1 1)).heap.size)) (cap := 1) (by intro x hx; rw [List.mem_singleton.1 hx]; exact iwf HN.out) (Nat.le_refl 1) (by unfold maxLen; decide) (Nat.lt_of_lt_of_le HBA.out.lt u1.size)
        exact ⟨some ⟨W2.heap.size, 0, none⟩, a3, 1, c3, ⟨by rw [heap_setCell_same (p := ⟨px, 10, none⟩) rfl XBA.out]; rfl, ⟨r.knows, hy, r.spans⟩⟩, us⟩
    · as_aux_lemma =>
      obtain ⟨l0, l1, l2⟩ := cells_s LB.out
      obtain ⟨WA2, hWA⟩ : ∃ z, z = W2.alloc (.cells #[.int .i64 s.mark, .int .i64 s.fr, .int .i64 s.to] 39 (0, 0)) := ⟨_, rfl⟩
      have ua : Upd (· = px) W2 WA2 := by rw [hWA]; exact (Upd.refl _ _).alloc _
      have hbA : WA2.heap[W2.heap.size]? = some (.cells (flatS [s]).toArray 39 (0, 0)) := by rw [hWA]; exact heap_alloc_new
      have xba : WA2.heap[px]? = some (.cells (en13 e a1 a2 a3 c1 c2 c3) 25 (0, 0)) := by rw [hWA, heap_alloc_old XL.out]; exact XB.out
      have fA : WA2.frozen? ⟨px, 11, none⟩ = false := frozen13 xba
      obtain ⟨_, _, _, _, _, _, _, _, _, _, _, y11, _⟩ := cells13 xba
      have UA := hid ua; have HBA := hid hbA; have XBA := hid xba; have HWA := hid hWA
      rw [hWA] at fA y11
      clear ua hbA xba hWA
      go_wp2_with fail
      try rw [← HWA.out]
      go_meet
      case rel =>
        have us := UA.out.at_ 11 (.slice (some ⟨W2.heap.size, 0, none⟩) 1 1)
        have u1 := (Upd.refl (· = px) WA2).at_ 11 (.slice (some ⟨W2.heap.size, 0, none⟩) 1 1)
        have r := (RP.out.keep1 us NE.out).wide (B := (· < (WA2.setCell ⟨px, 11, none⟩ (.slice (some ⟨W2.heap.size, 0, none⟩) 1 1)).heap.size)) fun g hg => Nat.lt_of_lt_of_le (Nat.lt_trans hg XL.out) us.size
        have hy := lit_rep (l := [s]) ((u1.block _ (heap_lt HBA.out) (Nat.ne_of_gt XL.out)).trans HBA.out) (fun t ht => by rw [List.mem_singleton.1 ht]; exact SW.out) (by unfold maxLen; simp only [List.length_singleton]; decide)
        exact ⟨a2, some ⟨W2.heap.size, 0, none⟩, c2, 1, ⟨by rw [heap_setCell_same (p := ⟨px, 11, none⟩) rfl XBA.out]; rfl, ⟨r.knows, r.keys, hy⟩⟩, us⟩
    · as_aux_lemma =>
      go_wp2_with fail
      go_meet
      case rel =>
        have us := (Upd.refl (· = px) W2).at_ 12 (.string ⟨#[120]⟩)
        have r := (RP.out.keep1 us NE.out).wide (B := (· < (W2.setCell ⟨px, 12, none⟩ (.string ⟨#[120]⟩)).heap.size)) fun g hg => Nat.lt_of_lt_of_le (Nat.lt_trans hg XL.out) us.size
        exact ⟨a2, a3, c2, c3, ⟨by rw [heap_setCell_same (p := ⟨px, 12, none⟩) rfl XB.out]; rfl, ⟨r.knows, r.keys, r.spans⟩⟩, us⟩
  case rest =>
    as_aux_lemma =>
    obtain ⟨b2, b3, d2, d3, hx, u⟩ := hcut
    have NE := hid (fun g (hg : g < px) => (show ¬ g = px from Nat.ne_of_lt hg))
    have hla : EnAt wc pa e a1 a2 a3 c1 c2 c3 := ⟨(u.block _ (heap_lt LA.out.blk) (Nat.ne_of_lt PX.out)).trans LA.out.blk, (RP.out.keep1 u NE.out).wide fun g hg => Nat.lt_of_lt_of_le (Nat.lt_trans hg (heap_lt XB.out)) u.size⟩
    have hnb := (u.block _ (heap_lt NB.out) (Nat.ne_of_lt NX.out)).trans NB.out
    replace LA := hid hla
    replace NB := hid hnb
    replace UC := hid (upd_fresh UC.out u SX.out)
    obtain ⟨X, hX⟩ : ∃ X, setE e k n s = X := ⟨_, rfl⟩
    rw [hX] at hx
    have LX := hid hx
    obtain ⟨nm, hnm⟩ : ∃ x, (usesT.getD k (0, [])).2 = x := ⟨_, rfl⟩
    have hcell : wc.cell? ⟨nb, k, none⟩ = some (.string ⟨nm.toArray⟩) := by
      rw [cell_of_block NB.out, ← hnm]
      have : ∀ i, i < 8 → (#[.string ⟨#[67, 105, 114, 99, 108, 101]⟩, .string ⟨#[87, 104, 111]⟩, .string ⟨#[78]⟩, .string ⟨#[77]⟩, .string ⟨#[82, 101, 102]⟩, .string ⟨#[75, 101, 121, 115]⟩, .string ⟨#[83, 112, 97, 110, 115]⟩, .string ⟨#[84, 101, 120, 116]⟩] : Array Value)[i]? = some (.string ⟨((usesT.getD i (0, [])).2).toArray⟩) := by
        intro i hi
        rcases (by omega : i = 0 ∨ i = 1 ∨ i = 2 ∨ i = 3 ∨ i = 4 ∨ i = 5 ∨ i = 6 ∨ i = 7) with rfl | rfl | rfl | rfl | rfl | rfl | rfl | rfl <;> rfl
      exact this k hk8
    have hqq : nm ∉ usesN e.kind → decide (RightE X) = decide (X = e) := fun hn => decide_eq_decide.2 (by rw [← hX]; exact fields_law HR.out k hk8 n s (not_used HR.out hk8 (by rw [hnm]; exact hn)))
    have QQ := hid hqq
    obtain ⟨W3, hW3⟩ : ∃ z, z = wc := ⟨_, rfl⟩
    subst hW3
    clear hla hnb hx u hX hnm hqq XB RP NE PX NX SX
    go_upto_region 23 with (fail)
    go_cut [79] (fun sv wx => sv = .bool false ∧ Upd (fun _ => False) W3 wx)
    case first =>
      have YX0 : Hid (EnAt W3.drew px X a1 b2 b3 c1 d2 d3) := hid (LX.out.keep (Upd.drew (Upd.refl _ _)))
      have YA0 : Hid (EnAt W3.drew pa e a1 a2 a3 c1 c2 c3) := hid (LA.out.keep (Upd.drew (Upd.refl _ _)))
      have V0 := hid ((Upd.refl (fun _ => False) W3).drew)
      have YN0 : Hid (W3.drew.cell? ⟨nb, k, none⟩ = some (.string ⟨nm.toArray⟩)) := hid hcell
      clear hcell
      by_cases hin : nm ∈ usesN e.kind
      case pos =>
        as_aux_lemma =>
        have HI := hid hin
        clear hin
        refine wp_region_held_drew (S := fun w' => w'.cell? ⟨pa, 4, none⟩ = some (.int .i64 e.kind) ∧ w'.cell? ⟨nb, k, none⟩ = some (.string ⟨nm.toArray⟩)) (by kernel_rfl) ⟨YA0.out.cells.2.2.2.2.1, YN0.out⟩ (fun hHeld => ?_)
        refine wpAnyH_take (i := 0) rfl (by kernel_rfl) (by kernel_rfl) (by kernel_rfl) (fun _ _ _ h => h) (Or.inl ⟨by rfl, by (intro w hSw; (try dsimp only at hSw); go_simp; try with_reducible rfl)⟩) (by assumption) ?_
        try simp only [Act.put, List.getElem_toArray, List.getElem_cons_succ, List.getElem_cons_zero, List.setIfInBounds_toArray, List.set_cons_zero, List.set_cons_succ]
        refine wpAnyH_take (i := 1) rfl (by kernel_rfl) (by kernel_rfl) (by kernel_rfl) (fun _ _ _ h => h) (Or.inl ⟨by rfl, by (intro w hSw; (try dsimp only at hSw); go_simp; try with_reducible rfl)⟩) (by assumption) ?_
        try simp only [Act.put, List.getElem_toArray, List.getElem_cons_succ, List.getElem_cons_zero, List.setIfInBounds_toArray, List.set_cons_zero, List.set_cons_succ]
        refine wpAnyH_take (i := 3) rfl (by kernel_rfl) (by kernel_rfl) (by kernel_rfl) (fun _ _ _ h => h) (Or.inl ⟨by rfl, by (intro w hSw; (try dsimp only at hSw); go_simp; try with_reducible rfl)⟩) (by assumption) ?_
        try simp only [Act.put, List.getElem_toArray, List.getElem_cons_succ, List.getElem_cons_zero, List.setIfInBounds_toArray, List.set_cons_zero, List.set_cons_succ]
        refine wpAnyH_take (i := 4) rfl (by kernel_rfl) (by kernel_rfl) (by kernel_rfl) (fun _ _ _ h => h) (Or.inl ⟨by rfl, by (intro w hSw; (try dsimp only at hSw); go_simp; try with_reducible rfl)⟩) (by assumption) ?_
        try simp only [Act.put, List.getElem_toArray, List.getElem_cons_succ, List.getElem_cons_zero, List.setIfInBounds_toArray, List.set_cons_zero, List.set_cons_succ]
        refine wpAnyH_take (i := 5) rfl (by kernel_rfl) (by kernel_rfl) (by kernel_rfl) (fun _ _ _ h => h) (Or.inl ⟨by rfl, by (intro w hSw; (try dsimp only at hSw); go_simp; try with_reducible rfl)⟩) (by assumption) ?_
        try simp only [Act.put, List.getElem_toArray, List.getElem_cons_succ, List.getElem_cons_zero, List.setIfInBounds_toArray, List.set_cons_zero, List.set_cons_succ]
        refine wpAnyH_take (i := 6) rfl (by kernel_rfl) (by kernel_rfl) (by kernel_rfl) (fun _ _ _ h => h) (Or.inl ⟨by rfl, by (intro w hSw; (try dsimp only at hSw); go_simp; try with_reducible rfl)⟩) (by assumption) ?_
        try simp only [Act.put, List.getElem_toArray, List.getElem_cons_succ, List.getElem_cons_zero, List.setIfInBounds_toArray, List.set_cons_zero, List.set_cons_succ]
        refine wpAnyH_ready (rs := [2]) (by kernel_rfl) (by simp) ?_
        refine AllReadyH.cons rfl (fun K hK => ?_) AllReadyH.nil
        go_simp
        (go_at_call 20; have tk := V0; with_reducible refine (uses_sp e.kind _ (HU.out.keep (UC.out.trans V0.out))).mono ?_; rintro en wy1 ⟨ua, uc, rfl, hL, u⟩; have HL := hid hL; clear hL; have YX1 := hid (YX0.out.keep u); have YA1 := hid (YA0.out.keep u); have YN1 := hid (cell_upd YN0.out u); have V1 := hid (V0.out.trans u); clear u tk)
        try go_wp2_with fail
        refine hK.out _ _ ?_ (fun hHeld => ?_)
        · exact ⟨YA1.out.cells.2.2.2.2.1, YN1.out⟩
        clear hK K
        try simp only [Act.put, List.getElem_toArray, List.getElem_cons_succ, List.getElem_cons_zero, List.setIfInBounds_toArray, List.set_cons_zero, List.set_cons_succ]
        refine wpAnyH_ready (rs := [7]) (by kernel_rfl) (by simp) ?_
        refine AllReadyH.cons rfl (fun K hK => ?_) AllReadyH.nil
        go_simp
        (go_at_call 22; have tk := V1; with_reducible refine (named_any _ (usesN e.kind) nm _ _ HL.out (fun _ h => h.2)).mono ?_; rintro en wy2 ⟨rfl, u⟩; rw [decide_eq_true HI.out]; have YX2 := hid (YX1.out.keep u); have YA2 := hid (YA1.out.keep u); have YN2 := hid (cell_upd YN1.out u); have V2 := hid (V1.out.trans u); clear u tk)
        try go_wp2_with fail
        refine hK.out _ _ ?_ (fun hHeld => ?_)
        · exact ⟨YA2.out.cells.2.2.2.2.1, YN2.out⟩
        clear hK K
        try simp only [Act.put, List.getElem_toArray, List.getElem_cons_succ, List.getElem_cons_zero, List.setIfInBounds_toArray, List.set_cons_zero, List.set_cons_succ]
        refine wpAnyH_take (i := 8) rfl (by kernel_rfl) (by kernel_rfl) (by kernel_rfl) (fun _ _ _ h => h) (Or.inl ⟨by rfl, by (intro w hSw; (try dsimp only at hSw); go_simp; try with_reducible rfl)⟩) (by assumption) ?_
        try simp only [Act.put, List.getElem_toArray, List.getElem_cons_succ, List.getElem_cons_zero, List.setIfInBounds_toArray, List.set_cons_zero, List.set_cons_succ]
        refine wpAnyH_take (i := 9) rfl (by kernel_rfl) (by kernel_rfl) (by kernel_rfl) (fun _ _ _ h => h) (Or.inl ⟨by rfl, by (intro w hSw; (try dsimp only at hSw); go_simp; try with_reducible rfl)⟩) (by assumption) ?_
        try simp only [Act.put, List.getElem_toArray, List.getElem_cons_succ, List.getElem_cons_zero, List.setIfInBounds_toArray, List.set_cons_zero, List.set_cons_succ]
        refine wpAnyH_take (i := 10) rfl (by kernel_rfl) (by kernel_rfl) (by kernel_rfl) (fun _ _ _ h => h) (Or.inr ⟨by rfl, rfl⟩) (by assumption) ?_
        simp only [Act.put, List.getElem_toArray, List.getElem_cons_succ, List.getElem_cons_zero, List.setIfInBounds_toArray, List.set_cons_zero, List.set_cons_succ]
        refine wpAnyH_take (i := 12) rfl (by kernel_rfl) (by kernel_rfl) (by kernel_rfl) (fun _ _ _ h => h) (Or.inr ⟨by rfl, rfl⟩) (by assumption) ?_
        simp only [Act.put, List.getElem_toArray, List.getElem_cons_succ, List.getElem_cons_zero, List.setIfInBounds_toArray, List.set_cons_zero, List.set_cons_succ]
        refine wpAnyH_take (i := 13) rfl (by kernel_rfl) (by kernel_rfl) (by kernel_rfl) (fun _ _ _ h => h) (Or.inr ⟨by rfl, rfl⟩) (by assumption) ?_
        simp only [Act.put, List.getElem_toArray, List.getElem_cons_succ, List.getElem_cons_zero, List.setIfInBounds_toArray, List.set_cons_zero, List.set_cons_succ]
        refine wpAnyH_take (i := 11) rfl (by kernel_rfl) (by kernel_rfl) (by kernel_rfl) (fun _ _ _ h => h) (Or.inr ⟨by rfl, rfl⟩) (by assumption) ?_
        simp only [Act.put, List.getElem_toArray, List.getElem_cons_succ, List.getElem_cons_zero, List.setIfInBounds_toArray, List.set_cons_zero, List.set_cons_succ]
        refine wpAnyH_take (i := 14) rfl (by kernel_rfl) (by kernel_rfl) (by kernel_rfl) (fun _ _ _ h => h) (Or.inr ⟨by rfl, rfl⟩) (by assumption) ?_
        simp only [Act.put, List.getElem_toArray, List.getElem_cons_succ, List.getElem_cons_zero, List.setIfInBounds_toArray, List.set_cons_zero, List.set_cons_succ]
        refine wpAnyH_take (i := 15) rfl (by kernel_rfl) (by kernel_rfl) (by kernel_rfl) (fun _ _ _ h => h) (Or.inr ⟨by rfl, rfl⟩) (by assumption) ?_
        simp only [Act.put, List.getElem_toArray, List.getElem_cons_succ, List.getElem_cons_zero, List.setIfInBounds_toArray, List.set_cons_zero, List.set_cons_succ]
        refine wpAnyH_take (i := 16) rfl (by kernel_rfl) (by kernel_rfl) (by kernel_rfl) (fun _ _ _ h => h) (Or.inl ⟨by rfl, by (intro w hSw; (try dsimp only at hSw); go_simp; try with_reducible rfl)⟩) (by assumption) ?_
        try simp only [Act.put, List.getElem_toArray, List.getElem_cons_succ, List.getElem_cons_zero, List.setIfInBounds_toArray, List.set_cons_zero, List.set_cons_succ]
        refine wpAnyH_done (by kernel_rfl) ?_ _
        go_wp2_with fail
        go_meet
        case rel => exact ⟨rfl, V2.out⟩
      as_aux_lemma =>
      have HI := hid hin
      have hbc := QQ.out hin
      clear hin
      obtain ⟨bb, hbb⟩ : ∃ z, decide (RightE X) = z := ⟨_, rfl⟩
      rw [hbb] at hbc
      have HB := hid hbb; have HC := hid hbc.symm
      clear hbb hbc
      cases bb
      all_goals (first | (go_region_held3 (fun w' => (w'.cell? ⟨px, 0, none⟩ = some (.int .i64 X.author) ∧ w'.cell? ⟨px, 1, none⟩ = some (.int .i64 X.seq) ∧ w'.cell? ⟨px, 2, none⟩ = some (.int .i64 X.day) ∧ w'.cell? ⟨px, 3, none⟩ = some (.slice a1 X.knows.length c1) ∧ w'.cell? ⟨px, 4, none⟩ = some (.int .i64 X.kind) ∧ w'.cell? ⟨px, 5, none⟩ = some (.int .i64 X.circle) ∧ w'.cell? ⟨px, 6, none⟩ = some (.int .i64 X.who) ∧ w'.cell? ⟨px, 7, none⟩ = some (.int .i64 X.n) ∧ w'.cell? ⟨px, 8, none⟩ = some (.int .i64 X.m) ∧ w'.cell? ⟨px, 9, none⟩ = some (.int .i64 X.ref) ∧ w'.cell? ⟨px, 10, none⟩ = some (.slice b2 X.keys.length d2) ∧ w'.cell? ⟨px, 11, none⟩ = some (.slice b3 X.spans.length d3) ∧ w'.cell? ⟨px, 12, none⟩ = some (.string ⟨X.text.toArray⟩)) ∧ (w'.cell? ⟨pa, 0, none⟩ = some (.int .i64 e.author) ∧ w'.cell? ⟨pa, 1, none⟩ = some (.int .i64 e.seq) ∧ w'.cell? ⟨pa, 2, none⟩ = some (.int .i64 e.day) ∧ w'.cell? ⟨pa, 3, none⟩ = some (.slice a1 e.knows.length c1) ∧ w'.cell? ⟨pa, 4, none⟩ = some (.int .i64 e.kind) ∧ w'.cell? ⟨pa, 5, none⟩ = some (.int .i64 e.circle) ∧ w'.cell? ⟨pa, 6, none⟩ = some (.int .i64 e.who) ∧ w'.cell? ⟨pa, 7, none⟩ = some (.int .i64 e.n) ∧ w'.cell? ⟨pa, 8, none⟩ = some (.int .i64 e.m) ∧ w'.cell? ⟨pa, 9, none⟩ = some (.int .i64 e.ref) ∧ w'.cell? ⟨pa, 10, none⟩ = some (.slice a2 e.keys.length c2) ∧ w'.cell? ⟨pa, 11, none⟩ = some (.slice a3 e.spans.length c3) ∧ w'.cell? ⟨pa, 12, none⟩ = some (.string ⟨e.text.toArray⟩)) ∧ w'.cell? ⟨nb, k, none⟩ = some (.string ⟨nm.toArray⟩)) (first | with_reducible exact ⟨YX4.out.cells, YA4.out.cells, YN4.out⟩ | with_reducible exact ⟨YX3.out.cells, YA3.out.cells, YN3.out⟩ | with_reducible exact ⟨YX2.out.cells, YA2.out.cells, YN2.out⟩ | with_reducible exact ⟨YX1.out.cells, YA1.out.cells, YN1.out⟩ | with_reducible exact ⟨YX0.out.cells, YA0.out.cells, YN0.out⟩ | go_keep) (first | (go_at_call 14; have tk := V3; with_reducible refine (right_agg X a1 b2 b3 c1 d2 d3 _ (HU.out.keep (UC.out.trans V3.out)) YX3.out.rep).mono ?_; rintro en wy4 ⟨rfl, u⟩; rw [HB.out]; have YX4 := hid (YX3.out.keep u); have YA4 := hid (YA3.out.keep u); have YN4 := hid (cell_upd YN3.out u); have V4 := hid (V3.out.trans u); clear u tk) | (go_at_call 18; have tk := V3; with_reducible refine (same_agg X e a1 b2 b3 a1 a2 a3 c1 d2 d3 c1 c2 c3 _ YX3.out.rep YA3.out.rep).mono ?_; rintro en wy4 ⟨rfl, u⟩; rw [HC.out]; have YX4 := hid (YX3.out.keep u); have YA4 := hid (YA3.out.keep u); have YN4 := hid (cell_upd YN3.out u); have V4 := hid (V3.out.trans u); clear u tk) | (go_at_call 14; have tk := V2; with_reducible refine (right_agg X a1 b2 b3 c1 d2 d3 _ (HU.out.keep (UC.out.trans V2.out)) YX2.out.rep).mono ?_; rintro en wy3 ⟨rfl, u⟩; rw [HB.out]; have YX3 := hid (YX2.out.keep u); have YA3 := hid (YA2.out.keep u); have YN3 := hid (cell_upd YN2.out u); have V3 := hid (V2.out.trans u); clear u tk) | (go_at_call 18; have tk := V2; with_reducible refine (same_agg X e a1 b2 b3 a1 a2 a3 c1 d2 d3 c1 c2 c3 _ YX2.out.rep YA2.out.rep).mono ?_; rintro en wy3 ⟨rfl, u⟩; rw [HC.out]; have YX3 := hid (YX2.out.keep u); have YA3 := hid (YA2.out.keep u); have YN3 := hid (cell_upd YN2.out u); have V3 := hid (V2.out.trans u); clear u tk) | (go_at_call 22; have tk := V1; with_reducible refine (named_any _ (usesN e.kind) nm _ _ HL.out (fun _ h => h.2)).mono ?_; rintro en wy2 ⟨rfl, u⟩; rw [decide_eq_false HI.out]; have YX2 := hid (YX1.out.keep u); have YA2 := hid (YA1.out.keep u); have YN2 := hid (cell_upd YN1.out u); have V2 := hid (V1.out.trans u); clear u tk) | (go_at_call 20; have tk := V0; with_reducible refine (uses_sp e.kind _ (HU.out.keep (UC.out.trans V0.out))).mono ?_; rintro en wy1 ⟨ua, uc, rfl, hL, u⟩; have HL := hid hL; clear hL; have YX1 := hid (YX0.out.keep u); have YA1 := hid (YA0.out.keep u); have YN1 := hid (cell_upd YN0.out u); have V1 := hid (V0.out.trans u); clear u tk))) | fail)
      all_goals (go_wp2_with fail)
      all_goals go_meet
      all_goals (first | exact ⟨rfl, V4.out⟩ | fail)
    case rest =>
      as_aux_lemma =>
      obtain ⟨rfl, u⟩ := hcut
      replace LA := hid (LA.out.keep u)
      replace UC := hid (UC.out.trans u)
      clear u LX hcell QQ NB
      obtain ⟨e0, e1, e2, e3, e4, e5, e6, e7, e8, e9, e10, e11, e12⟩ := LA.out.cells
      have hpl := heap_lt LA.out.blk
      go_upto_region 27 with (fail)
      obtain ⟨h1, h2⟩ := copy_set (e' := { e with author := n }) LA.out ⟨rfl, rfl, rfl⟩
      obtain ⟨W4, hW⟩ : ∃ z, z = wc.alloc (.cells (en13 { e with author := n } a1 a2 a3 c1 c2 c3) 25 (0, 0)) := ⟨_, rfl⟩
      rw [← hW] at h1 h2
      have HW := hid (show W4 = wc.alloc (.cells #[.int .i64 n, .int .i64 e.seq, .int .i64 e.day, .slice a1 e.knows.length c1, .int .i64 e.kind, .int .i64 e.circle, .int .i64 e.who, .int .i64 e.n, .int .i64 e.m, .int .i64 e.ref, .slice a2 e.keys.length c2, .slice a3 e.spans.length c3, .string ⟨e.text.toArray⟩] 25 (0, 0)) from hW)
      obtain ⟨YE, hY⟩ : ∃ x, ({ e with author := n } : En) = x := ⟨_, rfl⟩
      rw [hY] at h1
      rw [← HW.out]
      obtain ⟨py, hp⟩ : ∃ z, wc.heap.size = z := ⟨_, rfl⟩
      rw [hp] at h1 ⊢
      have HYE := hid hY
      have LYE := hid h1
      replace LA := hid (LA.out.keep h2)
      replace UC := hid (UC.out.trans h2)
      clear h1 h2 hY hW HW hp hpl e0 e1 e2 e3 e4 e5 e6 e7 e8 e9 e10 e11 e12
      obtain ⟨e0, e1, e2, e3, e4, e5, e6, e7, e8, e9, e10, e11, e12⟩ := LA.out.cells
      have hpl := heap_lt LA.out.blk
      go_upto_region 29 with (fail)
      obtain ⟨h1, h2⟩ := copy_set (e' := { e with seq := n }) LA.out ⟨rfl, rfl, rfl⟩
      obtain ⟨W5, hW⟩ : ∃ z, z = W4.alloc (.cells (en13 { e with seq := n } a1 a2 a3 c1 c2 c3) 25 (0, 0)) := ⟨_, rfl⟩
      rw [← hW] at h1 h2
      have HW := hid (show W5 = W4.alloc (.cells #[.int .i64 e.author, .int .i64 n, .int .i64 e.day, .slice a1 e.knows.length c1, .int .i64 e.kind, .int .i64 e.circle, .int .i64 e.who, .int .i64 e.n, .int .i64 e.m, .int .i64 e.ref, .slice a2 e.keys.length c2, .slice a3 e.spans.length c3, .string ⟨e.text.toArray⟩] 25 (0, 0)) from hW)
      obtain ⟨ZE, hY⟩ : ∃ x, ({ e with seq := n } : En) = x := ⟨_, rfl⟩
      rw [hY] at h1
      rw [← HW.out]
      obtain ⟨pz, hp⟩ : ∃ z, W4.heap.size = z := ⟨_, rfl⟩
      rw [hp] at h1 ⊢
      have HZE := hid hY
      have LZE := hid h1
      replace LA := hid (LA.out.keep h2)
      replace UC := hid (UC.out.trans h2)
      replace LYE := hid (LYE.out.keep h2)
      clear h1 h2 hY hW HW hp hpl e0 e1 e2 e3 e4 e5 e6 e7 e8 e9 e10 e11 e12
      obtain ⟨e0, e1, e2, e3, e4, e5, e6, e7, e8, e9, e10, e11, e12⟩ := LA.out.cells
      have hpl := heap_lt LA.out.blk
      go_upto_region 31 with (fail)
      obtain ⟨h1, h2⟩ := copy_set (e' := { e with day := n }) LA.out ⟨rfl, rfl, rfl⟩
      obtain ⟨W6, hW⟩ : ∃ z, z = W5.alloc (.cells (en13 { e with day := n } a1 a2 a3 c1 c2 c3) 25 (0, 0)) := ⟨_, rfl⟩
      rw [← hW] at h1 h2
      have HW := hid (show W6 = W5.alloc (.cells #[.int .i64 e.author, .int .i64 e.seq, .int .i64 n, .slice a1 e.knows.length c1, .int .i64 e.kind, .int .i64 e.circle, .int .i64 e.who, .int .i64 e.n, .int .i64 e.m, .int .i64 e.ref, .slice a2 e.keys.length c2, .slice a3 e.spans.length c3, .string ⟨e.text.toArray⟩] 25 (0, 0)) from hW)
      obtain ⟨WE, hY⟩ : ∃ x, ({ e with day := n } : En) = x := ⟨_, rfl⟩
      rw [hY] at h1
      rw [← HW.out]
      obtain ⟨pw, hp⟩ : ∃ z, W5.heap.size = z := ⟨_, rfl⟩
      rw [hp] at h1 ⊢
      have HWE := hid hY
      have LWE := hid h1
      replace LA := hid (LA.out.keep h2)
      replace UC := hid (UC.out.trans h2)
      replace LYE := hid (LYE.out.keep h2)
      replace LZE := hid (LZE.out.keep h2)
      clear h1 h2 hY hW HW hp hpl e0 e1 e2 e3 e4 e5 e6 e7 e8 e9 e10 e11 e12
      have TY := hid (show RightE YE ↔ keyP n by rw [← HYE.out]; exact author_law HR.out n)
      have TZ := hid (show RightE ZE ↔ (0 ≤ n ∧ n < 1048576) by rw [← HZE.out]; exact seq_law HR.out n)
      have TW := hid (show RightE WE ↔ dayP n by rw [← HWE.out]; exact day_law HR.out n)
      have hn1 := HN.out.1
      have hn2 := HN.out.2
      rcases (by omega : n < 0 ∨ (0 ≤ n ∧ n < 200) ∨ (200 ≤ n ∧ n < 1048576) ∨ n = 1048576 ∨ 1048576 < n) with hc | hc | hc | hc | hc
      · as_aux_lemma =>
        have BY := hid (show decide (RightE YE) = false from decide_eq_false (by rw [TY.out]; unfold keyP; omega))
        have BZ := hid (show decide (RightE ZE) = false from decide_eq_false (by rw [TZ.out]; omega))
        have BD := hid (show decide (RightE WE) = false from decide_eq_false (by rw [TW.out]; unfold dayP; omega))
        have g0 : decide ((0 : Int) ≤ n) = false := decide_eq_false (by omega)
        have g1 : decide (n < 200) = true := decide_eq_true (by omega)
        have g2 : decide (n < 1048576) = true := decide_eq_true (by omega)
        have g3 : decide (n ≤ 1048576) = true := decide_eq_true (by omega)
        clear hc
        obtain ⟨e0, e1, e2, e3, e4, e5, e6, e7, e8, e9, e10, e11, e12⟩ := LYE.out.cells
        go_wp2_with fail
        refine (right_agg YE a1 a2 a3 c1 c2 c3 _ (HU.out.keep UC.out) LYE.out.rep).mono ?_
        rintro en wBY ⟨rfl, u⟩
        rw [BY.out]
        replace UC := hid (UC.out.trans u)
        replace LZE := hid (LZE.out.keep u)
        replace LWE := hid (LWE.out.keep u)
        clear u e0 e1 e2 e3 e4 e5 e6 e7 e8 e9 e10 e11 e12
        obtain ⟨e0, e1, e2, e3, e4, e5, e6, e7, e8, e9, e10, e11, e12⟩ := LZE.out.cells
        go_wp2_with fail
        refine (right_agg ZE a1 a2 a3 c1 c2 c3 _ (HU.out.keep UC.out) LZE.out.rep).mono ?_
        rintro en wBZ ⟨rfl, u⟩
        rw [BZ.out]
        replace UC := hid (UC.out.trans u)
        replace LWE := hid (LWE.out.keep u)
        clear u e0 e1 e2 e3 e4 e5 e6 e7 e8 e9 e10 e11 e12
        obtain ⟨e0, e1, e2, e3, e4, e5, e6, e7, e8, e9, e10, e11, e12⟩ := LWE.out.cells
        go_wp2_with fail
        refine (right_agg WE a1 a2 a3 c1 c2 c3 _ (HU.out.keep UC.out) LWE.out.rep).mono ?_
        rintro en wBD ⟨rfl, u⟩
        rw [BD.out]
        replace UC := hid (UC.out.trans u)
        clear u e0 e1 e2 e3 e4 e5 e6 e7 e8 e9 e10 e11 e12
        go_wp2_with fail
        go_ret
        exact ⟨rfl, U0.out.trans UC.out⟩
      · as_aux_lemma =>
        have BY := hid (show decide (RightE YE) = true from decide_eq_true (by rw [TY.out]; unfold keyP; omega))
        have BZ := hid (show decide (RightE ZE) = true from decide_eq_true (by rw [TZ.out]; omega))
        have BD := hid (show decide (RightE WE) = true from decide_eq_true (by rw [TW.out]; unfold dayP; omega))
        have g0 : decide ((0 : Int) ≤ n) = true := decide_eq_true (by omega)
        have g1 : decide (n < 200) = true := decide_eq_true (by omega)
        have g2 : decide (n < 1048576) = true := decide_eq_true (by omega)
        have g3 : decide (n ≤ 1048576) = true := decide_eq_true (by omega)
        clear hc
        obtain ⟨e0, e1, e2, e3, e4, e5, e6, e7, e8, e9, e10, e11, e12⟩ := LYE.out.cells
        go_wp2_with fail
        refine (right_agg YE a1 a2 a3 c1 c2 c3 _ (HU.out.keep UC.out) LYE.out.rep).mono ?_
        rintro en wBY ⟨rfl, u⟩
        rw [BY.out]
        replace UC := hid (UC.out.trans u)
        replace LZE := hid (LZE.out.keep u)
        replace LWE := hid (LWE.out.keep u)
        clear u e0 e1 e2 e3 e4 e5 e6 e7 e8 e9 e10 e11 e12
        obtain ⟨e0, e1, e2, e3, e4, e5, e6, e7, e8, e9, e10, e11, e12⟩ := LZE.out.cells
        go_wp2_with fail
        refine (right_agg ZE a1 a2 a3 c1 c2 c3 _ (HU.out.keep UC.out) LZE.out.rep).mono ?_
        rintro en wBZ ⟨rfl, u⟩
        rw [BZ.out]
        replace UC := hid (UC.out.trans u)
        replace LWE := hid (LWE.out.keep u)
        clear u e0 e1 e2 e3 e4 e5 e6 e7 e8 e9 e10 e11 e12
        obtain ⟨e0, e1, e2, e3, e4, e5, e6, e7, e8, e9, e10, e11, e12⟩ := LWE.out.cells
        go_wp2_with fail
        refine (right_agg WE a1 a2 a3 c1 c2 c3 _ (HU.out.keep UC.out) LWE.out.rep).mono ?_
        rintro en wBD ⟨rfl, u⟩
        rw [BD.out]
        replace UC := hid (UC.out.trans u)
        clear u e0 e1 e2 e3 e4 e5 e6 e7 e8 e9 e10 e11 e12
        go_wp2_with fail
        go_ret
        exact ⟨rfl, U0.out.trans UC.out⟩
      · as_aux_lemma =>
        have BY := hid (show decide (RightE YE) = false from decide_eq_false (by rw [TY.out]; unfold keyP; omega))
        have BZ := hid (show decide (RightE ZE) = true from decide_eq_true (by rw [TZ.out]; omega))
        have BD := hid (show decide (RightE WE) = true from decide_eq_true (by rw [TW.out]; unfold dayP; omega))
        have g0 : decide ((0 : Int) ≤ n) = true := decide_eq_true (by omega)
        have g1 : decide (n < 200) = false := decide_eq_false (by omega)
        have g2 : decide (n < 1048576) = true := decide_eq_true (by omega)
        have g3 : decide (n ≤ 1048576) = true := decide_eq_true (by omega)
        clear hc
        obtain ⟨e0, e1, e2, e3, e4, e5, e6, e7, e8, e9, e10, e11, e12⟩ := LYE.out.cells
        go_wp2_with fail
        refine (right_agg YE a1 a2 a3 c1 c2 c3 _ (HU.out.keep UC.out) LYE.out.rep).mono ?_
        rintro en wBY ⟨rfl, u⟩
        rw [BY.out]
        replace UC := hid (UC.out.trans u)
        replace LZE := hid (LZE.out.keep u)
        replace LWE := hid (LWE.out.keep u)
        clear u e0 e1 e2 e3 e4 e5 e6 e7 e8 e9 e10 e11 e12
        obtain ⟨e0, e1, e2, e3, e4, e5, e6, e7, e8, e9, e10, e11, e12⟩ := LZE.out.cells
        go_wp2_with fail
        refine (right_agg ZE a1 a2 a3 c1 c2 c3 _ (HU.out.keep UC.out) LZE.out.rep).mono ?_
        rintro en wBZ ⟨rfl, u⟩
        rw [BZ.out]
        replace UC := hid (UC.out.trans u)
        replace LWE := hid (LWE.out.keep u)
        clear u e0 e1 e2 e3 e4 e5 e6 e7 e8 e9 e10 e11 e12
        obtain ⟨e0, e1, e2, e3, e4, e5, e6, e7, e8, e9, e10, e11, e12⟩ := LWE.out.cells
        go_wp2_with fail
        refine (right_agg WE a1 a2 a3 c1 c2 c3 _ (HU.out.keep UC.out) LWE.out.rep).mono ?_
        rintro en wBD ⟨rfl, u⟩
        rw [BD.out]
        replace UC := hid (UC.out.trans u)
        clear u e0 e1 e2 e3 e4 e5 e6 e7 e8 e9 e10 e11 e12
        go_wp2_with fail
        go_ret
        exact ⟨rfl, U0.out.trans UC.out⟩
      · as_aux_lemma =>
        have BY := hid (show decide (RightE YE) = false from decide_eq_false (by rw [TY.out]; unfold keyP; omega))
        have BZ := hid (show decide (RightE ZE) = false from decide_eq_false (by rw [TZ.out]; omega))
        have BD := hid (show decide (RightE WE) = true from decide_eq_true (by rw [TW.out]; unfold dayP; omega))
        have g0 : decide ((0 : Int) ≤ n) = true := decide_eq_true (by omega)
        have g1 : decide (n < 200) = false := decide_eq_false (by omega)
        have g2 : decide (n < 1048576) = false := decide_eq_false (by omega)
        have g3 : decide (n ≤ 1048576) = true := decide_eq_true (by omega)
        clear hc
        obtain ⟨e0, e1, e2, e3, e4, e5, e6, e7, e8, e9, e10, e11, e12⟩ := LYE.out.cells
        go_wp2_with fail
        refine (right_agg YE a1 a2 a3 c1 c2 c3 _ (HU.out.keep UC.out) LYE.out.rep).mono ?_
        rintro en wBY ⟨rfl, u⟩
        rw [BY.out]
        replace UC := hid (UC.out.trans u)
        replace LZE := hid (LZE.out.keep u)
        replace LWE := hid (LWE.out.keep u)
        clear u e0 e1 e2 e3 e4 e5 e6 e7 e8 e9 e10 e11 e12
        obtain ⟨e0, e1, e2, e3, e4, e5, e6, e7, e8, e9, e10, e11, e12⟩ := LZE.out.cells
        go_wp2_with fail
        refine (right_agg ZE a1 a2 a3 c1 c2 c3 _ (HU.out.keep UC.out) LZE.out.rep).mono ?_
        rintro en wBZ ⟨rfl, u⟩
        rw [BZ.out]
        replace UC := hid (UC.out.trans u)
        replace LWE := hid (LWE.out.keep u)
        clear u e0 e1 e2 e3 e4 e5 e6 e7 e8 e9 e10 e11 e12
        obtain ⟨e0, e1, e2, e3, e4, e5, e6, e7, e8, e9, e10, e11, e12⟩ := LWE.out.cells
        go_wp2_with fail
        refine (right_agg WE a1 a2 a3 c1 c2 c3 _ (HU.out.keep UC.out) LWE.out.rep).mono ?_
        rintro en wBD ⟨rfl, u⟩
        rw [BD.out]
        replace UC := hid (UC.out.trans u)
        clear u e0 e1 e2 e3 e4 e5 e6 e7 e8 e9 e10 e11 e12
        go_wp2_with fail
        go_ret
        exact ⟨rfl, U0.out.trans UC.out⟩
      · as_aux_lemma =>
        have BY := hid (show decide (RightE YE) = false from decide_eq_false (by rw [TY.out]; unfold keyP; omega))
        have BZ := hid (show decide (RightE ZE) = false from decide_eq_false (by rw [TZ.out]; omega))
        have BD := hid (show decide (RightE WE) = false from decide_eq_false (by rw [TW.out]; unfold dayP; omega))
        have g0 : decide ((0 : Int) ≤ n) = true := decide_eq_true (by omega)
        have g1 : decide (n < 200) = false := decide_eq_false (by omega)
        have g2 : decide (n < 1048576) = false := decide_eq_false (by omega)
        have g3 : decide (n ≤ 1048576) = false := decide_eq_false (by omega)
        clear hc
        obtain ⟨e0, e1, e2, e3, e4, e5, e6, e7, e8, e9, e10, e11, e12⟩ := LYE.out.cells
        go_wp2_with fail
        refine (right_agg YE a1 a2 a3 c1 c2 c3 _ (HU.out.keep UC.out) LYE.out.rep).mono ?_
        rintro en wBY ⟨rfl, u⟩
        rw [BY.out]
        replace UC := hid (UC.out.trans u)
        replace LZE := hid (LZE.out.keep u)
        replace LWE := hid (LWE.out.keep u)
        clear u e0 e1 e2 e3 e4 e5 e6 e7 e8 e9 e10 e11 e12
        obtain ⟨e0, e1, e2, e3, e4, e5, e6, e7, e8, e9, e10, e11, e12⟩ := LZE.out.cells
        go_wp2_with fail
        refine (right_agg ZE a1 a2 a3 c1 c2 c3 _ (HU.out.keep UC.out) LZE.out.rep).mono ?_
        rintro en wBZ ⟨rfl, u⟩
        rw [BZ.out]
        replace UC := hid (UC.out.trans u)
        replace LWE := hid (LWE.out.keep u)
        clear u e0 e1 e2 e3 e4 e5 e6 e7 e8 e9 e10 e11 e12
        obtain ⟨e0, e1, e2, e3, e4, e5, e6, e7, e8, e9, e10, e11, e12⟩ := LWE.out.cells
        go_wp2_with fail
        refine (right_agg WE a1 a2 a3 c1 c2 c3 _ (HU.out.keep UC.out) LWE.out.rep).mono ?_
        rintro en wBD ⟨rfl, u⟩
        rw [BD.out]
        replace UC := hid (UC.out.trans u)
        clear u e0 e1 e2 e3 e4 e5 e6 e7 e8 e9 e10 e11 e12
        go_wp2_with fail
        go_ret
        exact ⟨rfl, U0.out.trans UC.out⟩
theorem fields_card (cs1 : Array Value) (e : En) (which n : Int) (cs2 : Array Value) (s : Sp) (w : World) (E : Env w) (hu : UsesIn w) (hz : 6 ≤ w.heap.size) (h0 : kEn.rep (· < w.heap.size) w cs1.toList e) (hwh : (Lit.int .u8 which).wf = true) (hn : (Lit.int .i64 n).wf = true) (h1 : kSp.rep (· < w.heap.size) w cs2.toList s) :
    Calls Tryz.prog 5 #[.agg cs1, .int .u8 which, .int .i64 n, .agg cs2] w fun e w' => e = .returned (.bool true) ∧ Below w.heap.size w w' :=
  (fields_walk cs1 e which n cs2 s w E hu hz h0 hwh hn h1).mono fun _ _ h => ⟨h.1, h.2.below (Nat.le_refl _) fun _ h => h.elim⟩
end Go.Proofs.YtdcahnkcnbhknaaGreatDoor
