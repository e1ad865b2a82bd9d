/- The law's small examples have the documented results. -/
import Derived.Test.YtabnniabofhihaaDoorSmAsk
import Derived.Test.YtabnniabofhihaaDoorSmResume
import Derived.Test.YtabnniabofhihaaDoorSmVals
import Derived.Test.YtabnniabofhihaaDoorWrD1
namespace Go.Proofs.YtabnniabofhihaaDoor
open Go.RowKit Go.Deep

theorem vReq_nn : ∀ n rq, requestF vAsk = some (n, rq) → ∀ x ∈ rq, 0 ≤ x := by
  intro n rq h x hx
  rw [vReq] at h
  injection h with h
  injection h with h1 h2
  subst h2
  simp at hx
  omega
theorem one_int {w : World} {g : Nat} (h : w.heap[g]? = some (.cells #[.int .i64 0] 3 (0, 0))) : kInts.rep (· < w.heap.size) w [.slice (some ⟨g, 0, none⟩) 1 1] [0] := by
  refine .inr ⟨g, 0, 1, rfl, Nat.le_refl _, by unfold maxLen; decide, heap_lt h, fun i hi => ?_⟩
  have hi0 : i = 0 := by simp at hi; omega
  subst hi0
  refine ⟨[.int .i64 0], intRep 0 (by unfold I64; omega), fun j hj => ?_⟩
  have hj0 : j = 0 := by simp at hj; omega
  subst hj0
  rw [cell_of_block h]; rfl
theorem first_one {w : World} {b o c : Nat} {x y : Bs} {A : Nat → Prop} (h : kStrs.rep A w [.slice (some ⟨b, o, none⟩) 2 c] [x, y]) : kStrs.rep A w [.slice (some ⟨b, o, none⟩) 1 c] [x] := by
  rcases h with ⟨_, _, _, _, h⟩ | ⟨b', o', c', he, h1, h2, h3, hel⟩
  · exact nomatch h
  · injection he with he _
    injection he with e1 _ e3
    injection e1 with e1
    injection e1 with e1 e2
    subst e1 e2 e3
    refine .inr ⟨b, o, c, rfl, by simp at h1 ⊢; omega, h2, h3, fun i hi => ?_⟩
    have hi0 : i = 0 := by simp at hi; omega
    subst hi0
    exact hel 0 (by simp)
set_option maxRecDepth 100000 in
set_option maxHeartbeats 8000000 in
theorem small_any (w : World) (E : Env w) (hz : 6 ≤ w.heap.size) : Calls Tryd.prog 7 #[] w fun e w' => e = .returned (.bool true) ∧ Upd (fun _ => False) w w' := by
  have HE := hid E; have HZ := hid hz
  clear E hz
  go_enter Tryd.func7, Tryd.ntmps7
  go_wp2_with fail
  refine (split_any 7 vMsg 32 w HE.out (by decide) (by decide) (by decide)).mono ?_
  rintro e w1 ⟨u, hsp⟩
  rcases hsp with ⟨hno, _⟩ | ⟨_, hlong, _⟩ | ⟨_, _, v1, rfl, hrep⟩
  · exact absurd (show SplitOk 7 32 by unfold SplitOk maxMark; omega) hno
  · exact absurd hlong (by decide)
  rw [show (32 - 24 : Int).toNat = 8 from rfl, vSplit1] at hrep
  obtain ⟨lb, lo, c1, rfl, hlb, hle1, hle2, hel⟩ : ∃ b o c, v1 = .slice (some ⟨b, o, none⟩) 2 c ∧ Fresh w w1 b ∧ 2 ≤ c ∧ c ≤ 9223372036854775807 ∧ Elems (kMap kStr fun l => ⟨l.toArray⟩) (Fresh w w1) w1 b o [vPa, vPb] := by
    obtain ⟨a, c, rfl, h1, h2, h3⟩ := slice_open hrep
    obtain ⟨b, o, rfl, h4, h5⟩ := h3 (by simp)
    exact ⟨b, o, c, rfl, h4, h1, h2, h5⟩
  have R1 := hid hrep; have U1 := hid u
  have x0 : w1.cell? ⟨lb, lo, none⟩ = some (.string ⟨#[55, 59, 48, 59, 50, 59, 97, 98, 99, 100, 101, 102, 103, 104]⟩) := str_cells hel (j := 0) (by simp)
  have x1 : w1.cell? ⟨lb, lo + 1, none⟩ = some (.string ⟨#[55, 59, 49, 59, 50, 59, 105, 106]⟩) := str_cells hel (j := 1) (by simp)
  clear hrep u hel
  go_wp2_with fail
  refine (split_any 7 [] 32 w1 (HE.out.keep0 U1.out) (by decide) (by decide) (by decide)).mono ?_
  rintro e w2 ⟨u, hsp⟩
  rcases hsp with ⟨hno, _⟩ | ⟨_, hlong, _⟩ | ⟨_, _, v2, rfl, hrep⟩
  · exact absurd (show SplitOk 7 32 by unfold SplitOk maxMark; omega) hno
  · exact absurd hlong (by decide)
  rw [show (32 - 24 : Int).toNat = 8 from rfl, vSplit2] at hrep
  obtain ⟨mb, mo, c2, rfl, hmb, hme1, hme2, hel⟩ : ∃ b o c, v2 = .slice (some ⟨b, o, none⟩) 1 c ∧ Fresh w1 w2 b ∧ 1 ≤ c ∧ c ≤ 9223372036854775807 ∧ Elems (kMap kStr fun l => ⟨l.toArray⟩) (Fresh w1 w2) w2 b o [vPe] := by
    obtain ⟨a, c, rfl, h1, h2, h3⟩ := slice_open hrep
    obtain ⟨b, o, rfl, h4, h5⟩ := h3 (by simp)
    exact ⟨b, o, c, rfl, h4, h1, h2, h5⟩
  have U2 := hid (U1.out.trans u)
  have y0 : w2.cell? ⟨mb, mo, none⟩ = some (.string ⟨#[55, 59, 48, 59, 49, 59]⟩) := str_cells hel (j := 0) (by simp)
  have x0 := cell_kept x0 (u.block lb hlb.2 id)
  have x1 := cell_kept x1 (u.block lb hlb.2 id)
  have hlb2 := Nat.lt_of_lt_of_le hlb.2 u.size
  have hmb2 := hmb.2
  have R2 := hid ((kSlice (kMap kStr fun l : List UInt8 => ⟨l.toArray⟩)).mono ((kSlice (kMap kStr fun l : List UInt8 => ⟨l.toArray⟩)).keep R1.out fun g hg hlt => u.block g hlt id) fun g hg => (show g < w2.heap.size from Nat.lt_of_lt_of_le hg.2 u.size))
  clear hrep u hel hlb hmb R1
  go_wp2_with fail
  refine (new_any w2 (Nat.le_trans HZ.out U2.out.size)).mono ?_
  rintro e w3 ⟨rfl, hb, u⟩
  obtain ⟨bb, hbb⟩ : ∃ x, w2.heap.size + 1 = x := ⟨_, rfl⟩
  rw [hbb] at hb ⊢
  obtain ⟨O, hO⟩ : ∃ O : Nat → Prop, (fun k => w2.heap.size ≤ k ∧ k < w3.heap.size) = O := ⟨_, rfl⟩
  have HO0 := hid (show ∀ k, O k → w2.heap.size ≤ k from fun k hk => by rw [← hO] at hk; exact hk.1)
  rw [hO] at hb
  have B0 := hid hb; have V0 := hid u
  clear hb u hO hbb

  have x0' := cell_kept x0 (V0.out.block lb hlb2 id)
  have x1' := cell_kept x1 (V0.out.block lb hlb2 id)
  have y0' := cell_kept y0 (V0.out.block mb hmb2 id)
  go_wp2_with fail
  clear x0' x1' y0'
  refine (take_any bb O _ vPb _ (HE.out.keep0 (U2.out.trans V0.out)) B0.out (by decide)).mono ?_
  rintro e z1 ⟨rfl, O1, hb, ho, u⟩
  rw [vTake1] at hb ⊢
  have B1 := hid hb
  have HO1 := hid (show ∀ k, O1 k → w2.heap.size ≤ k from fun k hk => (ho k hk).elim (HO0.out k) fun h => Nat.le_trans V0.out.size h)
  have V1 := hid (V0.out.comp u fun i hi e => by have := HO0.out i e; omega)
  clear hb ho u
  have x0' := cell_kept x0 (V1.out.block lb hlb2 id)
  have x1' := cell_kept x1 (V1.out.block lb hlb2 id)
  have y0' := cell_kept y0 (V1.out.block mb hmb2 id)
  go_wp2_with fail
  clear x0' x1' y0'
  refine (take_any bb O1 _ vPx _ (HE.out.keep0 (U2.out.trans V1.out)) B1.out (by decide)).mono ?_
  rintro e z2 ⟨rfl, O2, hb, ho, u⟩
  rw [vTake2] at hb ⊢
  have B2 := hid hb
  have HO2 := hid (show ∀ k, O2 k → w2.heap.size ≤ k from fun k hk => (ho k hk).elim (HO1.out k) fun h => Nat.le_trans V1.out.size h)
  have V2 := hid (V1.out.comp u fun i hi e => by have := HO1.out i e; omega)
  clear hb ho u
  have x0' := cell_kept x0 (V2.out.block lb hlb2 id)
  have x1' := cell_kept x1 (V2.out.block lb hlb2 id)
  have y0' := cell_kept y0 (V2.out.block mb hmb2 id)
  go_wp2_with fail
  clear x0' x1' y0'
  refine (take_any bb O2 _ vPy _ (HE.out.keep0 (U2.out.trans V2.out)) B2.out (by decide)).mono ?_
  rintro e z3 ⟨rfl, O3, hb, ho, u⟩
  rw [vTake3] at hb ⊢
  have B3 := hid hb
  have HO3 := hid (show ∀ k, O3 k → w2.heap.size ≤ k from fun k hk => (ho k hk).elim (HO2.out k) fun h => Nat.le_trans V2.out.size h)
  have V3 := hid (V2.out.comp u fun i hi e => by have := HO2.out i e; omega)
  clear hb ho u
  have x0' := cell_kept x0 (V3.out.block lb hlb2 id)
  have x1' := cell_kept x1 (V3.out.block lb hlb2 id)
  have y0' := cell_kept y0 (V3.out.block mb hmb2 id)
  go_wp2_with fail
  clear x0' x1' y0'
  have GO := hid fun k (hk : O3 k) => (B3.out.lt k hk).2
  have GW := hid (Nat.le_refl z3.heap.size)
  refine (missing_any bb O3 _ 7 _ B3.out (by decide)).mono ?_
  rintro e m1 ⟨v3, rfl, hrep, u⟩
  rw [vMiss1] at hrep ⊢
  obtain ⟨a3, c3, rfl, hq1, hq2, _⟩ := slice_open hrep
  have hq2 : c3 ≤ 9223372036854775807 := hq2
  have R3 := hid hrep
  have LR3 := hid (Nat.le_refl m1.heap.size)
  have GS1 := hid u.size
  clear hrep
  have B4 := hid (B3.out.keep u)
  have V4 := hid (V3.out.trans u)
  clear u
  go_wp2_with fail
  refine (ask_any bb O3 _ 7 _ (HE.out.keep0 (U2.out.trans V4.out)) B4.out (by unfold I64; omega) (Nat.le_trans HZ.out (U2.out.trans V4.out).size)).mono ?_
  rintro e m2 ⟨rfl, u⟩
  rw [vAsk1]
  have GQ := hid (Nat.le_trans GS1.out u.size)

  replace R3 := hid (kInts.keep R3.out fun g hg hlt => u.block g hlt id)
  replace LR3 := hid (Nat.le_trans LR3.out u.size)
  have B5 := hid (B4.out.keep u)
  have V5 := hid (V4.out.trans u)
  clear u
  go_wp2_with fail
  refine (resume_any _ [vPa, vPb] vAsk _ (HE.out.keep0 (U2.out.trans V5.out)) (Nat.le_trans HZ.out (U2.out.trans V5.out).size) (rep_keep R2.out V5.out) (by decide) (by intro x hx; simp only [List.mem_cons, List.not_mem_nil, or_false] at hx; rcases hx with rfl | rfl <;> decide) (by decide) vReq_nn).mono ?_
  rintro e m3 ⟨u, a4, n4, c4, rfl, hrep⟩
  rw [vResume] at hrep ⊢
  have R4 := hid hrep
  have LR4 := hid (Nat.le_refl m3.heap.size)
  clear hrep
  replace R3 := hid (kInts.keep R3.out fun g hg hlt => u.block g hlt id)
  replace LR3 := hid (Nat.le_trans LR3.out u.size)
  have B6 := hid (B5.out.keep u)
  have V6 := hid (V5.out.trans u)
  clear u
  go_wp2_with fail
  refine (done_any' bb O3 _ 7 _ B6.out (by decide)).mono ?_
  rintro e m4 ⟨rfl, u⟩
  rw [vDone1]

  replace R3 := hid (kInts.keep R3.out fun g hg hlt => u.block g hlt id)
  replace LR3 := hid (Nat.le_trans LR3.out u.size)
  replace R4 := hid ((kSlice (kMap kStr fun l : List UInt8 => ⟨l.toArray⟩)).keep R4.out fun g hg hlt => u.block g hlt id)
  replace LR4 := hid (Nat.le_trans LR4.out u.size)
  have B7 := hid (B6.out.keep u)
  have V7 := hid (V6.out.trans u)
  clear u
  have x0' := cell_kept x0 (V7.out.block lb hlb2 id)
  have x1' := cell_kept x1 (V7.out.block lb hlb2 id)
  have y0' := cell_kept y0 (V7.out.block mb hmb2 id)
  go_wp2_with fail
  clear x0' x1' y0'
  have VT := hid V7.out
  refine (take_any bb O3 _ vPa _ (HE.out.keep0 (U2.out.trans V7.out)) B7.out (by decide)).mono ?_
  rintro e z8 ⟨rfl, O8, hb, ho, u⟩
  rw [vTake4] at hb ⊢
  have B8 := hid hb
  have HO8 := hid (show ∀ k, O8 k → w2.heap.size ≤ k from fun k hk => (ho k hk).elim (HO3.out k) fun h => Nat.le_trans V7.out.size h)
  have V8 := hid (V7.out.comp u fun i hi e => by have := HO3.out i e; omega)
  replace R3 := hid (kInts.keep R3.out fun g hg hlt => u.block g hlt fun hk => by have := GO.out g hk; have := GQ.out; have := hg.1; omega)
  replace LR3 := hid (Nat.le_trans LR3.out u.size)
  replace R4 := hid ((kSlice (kMap kStr fun l : List UInt8 => ⟨l.toArray⟩)).keep R4.out fun g hg hlt => u.block g hlt fun hk => by have := GO.out g hk; have := GQ.out; have := hg.1; omega)
  replace LR4 := hid (Nat.le_trans LR4.out u.size)
  clear hb ho u
  have x0' := cell_kept x0 (V8.out.block lb hlb2 id)
  have x1' := cell_kept x1 (V8.out.block lb hlb2 id)
  have y0' := cell_kept y0 (V8.out.block mb hmb2 id)
  go_wp2_with fail
  clear x0' x1' y0'
  refine (done_any' bb O8 _ 7 _ B8.out (by decide)).mono ?_
  rintro e m5 ⟨rfl, u⟩
  rw [vDone2]
  replace R3 := hid (kInts.keep R3.out fun g hg hlt => u.block g hlt id)
  replace LR3 := hid (Nat.le_trans LR3.out u.size)
  replace R4 := hid ((kSlice (kMap kStr fun l : List UInt8 => ⟨l.toArray⟩)).keep R4.out fun g hg hlt => u.block g hlt id)
  replace LR4 := hid (Nat.le_trans LR4.out u.size)
  have B9 := hid (B8.out.keep u)
  have V9 := hid (V8.out.trans u)
  clear u
  go_wp2_with fail
  refine (ask_any bb O8 _ 7 _ (HE.out.keep0 (U2.out.trans V9.out)) B9.out (by unfold I64; omega) (Nat.le_trans HZ.out (U2.out.trans V9.out).size)).mono ?_
  rintro e m6 ⟨rfl, u⟩
  rw [vAsk2]
  replace R3 := hid (kInts.keep R3.out fun g hg hlt => u.block g hlt id)
  replace LR3 := hid (Nat.le_trans LR3.out u.size)
  replace R4 := hid ((kSlice (kMap kStr fun l : List UInt8 => ⟨l.toArray⟩)).keep R4.out fun g hg hlt => u.block g hlt id)
  replace LR4 := hid (Nat.le_trans LR4.out u.size)
  have B10 := hid (B9.out.keep u)
  have V10 := hid (V9.out.trans u)
  clear u
  go_wp2_with fail
  refine (missing_any bb O8 _ 8 _ B10.out (by decide)).mono ?_
  rintro e m7 ⟨v5, rfl, hrep, u⟩
  rw [vMiss2] at hrep ⊢
  clear hrep
  replace R3 := hid (kInts.keep R3.out fun g hg hlt => u.block g hlt id)
  replace LR3 := hid (Nat.le_trans LR3.out u.size)
  replace R4 := hid ((kSlice (kMap kStr fun l : List UInt8 => ⟨l.toArray⟩)).keep R4.out fun g hg hlt => u.block g hlt id)
  replace LR4 := hid (Nat.le_trans LR4.out u.size)
  have B11 := hid (B10.out.keep u)
  have V11 := hid (V10.out.trans u)
  clear u
  have x0' := cell_kept x0 (V11.out.block lb hlb2 id)
  have x1' := cell_kept x1 (V11.out.block lb hlb2 id)
  have y0' := cell_kept y0 (V11.out.block mb hmb2 id)
  go_wp2_with fail
  have ua := (Upd.refl (fun _ => False) m7).alloc (.cells #[.int .i64 0] 3 (0, 0))
  have UA := hid ua
  clear ua
  refine (sameNums_any _ _ [0] [0] _ (kInts.mono (kInts.keep R3.out fun g hg hlt => UA.out.block g hlt id) fun g hg => Nat.lt_of_lt_of_le hg.2 (Nat.le_trans LR3.out UA.out.size)) (one_int heap_alloc_new)).mono ?_
  rintro e m8 ⟨rfl, u⟩
  rw [show (([0] : List Int) == [0]) = true from rfl]
  have U8 := hid (UA.out.trans u)
  clear u
  go_wp2_with fail
  refine (sameTexts_any _ _ [vPa] [vPa] _ ((kSlice (kMap kStr fun l : List UInt8 => ⟨l.toArray⟩)).mono ((kSlice (kMap kStr fun l : List UInt8 => ⟨l.toArray⟩)).keep R4.out fun g hg hlt => U8.out.block g hlt id) fun g hg => Nat.lt_of_lt_of_le hg.2 (Nat.le_trans LR4.out U8.out.size)) (first_one (rep_keep R2.out (V11.out.trans U8.out)))).mono ?_
  rintro e m9 ⟨rfl, u⟩
  rw [show (([vPa] : List Bs) == [vPa]) = true from by decide]
  have U9 := hid (U8.out.trans u)
  clear u
  go_wp2_with fail
  go_ret
  exact ⟨rfl, U2.out.trans (V11.out.trans U9.out)⟩
end Go.Proofs.YtabnniabofhihaaDoor
