/- Walks: EntryTells. -/
import Derived.Test.YtdcahnkcnbhknaaGreatDoorEnBackW
import Derived.Test.YtdcahnkcnbhknaaGreatDoorEnNamed
import Derived.Test.YtdcahnkcnbhknaaGreatDoorEnRtE
import Derived.Test.YtdcahnkcnbhknaaGreatDoorEnRtF
namespace Go.Proofs.YtdcahnkcnbhknaaGreatDoor
open Go.RowKit Go.Deep

theorem rtext_agg (e : En) (a1 a2 a3 : Option Addr) (c1 c2 c3 : Nat) (w : World) (hr : EnRep (· < w.heap.size) w e a1 a2 a3 c1 c2 c3) (hw : EnWf e) :
    Calls Tryz.prog 17 #[.agg #[.int .i64 e.author, .int .i64 e.seq, .int .i64 e.day, .slice a1 e.knows.length c1, .int .i64 e.kind, .int .i64 e.circle, .int .i64 e.who, .int .i64 e.n, .int .i64 e.m, .int .i64 e.ref, .slice a2 e.keys.length c2, .slice a3 e.spans.length c3, .string ⟨e.text.toArray⟩]] w fun en w' => en = .returned (.string ⟨(txtF e).toArray⟩) ∧ Upd (fun _ => False) w w' := rtext_any e a1 a2 a3 c1 c2 c3 w hr hw
theorem rright_agg (e : En) (a1 a2 a3 : Option Addr) (c1 c2 c3 : Nat) (w : World) (hr : EnRep (· < w.heap.size) w e a1 a2 a3 c1 c2 c3) :
    Calls Tryz.prog 15 #[.agg #[.int .i64 e.author, .int .i64 e.seq, .int .i64 e.day, .slice a1 e.knows.length c1, .int .i64 e.kind, .int .i64 e.circle, .int .i64 e.who, .int .i64 e.n, .int .i64 e.m, .int .i64 e.ref, .slice a2 e.keys.length c2, .slice a3 e.spans.length c3, .string ⟨e.text.toArray⟩]] w fun en w' => en = .returned (.bool (decide (RightE e))) ∧ Upd (fun _ => False) w w' := rright_any e a1 a2 a3 c1 c2 c3 _ w hr
theorem rsame_agg (a b : En) (a1 a2 a3 b1 b2 b3 : Option Addr) (c1 c2 c3 d1 d2 d3 : Nat) (w : World) (ha : EnRep (· < w.heap.size) w a a1 a2 a3 c1 c2 c3) (hb : EnRep (· < w.heap.size) w b b1 b2 b3 d1 d2 d3) :
    Calls Tryz.prog 13 #[.agg #[.int .i64 a.author, .int .i64 a.seq, .int .i64 a.day, .slice a1 a.knows.length c1, .int .i64 a.kind, .int .i64 a.circle, .int .i64 a.who, .int .i64 a.n, .int .i64 a.m, .int .i64 a.ref, .slice a2 a.keys.length c2, .slice a3 a.spans.length c3, .string ⟨a.text.toArray⟩], .agg #[.int .i64 b.author, .int .i64 b.seq, .int .i64 b.day, .slice b1 b.knows.length d1, .int .i64 b.kind, .int .i64 b.circle, .int .i64 b.who, .int .i64 b.n, .int .i64 b.m, .int .i64 b.ref, .slice b2 b.keys.length d2, .slice b3 b.spans.length d3, .string ⟨b.text.toArray⟩]] w fun en w' => en = .returned (.bool (decide (a = b))) ∧ Upd (fun _ => False) w w' := rsame_any a b a1 a2 a3 b1 b2 b3 c1 c2 c3 d1 d2 d3 _ _ w ha hb (fun _ h => h) (fun _ h => h)
theorem ruses_sp (k : Int) (w : World) : Calls Tryz.prog 21 #[.int .i64 k] w fun en w' =>
    ∃ a c, en = .returned (.slice a (usesN k).length c) ∧ kStrs.rep (fun g => w.heap.size ≤ g ∧ g < w'.heap.size) w' [.slice a (usesN k).length c] (usesN k) ∧ Upd (fun _ => False) w w' := rusesW_any k w
theorem strs_keep {A : Nat → Prop} {w w' : World} {v : Value} {l : List (List UInt8)} (h : kStrs.rep A w [v] l) (hA : ∀ g, A g → g < w.heap.size) (u : Upd (fun _ => False) w w') : kStrs.rep (· < w'.heap.size) w' [v] l :=
  kStrs.mono (kStrs.keep h fun g hg hlt => u.block g (hA g hg) id) fun g hg => Nat.lt_of_lt_of_le (hA g hg) u.size
set_option maxRecDepth 100000 in
set_option maxHeartbeats 16000000 in
theorem tells_walk (cs1 : Array Value) (a : En) (cs2 : Array Value) (b : En) (k : Int) (s : List UInt8) (w : World) (E : Env w) (hu : UsesIn w) (hz : 6 ≤ w.heap.size) (h0 : kEn.rep (· < w.heap.size) w cs1.toList a) (h1 : kEn.rep (· < w.heap.size) w cs2.toList b) (hs : s.length ≤ maxLen) :
    Calls Tryz.prog 3 #[.agg cs1, .agg cs2, .int .i64 k, .string ⟨s.toArray⟩] w fun e w' => e = .returned (.bool true) ∧ Upd (fun _ => False) w w' := by
  obtain ⟨a1, a2, a3, c1, c2, c3, rfl, ra, oa⟩ := en_open h0
  obtain ⟨b1, b2, b3, d1, d2, d3, rfl, rb, ob⟩ := en_open h1
  have hs : s.length ≤ 9223372036854775807 := hs
  obtain ⟨W0, hW0⟩ : ∃ W0, W0 = (w.alloc (.cells (en13 a a1 a2 a3 c1 c2 c3) 25 (0, 0))).alloc (.cells (en13 b b1 b2 b3 d1 d2 d3) 25 (0, 0)) := ⟨_, rfl⟩
  have u0 : Upd (fun _ => False) w W0 := by rw [hW0]; exact ((Upd.refl _ _).alloc _).alloc _
  have hba : W0.heap[w.heap.size]? = some (.cells (en13 a a1 a2 a3 c1 c2 c3) 25 (0, 0)) := by rw [hW0, heap_alloc_old (by simp)]; exact heap_alloc_new
  have hbb : W0.heap[w.heap.size + 1]? = some (.cells (en13 b b1 b2 b3 d1 d2 d3) 25 (0, 0)) := by
    have h : (w.alloc (.cells (en13 a a1 a2 a3 c1 c2 c3) 25 (0, 0))).heap.size = w.heap.size + 1 := by simp
    rw [hW0, ← h]; exact heap_alloc_new
  have HA0 : Hid (EnAt W0 w.heap.size a a1 a2 a3 c1 c2 c3) := hid ⟨hba, (ra.keep u0).wide fun _ hg => Nat.lt_of_lt_of_le hg u0.size⟩
  have HB0 : Hid (EnAt W0 (w.heap.size + 1) b b1 b2 b3 d1 d2 d3) := hid ⟨hbb, (rb.keep u0).wide fun _ hg => Nat.lt_of_lt_of_le hg u0.size⟩
  have U0 := hid u0; have HW0 := hid hW0; have HE := hid (E.keep0 u0); have HU := hid (hu.keep u0); have HZ := hid (Nat.le_trans hz u0.size); have OA := hid oa; have OB := hid ob
  obtain ⟨pa, hpa⟩ : ∃ x, w.heap.size = x := ⟨_, rfl⟩
  have PA := hid hpa
  clear E hu hz h0 h1 ra rb oa ob u0 hba hbb hW0 hpa
  by_cases fa : FewE a
  case neg =>
    go_enter Tryz.func3, Tryz.ntmps3
    go_wp2_with fail
    rw [← HW0.out]
    clear HW0
    rw [PA.out] at HA0 HB0
    try rw [PA.out]
    refine (small_any _ HE.out HU.out HZ.out).mono ?_
    rintro en x0 ⟨rfl, u⟩
    have UC := hid u
    have LA := hid (HA0.out.keep u); have LB := hid (HB0.out.keep u)
    clear u HA0 HB0
    obtain ⟨e0, e1, e2, e3, e4, e5, e6, e7, e8, e9, e10, e11, e12⟩ := LA.out.cells
    go_wp2_with fail
    refine (few_any a a1 a2 a3 c1 c2 c3 _).mono ?_
    rintro en x1 ⟨rfl, u⟩
    rw [decide_eq_false fa]
    replace LA := hid (LA.out.keep u)
    replace LB := hid (LB.out.keep u)
    replace UC := hid (UC.out.trans u)
    clear u e0 e1 e2 e3 e4 e5 e6 e7 e8 e9 e10 e11 e12
    go_wp2_with fail
    go_ret
    exact ⟨rfl, U0.out.trans UC.out⟩
  by_cases fb : FewE b
  case neg =>
    go_enter Tryz.func3, Tryz.ntmps3
    go_wp2_with fail
    rw [← HW0.out]
    clear HW0
    rw [PA.out] at HA0 HB0
    try rw [PA.out]
    refine (small_any _ HE.out HU.out HZ.out).mono ?_
    rintro en x0 ⟨rfl, u⟩
    have UC := hid u
    have LA := hid (HA0.out.keep u); have LB := hid (HB0.out.keep u)
    clear u HA0 HB0
    obtain ⟨e0, e1, e2, e3, e4, e5, e6, e7, e8, e9, e10, e11, e12⟩ := LA.out.cells
    go_wp2_with fail
    refine (few_any a a1 a2 a3 c1 c2 c3 _).mono ?_
    rintro en x1 ⟨rfl, u⟩
    rw [decide_eq_true fa]
    replace LA := hid (LA.out.keep u)
    replace LB := hid (LB.out.keep u)
    replace UC := hid (UC.out.trans u)
    clear u e0 e1 e2 e3 e4 e5 e6 e7 e8 e9 e10 e11 e12
    obtain ⟨f0, f1, f2, f3, f4, f5, f6, f7, f8, f9, f10, f11, f12⟩ := LB.out.cells
    go_wp2_with fail
    refine (few_any b b1 b2 b3 d1 d2 d3 _).mono ?_
    rintro en x2 ⟨rfl, u⟩
    rw [decide_eq_false fb]
    replace LA := hid (LA.out.keep u)
    replace LB := hid (LB.out.keep u)
    replace UC := hid (UC.out.trans u)
    clear u f0 f1 f2 f3 f4 f5 f6 f7 f8 f9 f10 f11 f12
    go_wp2_with fail
    go_ret
    exact ⟨rfl, U0.out.trans UC.out⟩
  by_cases fs : 3000 < s.length
  case pos =>
    have t0 : decide ((3000 : Int) < (s.length : Int)) = true := decide_eq_true (by omega)
    have t1 : decide (3000 < s.length) = true := decide_eq_true fs
    go_enter Tryz.func3, Tryz.ntmps3
    go_wp2_with fail
    rw [← HW0.out]
    clear HW0
    rw [PA.out] at HA0 HB0
    try rw [PA.out]
    refine (small_any _ HE.out HU.out HZ.out).mono ?_
    rintro en x0 ⟨rfl, u⟩
    have UC := hid u
    have LA := hid (HA0.out.keep u); have LB := hid (HB0.out.keep u)
    clear u HA0 HB0
    obtain ⟨e0, e1, e2, e3, e4, e5, e6, e7, e8, e9, e10, e11, e12⟩ := LA.out.cells
    go_wp2_with fail
    refine (few_any a a1 a2 a3 c1 c2 c3 _).mono ?_
    rintro en x1 ⟨rfl, u⟩
    rw [decide_eq_true fa]
    replace LA := hid (LA.out.keep u)
    replace LB := hid (LB.out.keep u)
    replace UC := hid (UC.out.trans u)
    clear u e0 e1 e2 e3 e4 e5 e6 e7 e8 e9 e10 e11 e12
    obtain ⟨f0, f1, f2, f3, f4, f5, f6, f7, f8, f9, f10, f11, f12⟩ := LB.out.cells
    go_wp2_with fail
    refine (few_any b b1 b2 b3 d1 d2 d3 _).mono ?_
    rintro en x2 ⟨rfl, u⟩
    rw [decide_eq_true fb]
    replace LA := hid (LA.out.keep u)
    replace LB := hid (LB.out.keep u)
    replace UC := hid (UC.out.trans u)
    clear u f0 f1 f2 f3 f4 f5 f6 f7 f8 f9 f10 f11 f12
    go_wp2_with fail
    go_ret
    exact ⟨rfl, U0.out.trans UC.out⟩
  have t0 : decide ((3000 : Int) < (s.length : Int)) = false := decide_eq_false (by omega)
  have t1 : decide (3000 < s.length) = false := decide_eq_false fs
  have WA := hid (OA.out.wf fa); have WB := hid (OB.out.wf fb)
  have FA := hid fa; have FB := hid fb
  have HS := hid (show s.length ≤ 10000000 by omega)
  clear fa fb
  go_enter Tryz.func3, Tryz.ntmps3
  go_wp2_with fail
  rw [← HW0.out]
  clear HW0
  rw [PA.out] at HA0 HB0
  try rw [PA.out]
  refine (small_any _ HE.out HU.out HZ.out).mono ?_
  rintro en x0 ⟨rfl, u⟩
  have UC := hid u
  have LA := hid (HA0.out.keep u); have LB := hid (HB0.out.keep u)
  clear u HA0 HB0
  obtain ⟨e0, e1, e2, e3, e4, e5, e6, e7, e8, e9, e10, e11, e12⟩ := LA.out.cells
  go_wp2_with fail
  refine (few_any a a1 a2 a3 c1 c2 c3 _).mono ?_
  rintro en x1 ⟨rfl, u⟩
  rw [decide_eq_true FA.out]
  replace LA := hid (LA.out.keep u)
  replace LB := hid (LB.out.keep u)
  replace UC := hid (UC.out.trans u)
  clear u e0 e1 e2 e3 e4 e5 e6 e7 e8 e9 e10 e11 e12
  obtain ⟨f0, f1, f2, f3, f4, f5, f6, f7, f8, f9, f10, f11, f12⟩ := LB.out.cells
  go_wp2_with fail
  refine (few_any b b1 b2 b3 d1 d2 d3 _).mono ?_
  rintro en x2 ⟨rfl, u⟩
  rw [decide_eq_true FB.out]
  replace LA := hid (LA.out.keep u)
  replace LB := hid (LB.out.keep u)
  replace UC := hid (UC.out.trans u)
  clear u f0 f1 f2 f3 f4 f5 f6 f7 f8 f9 f10 f11 f12
  obtain ⟨x, ev, hxe⟩ : ∃ x ev, rdF s = (x, ev) := by cases rdF s with | mk p q => exact ⟨p, q, rfl⟩
  have HXE := hid hxe
  clear hxe
  go_wp2_with fail
  refine (read_any s _ (HE.out.keep0 UC.out) (HU.out.keep UC.out) (Nat.le_trans HZ.out UC.out.size) HS.out).mono ?_
  rintro en r1 hp
  obtain ⟨e1, e2, e3, g1, g2, g3, rfl, rep, u⟩ := read_open HXE.out hp
  obtain ⟨W1, hW1⟩ : ∃ z, z = r1.alloc (.cells #[.int .i64 x.author, .int .i64 x.seq, .int .i64 x.day, .slice e1 x.knows.length g1, .int .i64 x.kind, .int .i64 x.circle, .int .i64 x.who, .int .i64 x.n, .int .i64 x.m, .int .i64 x.ref, .slice e2 x.keys.length g2, .slice e3 x.spans.length g3, .string ⟨x.text.toArray⟩] 25 (0, 0)) := ⟨_, rfl⟩
  have hb : W1.heap[r1.heap.size]? = some (.cells (en13 x e1 e2 e3 g1 g2 g3) 25 (0, 0)) := by rw [hW1]; exact heap_alloc_new
  have u1 : Upd (fun _ => False) r1 W1 := by rw [hW1]; exact (Upd.refl _ _).alloc _
  replace u := u.trans u1
  replace LA := hid (LA.out.keep u)
  replace LB := hid (LB.out.keep u)
  have LX := hid (show EnAt W1 r1.heap.size x e1 e2 e3 g1 g2 g3 from ⟨hb, (rep.keep u1).wide fun _ hg => Nat.lt_of_lt_of_le hg u1.size⟩)
  replace UC := hid (UC.out.trans u)
  obtain ⟨px, hpx⟩ : ∃ z, r1.heap.size = z := ⟨_, rfl⟩
  rw [hpx] at LX
  have HW1 := hid hW1; have HPX1 := hid hpx
  clear hp hb u u1 hW1 rep hpx
  go_wp2_with fail
  rw [← HW1.out]
  try rw [HPX1.out]
  clear HW1 HPX1
  refine (rread_any s _ HS.out).mono ?_
  rintro en r2 hp
  obtain ⟨f1, f2, f3, k1, k2, k3, rfl, rep, u⟩ := read_open HXE.out hp
  obtain ⟨W2, hW1⟩ : ∃ z, z = r2.alloc (.cells #[.int .i64 x.author, .int .i64 x.seq, .int .i64 x.day, .slice f1 x.knows.length k1, .int .i64 x.kind, .int .i64 x.circle, .int .i64 x.who, .int .i64 x.n, .int .i64 x.m, .int .i64 x.ref, .slice f2 x.keys.length k2, .slice f3 x.spans.length k3, .string ⟨x.text.toArray⟩] 25 (0, 0)) := ⟨_, rfl⟩
  have hb : W2.heap[r2.heap.size]? = some (.cells (en13 x f1 f2 f3 k1 k2 k3) 25 (0, 0)) := by rw [hW1]; exact heap_alloc_new
  have u1 : Upd (fun _ => False) r2 W2 := by rw [hW1]; exact (Upd.refl _ _).alloc _
  replace u := u.trans u1
  replace LA := hid (LA.out.keep u)
  replace LB := hid (LB.out.keep u)
  replace LX := hid (LX.out.keep u)
  have LY := hid (show EnAt W2 r2.heap.size x f1 f2 f3 k1 k2 k3 from ⟨hb, (rep.keep u1).wide fun _ hg => Nat.lt_of_lt_of_le hg u1.size⟩)
  replace UC := hid (UC.out.trans u)
  obtain ⟨py, hpx⟩ : ∃ z, r2.heap.size = z := ⟨_, rfl⟩
  rw [hpx] at LY
  have HW2 := hid hW1; have HPX2 := hid hpx
  clear hp hb u u1 hW1 rep hpx
  have q0 : (ev != ev) = false := by simp
  obtain ⟨bs, hbs⟩ : ∃ x, decide (a = b) = x := ⟨_, rfl⟩
  obtain ⟨br, hbr⟩ : ∃ x, decide (RightE a) = x := ⟨_, rfl⟩
  obtain ⟨T, hT⟩ : ∃ T, txtF a = T := ⟨_, rfl⟩
  have q1 : (br != br) = false := by simp
  have q2 : (T != T) = false := by simp
  have q3 : (T == T) = true := by simp
  have q4 : (bs == bs) = true := by simp
  have BS := hid hbs; have BR := hid hbr; have HT := hid hT
  clear hbs hbr hT t0 t1
  go_upto_region 6 with (fail)
  rw [← HW2.out]
  try rw [HPX2.out]
  clear HW2 HPX2
  have YX0 : Hid (EnAt W2.drew px x e1 e2 e3 g1 g2 g3) := hid (LX.out.keep (Upd.drew (Upd.refl _ _)))
  have YY0 : Hid (EnAt W2.drew py x f1 f2 f3 k1 k2 k3) := hid (LY.out.keep (Upd.drew (Upd.refl _ _)))
  have YA0 : Hid (EnAt W2.drew pa a a1 a2 a3 c1 c2 c3) := hid (LA.out.keep (Upd.drew (Upd.refl _ _)))
  have YB0 : Hid (EnAt W2.drew (pa + 1) b b1 b2 b3 d1 d2 d3) := hid (LB.out.keep (Upd.drew (Upd.refl _ _)))
  have V0 := hid ((Upd.refl (fun _ => False) W2).drew)
  first | (go_region_held3 (fun w' => (w'.cell? ⟨px, 0, none⟩ = some (.int .i64 x.author) ∧ w'.cell? ⟨px, 1, none⟩ = some (.int .i64 x.seq) ∧ w'.cell? ⟨px, 2, none⟩ = some (.int .i64 x.day) ∧ w'.cell? ⟨px, 3, none⟩ = some (.slice e1 x.knows.length g1) ∧ w'.cell? ⟨px, 4, none⟩ = some (.int .i64 x.kind) ∧ w'.cell? ⟨px, 5, none⟩ = some (.int .i64 x.circle) ∧ w'.cell? ⟨px, 6, none⟩ = some (.int .i64 x.who) ∧ w'.cell? ⟨px, 7, none⟩ = some (.int .i64 x.n) ∧ w'.cell? ⟨px, 8, none⟩ = some (.int .i64 x.m) ∧ w'.cell? ⟨px, 9, none⟩ = some (.int .i64 x.ref) ∧ w'.cell? ⟨px, 10, none⟩ = some (.slice e2 x.keys.length g2) ∧ w'.cell? ⟨px, 11, none⟩ = some (.slice e3 x.spans.length g3) ∧ w'.cell? ⟨px, 12, none⟩ = some (.string ⟨x.text.toArray⟩)) ∧ (w'.cell? ⟨py, 0, none⟩ = some (.int .i64 x.author) ∧ w'.cell? ⟨py, 1, none⟩ = some (.int .i64 x.seq) ∧ w'.cell? ⟨py, 2, none⟩ = some (.int .i64 x.day) ∧ w'.cell? ⟨py, 3, none⟩ = some (.slice f1 x.knows.length k1) ∧ w'.cell? ⟨py, 4, none⟩ = some (.int .i64 x.kind) ∧ w'.cell? ⟨py, 5, none⟩ = some (.int .i64 x.circle) ∧ w'.cell? ⟨py, 6, none⟩ = some (.int .i64 x.who) ∧ w'.cell? ⟨py, 7, none⟩ = some (.int .i64 x.n) ∧ w'.cell? ⟨py, 8, none⟩ = some (.int .i64 x.m) ∧ w'.cell? ⟨py, 9, none⟩ = some (.int .i64 x.ref) ∧ w'.cell? ⟨py, 10, none⟩ = some (.slice f2 x.keys.length k2) ∧ w'.cell? ⟨py, 11, none⟩ = some (.slice f3 x.spans.length k3) ∧ w'.cell? ⟨py, 12, none⟩ = some (.string ⟨x.text.toArray⟩)) ∧ (w'.cell? ⟨pa, 0, none⟩ = some (.int .i64 a.author) ∧ w'.cell? ⟨pa, 1, none⟩ = some (.int .i64 a.seq) ∧ w'.cell? ⟨pa, 2, none⟩ = some (.int .i64 a.day) ∧ w'.cell? ⟨pa, 3, none⟩ = some (.slice a1 a.knows.length c1) ∧ w'.cell? ⟨pa, 4, none⟩ = some (.int .i64 a.kind) ∧ w'.cell? ⟨pa, 5, none⟩ = some (.int .i64 a.circle) ∧ w'.cell? ⟨pa, 6, none⟩ = some (.int .i64 a.who) ∧ w'.cell? ⟨pa, 7, none⟩ = some (.int .i64 a.n) ∧ w'.cell? ⟨pa, 8, none⟩ = some (.int .i64 a.m) ∧ w'.cell? ⟨pa, 9, none⟩ = some (.int .i64 a.ref) ∧ w'.cell? ⟨pa, 10, none⟩ = some (.slice a2 a.keys.length c2) ∧ w'.cell? ⟨pa, 11, none⟩ = some (.slice a3 a.spans.length c3) ∧ w'.cell? ⟨pa, 12, none⟩ = some (.string ⟨a.text.toArray⟩))) (first | with_reducible exact ⟨YX5.out.cells, YY5.out.cells, YA5.out.cells⟩ | with_reducible exact ⟨YX4.out.cells, YY4.out.cells, YA4.out.cells⟩ | with_reducible exact ⟨YX3.out.cells, YY3.out.cells, YA3.out.cells⟩ | with_reducible exact ⟨YX2.out.cells, YY2.out.cells, YA2.out.cells⟩ | with_reducible exact ⟨YX1.out.cells, YY1.out.cells, YA1.out.cells⟩ | with_reducible exact ⟨YX0.out.cells, YY0.out.cells, YA0.out.cells⟩ | go_keep) (first | (go_at_call 13; have tk := V0; with_reducible refine (rsame_agg x x e1 e2 e3 f1 f2 f3 g1 g2 g3 k1 k2 k3 _ YX0.out.rep YY0.out.rep).mono ?_; rintro en wy1 ⟨rfl, u⟩; rw [decide_eq_true rfl]; have YX1 := hid (YX0.out.keep u); have YY1 := hid (YY0.out.keep u); have YA1 := hid (YA0.out.keep u); have YB1 := hid (YB0.out.keep u); have V1 := hid (V0.out.trans u); clear u tk) | (go_at_call 14; have tk := V1; with_reducible refine (right_agg a a1 a2 a3 c1 c2 c3 _ (HU.out.keep (UC.out.trans V1.out)) YA1.out.rep).mono ?_; rintro en wy2 ⟨rfl, u⟩; rw [BR.out]; have YX2 := hid (YX1.out.keep u); have YY2 := hid (YY1.out.keep u); have YA2 := hid (YA1.out.keep u); have YB2 := hid (YB1.out.keep u); have V2 := hid (V1.out.trans u); clear u tk) | (go_at_call 15; have tk := V2; with_reducible refine (rright_agg a a1 a2 a3 c1 c2 c3 _ YA2.out.rep).mono ?_; rintro en wy3 ⟨rfl, u⟩; rw [BR.out]; have YX3 := hid (YX2.out.keep u); have YY3 := hid (YY2.out.keep u); have YA3 := hid (YA2.out.keep u); have YB3 := hid (YB2.out.keep u); have V3 := hid (V2.out.trans u); clear u tk) | (go_at_call 16; have tk := V3; with_reducible refine (text_agg a a1 a2 a3 c1 c2 c3 _ (HE.out.keep0 (UC.out.trans V3.out)) (HU.out.keep (UC.out.trans V3.out)) YA3.out.rep WA.out).mono ?_; rintro en wy4 ⟨rfl, u⟩; rw [HT.out]; have YX4 := hid (YX3.out.keep u); have YY4 := hid (YY3.out.keep u); have YA4 := hid (YA3.out.keep u); have YB4 := hid (YB3.out.keep u); have V4 := hid (V3.out.trans u); clear u tk) | (go_at_call 17; have tk := V4; with_reducible refine (rtext_agg a a1 a2 a3 c1 c2 c3 _ YA4.out.rep WA.out).mono ?_; rintro en wy5 ⟨rfl, u⟩; rw [HT.out]; have YX5 := hid (YX4.out.keep u); have YY5 := hid (YY4.out.keep u); have YA5 := hid (YA4.out.keep u); have YB5 := hid (YB4.out.keep u); have V5 := hid (V4.out.trans u); clear u tk))) | fail
  replace UC := hid (UC.out.trans V5.out)
  have ZA := hid (YA5.out); have ZB := hid (YB5.out)
  clear YX0 YY0 YA0 YB0 V0 YX1 YY1 YA1 YB1 V1 YX2 YY2 YA2 YB2 V2 YX3 YY3 YA3 YB3 V3 YX4 YY4 YA4 YB4 V4 YX5 YY5 YA5 YB5 V5 LX LY LA LB
  obtain ⟨W3, hW3⟩ : ∃ z, z = wy5 := ⟨_, rfl⟩
  subst hW3
  go_upto_region 8 with (fail)
  have YA0 : Hid (EnAt W3.drew pa a a1 a2 a3 c1 c2 c3) := hid (ZA.out.keep (Upd.drew (Upd.refl _ _)))
  have YB0 : Hid (EnAt W3.drew (pa + 1) b b1 b2 b3 d1 d2 d3) := hid (ZB.out.keep (Upd.drew (Upd.refl _ _)))
  have V0 := hid ((Upd.refl (fun _ => False) W3).drew)
  first | (go_region_held3 (fun w' => (w'.cell? ⟨pa, 0, none⟩ = some (.int .i64 a.author) ∧ w'.cell? ⟨pa, 1, none⟩ = some (.int .i64 a.seq) ∧ w'.cell? ⟨pa, 2, none⟩ = some (.int .i64 a.day) ∧ w'.cell? ⟨pa, 3, none⟩ = some (.slice a1 a.knows.length c1) ∧ w'.cell? ⟨pa, 4, none⟩ = some (.int .i64 a.kind) ∧ w'.cell? ⟨pa, 5, none⟩ = some (.int .i64 a.circle) ∧ w'.cell? ⟨pa, 6, none⟩ = some (.int .i64 a.who) ∧ w'.cell? ⟨pa, 7, none⟩ = some (.int .i64 a.n) ∧ w'.cell? ⟨pa, 8, none⟩ = some (.int .i64 a.m) ∧ w'.cell? ⟨pa, 9, none⟩ = some (.int .i64 a.ref) ∧ w'.cell? ⟨pa, 10, none⟩ = some (.slice a2 a.keys.length c2) ∧ w'.cell? ⟨pa, 11, none⟩ = some (.slice a3 a.spans.length c3) ∧ w'.cell? ⟨pa, 12, none⟩ = some (.string ⟨a.text.toArray⟩)) ∧ (w'.cell? ⟨(pa + 1), 0, none⟩ = some (.int .i64 b.author) ∧ w'.cell? ⟨(pa + 1), 1, none⟩ = some (.int .i64 b.seq) ∧ w'.cell? ⟨(pa + 1), 2, none⟩ = some (.int .i64 b.day) ∧ w'.cell? ⟨(pa + 1), 3, none⟩ = some (.slice b1 b.knows.length d1) ∧ w'.cell? ⟨(pa + 1), 4, none⟩ = some (.int .i64 b.kind) ∧ w'.cell? ⟨(pa + 1), 5, none⟩ = some (.int .i64 b.circle) ∧ w'.cell? ⟨(pa + 1), 6, none⟩ = some (.int .i64 b.who) ∧ w'.cell? ⟨(pa + 1), 7, none⟩ = some (.int .i64 b.n) ∧ w'.cell? ⟨(pa + 1), 8, none⟩ = some (.int .i64 b.m) ∧ w'.cell? ⟨(pa + 1), 9, none⟩ = some (.int .i64 b.ref) ∧ w'.cell? ⟨(pa + 1), 10, none⟩ = some (.slice b2 b.keys.length d2) ∧ w'.cell? ⟨(pa + 1), 11, none⟩ = some (.slice b3 b.spans.length d3) ∧ w'.cell? ⟨(pa + 1), 12, none⟩ = some (.string ⟨b.text.toArray⟩))) (first | with_reducible exact ⟨YA6.out.cells, YB6.out.cells⟩ | with_reducible exact ⟨YA5.out.cells, YB5.out.cells⟩ | with_reducible exact ⟨YA4.out.cells, YB4.out.cells⟩ | with_reducible exact ⟨YA3.out.cells, YB3.out.cells⟩ | with_reducible exact ⟨YA2.out.cells, YB2.out.cells⟩ | with_reducible exact ⟨YA1.out.cells, YB1.out.cells⟩ | with_reducible exact ⟨YA0.out.cells, YB0.out.cells⟩ | go_keep) (first | (go_at_call 18; have tk := V0; with_reducible refine (same_agg a b a1 a2 a3 b1 b2 b3 c1 c2 c3 d1 d2 d3 _ YA0.out.rep YB0.out.rep).mono ?_; rintro en wy1 ⟨rfl, u⟩; rw [BS.out]; have YA1 := hid (YA0.out.keep u); have YB1 := hid (YB0.out.keep u); have V1 := hid (V0.out.trans u); clear u tk) | (go_at_call 13; have tk := V1; with_reducible refine (rsame_agg a b a1 a2 a3 b1 b2 b3 c1 c2 c3 d1 d2 d3 _ YA1.out.rep YB1.out.rep).mono ?_; rintro en wy2 ⟨rfl, u⟩; rw [BS.out]; have YA2 := hid (YA1.out.keep u); have YB2 := hid (YB1.out.keep u); have V2 := hid (V1.out.trans u); clear u tk) | (go_at_call 18; have tk := V2; with_reducible refine (same_agg a a a1 a2 a3 a1 a2 a3 c1 c2 c3 c1 c2 c3 _ YA2.out.rep YA2.out.rep).mono ?_; rintro en wy3 ⟨rfl, u⟩; rw [decide_eq_true rfl]; have YA3 := hid (YA2.out.keep u); have YB3 := hid (YB2.out.keep u); have V3 := hid (V2.out.trans u); clear u tk) | (go_at_call 20; have tk := V3; with_reducible refine (uses_sp k _ (HU.out.keep (UC.out.trans V3.out))).mono ?_; rintro en wy4 ⟨ua, uc, rfl, hL, u⟩; have HL := hid hL; clear hL; have YA4 := hid (YA3.out.keep u); have YB4 := hid (YB3.out.keep u); have V4 := hid (V3.out.trans u); clear u tk) | (go_at_call 21; have tk := V4; with_reducible refine (ruses_sp k _).mono ?_; rintro en wy5 ⟨va, vc, rfl, hM, u⟩; have HM := hid hM; have HL2 := hid (strs_keep HL.out (fun _ h => h.2) u); clear hM; have YA5 := hid (YA4.out.keep u); have YB5 := hid (YB4.out.keep u); have V5 := hid (V4.out.trans u); clear u tk) | (go_at_call 19; have tk := V5; with_reducible refine (texts_any _ _ (usesN k) (usesN k) _ _ _ HL2.out HM.out (fun _ h => h) (fun _ h => h.2)).mono ?_; rintro en wy6 ⟨rfl, u⟩; rw [decide_eq_true rfl]; have YA6 := hid (YA5.out.keep u); have YB6 := hid (YB5.out.keep u); have V6 := hid (V5.out.trans u); clear u tk))) | fail
  go_wp2_with fail
  go_ret
  exact ⟨rfl, (U0.out.trans UC.out).trans V6.out⟩
theorem tells_card (cs1 : Array Value) (a : En) (cs2 : Array Value) (b : En) (k : Int) (s : List UInt8) (w : World) (E : Env w) (hu : UsesIn w) (hz : 6 ≤ w.heap.size) (h0 : kEn.rep (· < w.heap.size) w cs1.toList a) (h1 : kEn.rep (· < w.heap.size) w cs2.toList b) (_ : (Lit.int .i64 k).wf = true) (hs : s.length ≤ maxLen) :
    Calls Tryz.prog 3 #[.agg cs1, .agg cs2, .int .i64 k, .string ⟨s.toArray⟩] w fun e w' => e = .returned (.bool true) ∧ Below w.heap.size w w' :=
  (tells_walk cs1 a cs2 b k s w E hu hz h0 h1 hs).mono fun _ _ h => ⟨h.1, h.2.below (Nat.le_refl _) fun _ h => h.elim⟩
end Go.Proofs.YtdcahnkcnbhknaaGreatDoor
