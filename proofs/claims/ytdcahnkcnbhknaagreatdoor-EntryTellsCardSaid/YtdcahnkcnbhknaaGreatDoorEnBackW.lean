/- Walks: EntryBack. -/
import Derived.Test.YtdcahnkcnbhknaaGreatDoorEnFew
namespace Go.Proofs.YtdcahnkcnbhknaaGreatDoor
open Go.RowKit Go.Deep

/-- An entry boxed at p, its slices in memory. -/
structure EnAt (w : World) (p : Nat) (e : En) (a1 a2 a3 : Option Addr) (c1 c2 c3 : Nat) : Prop where
  blk : w.heap[p]? = some (.cells (en13 e a1 a2 a3 c1 c2 c3) 25 (0, 0))
  rep : EnRep (· < w.heap.size) w e a1 a2 a3 c1 c2 c3
theorem EnAt.keep {w w' : World} {p : Nat} {e : En} {a1 a2 a3 : Option Addr} {c1 c2 c3 : Nat} (h : EnAt w p e a1 a2 a3 c1 c2 c3) (u : Upd (fun _ => False) w w') : EnAt w' p e a1 a2 a3 c1 c2 c3 :=
  ⟨(u.block _ (heap_lt h.blk) id).trans h.blk, (h.rep.keep u).wide fun _ hg => Nat.lt_of_lt_of_le hg u.size⟩
theorem EnAt.cells {w : World} {p : Nat} {e : En} {a1 a2 a3 : Option Addr} {c1 c2 c3 : Nat} (h : EnAt w p e a1 a2 a3 c1 c2 c3) :
    w.cell? ⟨p, 0, none⟩ = some (.int .i64 e.author) ∧ w.cell? ⟨p, 1, none⟩ = some (.int .i64 e.seq) ∧ w.cell? ⟨p, 2, none⟩ = some (.int .i64 e.day) ∧ w.cell? ⟨p, 3, none⟩ = some (.slice a1 e.knows.length c1) ∧ w.cell? ⟨p, 4, none⟩ = some (.int .i64 e.kind) ∧ w.cell? ⟨p, 5, none⟩ = some (.int .i64 e.circle) ∧ w.cell? ⟨p, 6, none⟩ = some (.int .i64 e.who) ∧ w.cell? ⟨p, 7, none⟩ = some (.int .i64 e.n) ∧ w.cell? ⟨p, 8, none⟩ = some (.int .i64 e.m) ∧ w.cell? ⟨p, 9, none⟩ = some (.int .i64 e.ref) ∧ w.cell? ⟨p, 10, none⟩ = some (.slice a2 e.keys.length c2) ∧ w.cell? ⟨p, 11, none⟩ = some (.slice a3 e.spans.length c3) ∧ w.cell? ⟨p, 12, none⟩ = some (.string ⟨e.text.toArray⟩) := cells13 h.blk
theorem text_agg (e : En) (a1 a2 a3 : Option Addr) (c1 c2 c3 : Nat) (w : World) (E : Env w) (hu : UsesIn w) (hr : EnRep (· < w.heap.size) w e a1 a2 a3 c1 c2 c3) (hw : EnWf e) :
    Calls Tryz.prog 16 #[.agg #[.int .i64 e.author, .int .i64 e.seq, .int .i64 e.day, .slice a1 e.knows.length c1, .int .i64 e.kind, .int .i64 e.circle, .int .i64 e.who, .int .i64 e.n, .int .i64 e.m, .int .i64 e.ref, .slice a2 e.keys.length c2, .slice a3 e.spans.length c3, .string ⟨e.text.toArray⟩]] w fun en w' => en = .returned (.string ⟨(txtF e).toArray⟩) ∧ Upd (fun _ => False) w w' := text_any e a1 a2 a3 c1 c2 c3 w E hu hr hw
theorem same_agg (a b : En) (a1 a2 a3 b1 b2 b3 : Option Addr) (c1 c2 c3 d1 d2 d3 : Nat) (w : World) (ha : EnRep (· < w.heap.size) w a a1 a2 a3 c1 c2 c3) (hb : EnRep (· < w.heap.size) w b b1 b2 b3 d1 d2 d3) :
    Calls Tryz.prog 18 #[.agg #[.int .i64 a.author, .int .i64 a.seq, .int .i64 a.day, .slice a1 a.knows.length c1, .int .i64 a.kind, .int .i64 a.circle, .int .i64 a.who, .int .i64 a.n, .int .i64 a.m, .int .i64 a.ref, .slice a2 a.keys.length c2, .slice a3 a.spans.length c3, .string ⟨a.text.toArray⟩], .agg #[.int .i64 b.author, .int .i64 b.seq, .int .i64 b.day, .slice b1 b.knows.length d1, .int .i64 b.kind, .int .i64 b.circle, .int .i64 b.who, .int .i64 b.n, .int .i64 b.m, .int .i64 b.ref, .slice b2 b.keys.length d2, .slice b3 b.spans.length d3, .string ⟨b.text.toArray⟩]] w fun en w' => en = .returned (.bool (decide (a = b))) ∧ Upd (fun _ => False) w w' := same_any a b a1 a2 a3 b1 b2 b3 c1 c2 c3 d1 d2 d3 _ _ w ha hb (fun _ h => h) (fun _ h => h)
theorem lt_id {w : World} : ∀ g, g < w.heap.size → g < w.heap.size := fun _ h => h
set_option maxRecDepth 100000 in
set_option maxHeartbeats 16000000 in
theorem back_walk (cs1 : Array Value) (a : En) (cs2 : Array Value) (b : En) (s : List UInt8) (w : World) (E : Env w) (hu : UsesIn w) (hz : 6 ≤ w.heap.size) (h0 : kEn.rep (· < w.heap.size) w cs1.toList a) (h1 : kEn.rep (· < w.heap.size) w cs2.toList b) (hs : s.length ≤ maxLen) :
    Calls Tryz.prog 4 #[.agg cs1, .agg cs2, .string ⟨s.toArray⟩] w fun e w' => e = .returned (.bool true) ∧ Upd (fun _ => False) w w' := by
  obtain ⟨a1, a2, a3, c1, c2, c3, rfl, ra, oa⟩ := en_open h0
  obtain ⟨b1, b2, b3, d1, d2, d3, rfl, rb, ob⟩ := en_open h1
  have hs : s.length ≤ 9223372036854775807 := hs
  obtain ⟨W0, hW0⟩ : ∃ W0, W0 = (w.alloc (.cells (en13 a a1 a2 a3 c1 c2 c3) 25 (0, 0))).alloc (.cells (en13 b b1 b2 b3 d1 d2 d3) 25 (0, 0)) := ⟨_, rfl⟩
  have u0 : Upd (fun _ => False) w W0 := by rw [hW0]; exact ((Upd.refl _ _).alloc _).alloc _
  have hba : W0.heap[w.heap.size]? = some (.cells (en13 a a1 a2 a3 c1 c2 c3) 25 (0, 0)) := by rw [hW0, heap_alloc_old (by simp)]; exact heap_alloc_new
  have hbb : W0.heap[w.heap.size + 1]? = some (.cells (en13 b b1 b2 b3 d1 d2 d3) 25 (0, 0)) := by
    have h : (w.alloc (.cells (en13 a a1 a2 a3 c1 c2 c3) 25 (0, 0))).heap.size = w.heap.size + 1 := by simp
    rw [hW0, ← h]; exact heap_alloc_new
  have HA0 : Hid (EnAt W0 w.heap.size a a1 a2 a3 c1 c2 c3) := hid ⟨hba, (ra.keep u0).wide fun _ hg => Nat.lt_of_lt_of_le hg u0.size⟩
  have HB0 : Hid (EnAt W0 (w.heap.size + 1) b b1 b2 b3 d1 d2 d3) := hid ⟨hbb, (rb.keep u0).wide fun _ hg => Nat.lt_of_lt_of_le hg u0.size⟩
  have U0 := hid u0; have HW0 := hid hW0; have HE := hid (E.keep0 u0); have HU := hid (hu.keep u0); have HZ := hid (Nat.le_trans hz u0.size); have OA := hid oa; have OB := hid ob
  obtain ⟨pa, hpa⟩ : ∃ x, w.heap.size = x := ⟨_, rfl⟩
  have PA := hid hpa
  clear E hu hz h0 h1 ra rb oa ob u0 hba hbb hW0 hpa
  by_cases fa : FewE a
  case neg =>
    go_enter Tryz.func4, Tryz.ntmps4
    go_wp2_with fail
    rw [← HW0.out]
    clear HW0
    rw [PA.out] at HA0 HB0
    try rw [PA.out]
    refine (small_any _ HE.out HU.out HZ.out).mono ?_
    rintro en x0 ⟨rfl, u⟩
    have UC := hid u
    have LA := hid (HA0.out.keep u); have LB := hid (HB0.out.keep u)
    clear u HA0 HB0
    obtain ⟨e0, e1, e2, e3, e4, e5, e6, e7, e8, e9, e10, e11, e12⟩ := LA.out.cells
    go_wp2_with fail
    refine (few_any a a1 a2 a3 c1 c2 c3 _).mono ?_
    rintro en x1 ⟨rfl, u⟩
    rw [decide_eq_false fa]
    replace LA := hid (LA.out.keep u)
    replace LB := hid (LB.out.keep u)
    replace UC := hid (UC.out.trans u)
    clear u e0 e1 e2 e3 e4 e5 e6 e7 e8 e9 e10 e11 e12
    go_wp2_with fail
    go_ret
    exact ⟨rfl, U0.out.trans UC.out⟩
  by_cases fb : FewE b
  case neg =>
    go_enter Tryz.func4, Tryz.ntmps4
    go_wp2_with fail
    rw [← HW0.out]
    clear HW0
    rw [PA.out] at HA0 HB0
    try rw [PA.out]
    refine (small_any _ HE.out HU.out HZ.out).mono ?_
    rintro en x0 ⟨rfl, u⟩
    have UC := hid u
    have LA := hid (HA0.out.keep u); have LB := hid (HB0.out.keep u)
    clear u HA0 HB0
    obtain ⟨e0, e1, e2, e3, e4, e5, e6, e7, e8, e9, e10, e11, e12⟩ := LA.out.cells
    go_wp2_with fail
    refine (few_any a a1 a2 a3 c1 c2 c3 _).mono ?_
    rintro en x1 ⟨rfl, u⟩
    rw [decide_eq_true fa]
    replace LA := hid (LA.out.keep u)
    replace LB := hid (LB.out.keep u)
    replace UC := hid (UC.out.trans u)
    clear u e0 e1 e2 e3 e4 e5 e6 e7 e8 e9 e10 e11 e12
    obtain ⟨f0, f1, f2, f3, f4, f5, f6, f7, f8, f9, f10, f11, f12⟩ := LB.out.cells
    go_wp2_with fail
    refine (few_any b b1 b2 b3 d1 d2 d3 _).mono ?_
    rintro en x2 ⟨rfl, u⟩
    rw [decide_eq_false fb]
    replace LA := hid (LA.out.keep u)
    replace LB := hid (LB.out.keep u)
    replace UC := hid (UC.out.trans u)
    clear u f0 f1 f2 f3 f4 f5 f6 f7 f8 f9 f10 f11 f12
    go_wp2_with fail
    go_ret
    exact ⟨rfl, U0.out.trans UC.out⟩
  by_cases fs : 3000 < s.length
  case pos =>
    have t0 : decide ((3000 : Int) < (s.length : Int)) = true := decide_eq_true (by omega)
    have t1 : decide (3000 < s.length) = true := decide_eq_true fs
    go_enter Tryz.func4, Tryz.ntmps4
    go_wp2_with fail
    rw [← HW0.out]
    clear HW0
    rw [PA.out] at HA0 HB0
    try rw [PA.out]
    refine (small_any _ HE.out HU.out HZ.out).mono ?_
    rintro en x0 ⟨rfl, u⟩
    have UC := hid u
    have LA := hid (HA0.out.keep u); have LB := hid (HB0.out.keep u)
    clear u HA0 HB0
    obtain ⟨e0, e1, e2, e3, e4, e5, e6, e7, e8, e9, e10, e11, e12⟩ := LA.out.cells
    go_wp2_with fail
    refine (few_any a a1 a2 a3 c1 c2 c3 _).mono ?_
    rintro en x1 ⟨rfl, u⟩
    rw [decide_eq_true fa]
    replace LA := hid (LA.out.keep u)
    replace LB := hid (LB.out.keep u)
    replace UC := hid (UC.out.trans u)
    clear u e0 e1 e2 e3 e4 e5 e6 e7 e8 e9 e10 e11 e12
    obtain ⟨f0, f1, f2, f3, f4, f5, f6, f7, f8, f9, f10, f11, f12⟩ := LB.out.cells
    go_wp2_with fail
    refine (few_any b b1 b2 b3 d1 d2 d3 _).mono ?_
    rintro en x2 ⟨rfl, u⟩
    rw [decide_eq_true fb]
    replace LA := hid (LA.out.keep u)
    replace LB := hid (LB.out.keep u)
    replace UC := hid (UC.out.trans u)
    clear u f0 f1 f2 f3 f4 f5 f6 f7 f8 f9 f10 f11 f12
    go_wp2_with fail
    go_ret
    exact ⟨rfl, U0.out.trans UC.out⟩
  have t0 : decide ((3000 : Int) < (s.length : Int)) = false := decide_eq_false (by omega)
  have t1 : decide (3000 < s.length) = false := decide_eq_false fs
  have WA := hid (OA.out.wf fa); have WB := hid (OB.out.wf fb)
  have FA := hid fa; have FB := hid fb
  clear fa fb
  go_enter Tryz.func4, Tryz.ntmps4
  go_wp2_with fail
  rw [← HW0.out]
  clear HW0
  rw [PA.out] at HA0 HB0
  try rw [PA.out]
  refine (small_any _ HE.out HU.out HZ.out).mono ?_
  rintro en x0 ⟨rfl, u⟩
  have UC := hid u
  have LA := hid (HA0.out.keep u); have LB := hid (HB0.out.keep u)
  clear u HA0 HB0
  obtain ⟨e0, e1, e2, e3, e4, e5, e6, e7, e8, e9, e10, e11, e12⟩ := LA.out.cells
  go_wp2_with fail
  refine (few_any a a1 a2 a3 c1 c2 c3 _).mono ?_
  rintro en x1 ⟨rfl, u⟩
  rw [decide_eq_true FA.out]
  replace LA := hid (LA.out.keep u)
  replace LB := hid (LB.out.keep u)
  replace UC := hid (UC.out.trans u)
  clear u e0 e1 e2 e3 e4 e5 e6 e7 e8 e9 e10 e11 e12
  obtain ⟨f0, f1, f2, f3, f4, f5, f6, f7, f8, f9, f10, f11, f12⟩ := LB.out.cells
  go_wp2_with fail
  refine (few_any b b1 b2 b3 d1 d2 d3 _).mono ?_
  rintro en x2 ⟨rfl, u⟩
  rw [decide_eq_true FB.out]
  replace LA := hid (LA.out.keep u)
  replace LB := hid (LB.out.keep u)
  replace UC := hid (UC.out.trans u)
  clear u f0 f1 f2 f3 f4 f5 f6 f7 f8 f9 f10 f11 f12
  obtain ⟨e0, e1, e2, e3, e4, e5, e6, e7, e8, e9, e10, e11, e12⟩ := LA.out.cells
  go_wp2_with fail
  refine (text_any a a1 a2 a3 c1 c2 c3 _ (HE.out.keep0 UC.out) (HU.out.keep UC.out) LA.out.rep WA.out).mono ?_
  rintro en x3 ⟨rfl, u⟩
  replace LA := hid (LA.out.keep u)
  replace LB := hid (LB.out.keep u)
  replace UC := hid (UC.out.trans u)
  clear u e0 e1 e2 e3 e4 e5 e6 e7 e8 e9 e10 e11 e12
  clear t0 t1
  have htl := txt_len (e := a) WA.out
  obtain ⟨T, hT⟩ : ∃ T, txtF a = T := ⟨_, rfl⟩
  rw [hT] at htl ⊢
  have HT := hid hT
  clear hT
  obtain ⟨x, ev, hxe⟩ : ∃ x ev, rdF T = (x, ev) := by cases rdF T with | mk p q => exact ⟨p, q, rfl⟩
  have HXE := hid hxe
  clear hxe
  go_wp2_with fail
  refine (read_any T _ (HE.out.keep0 UC.out) (HU.out.keep UC.out) (Nat.le_trans HZ.out UC.out.size) (by omega)).mono ?_
  rintro en r1 hp
  obtain ⟨e1, e2, e3, g1, g2, g3, rfl, rep, u⟩ := read_open HXE.out hp
  obtain ⟨W1, hW1⟩ : ∃ z, z = r1.alloc (.cells #[.int .i64 x.author, .int .i64 x.seq, .int .i64 x.day, .slice e1 x.knows.length g1, .int .i64 x.kind, .int .i64 x.circle, .int .i64 x.who, .int .i64 x.n, .int .i64 x.m, .int .i64 x.ref, .slice e2 x.keys.length g2, .slice e3 x.spans.length g3, .string ⟨x.text.toArray⟩] 25 (0, 0)) := ⟨_, rfl⟩
  have hb : W1.heap[r1.heap.size]? = some (.cells (en13 x e1 e2 e3 g1 g2 g3) 25 (0, 0)) := by rw [hW1]; exact heap_alloc_new
  have u1 : Upd (fun _ => False) r1 W1 := by rw [hW1]; exact (Upd.refl _ _).alloc _
  have LX := hid (show EnAt W1 r1.heap.size x e1 e2 e3 g1 g2 g3 from ⟨hb, (rep.keep u1).wide fun _ hg => Nat.lt_of_lt_of_le hg u1.size⟩)
  replace u := u.trans u1
  replace LA := hid (LA.out.keep u)
  replace LB := hid (LB.out.keep u)
  replace UC := hid (UC.out.trans u)
  obtain ⟨px, hpx⟩ : ∃ z, r1.heap.size = z := ⟨_, rfl⟩
  rw [hpx] at LX
  have HW1 := hid hW1; have HPX := hid hpx
  clear hp hb u u1 hW1 rep hpx
  go_upto_region 6 with (fail)
  rw [← HW1.out]
  try rw [HPX.out]
  clear HW1 HPX
  go_cut [51] (fun s wx => s = .bool false ∧ Upd (fun _ => False) W1 wx)
  case first =>
    have UD := hid (Upd.refl (fun _ => False) W1)
    by_cases hr : RightE a
    case pos =>
      obtain ⟨rfl, rfl⟩ : x = a ∧ ev = 0 := by
        have h := HXE.out
        rw [← HT.out, rd_txt hr WA.out] at h
        injection h with h1 h2
        exact ⟨h1.symm, h2.symm⟩
      have hne : ¬ T = [] := by rw [← HT.out]; exact (txt_iff _).1 hr
      have q1 : (T == []) = false := beq_eq_false_iff_ne.2 hne
      have q2 : (T != []) = true := bne_iff_ne.2 hne
      have q3 : T.isEmpty = false := by cases T with | nil => exact absurd rfl hne | cons _ _ => rfl
      have q4 : decide ((4000 : Int) < (T.length : Int)) = false := decide_eq_false (by omega)
      have q5 : decide (4000 < T.length) = false := decide_eq_false (by omega)
      have HR := hid hr
      clear hr
      obtain ⟨k0, k1, k2, k3, k4, k5, k6, k7, k8, k9, k10, k11, k12⟩ := LA.out.cells
      go_wp2_with fail
      refine (right_any x a1 a2 a3 c1 c2 c3 _ _ (HU.out.keep UC.out) LA.out.rep).mono ?_
      rintro en x4 ⟨rfl, u⟩
      rw [decide_eq_true HR.out]
      replace LA := hid (LA.out.keep u)
      replace LB := hid (LB.out.keep u)
      replace LX := hid (LX.out.keep u)
      replace UD := hid (UD.out.trans u)
      replace UC := hid (UC.out.trans u)
      clear u k0 k1 k2 k3 k4 k5 k6 k7 k8 k9 k10 k11 k12
      obtain ⟨k0, k1, k2, k3, k4, k5, k6, k7, k8, k9, k10, k11, k12⟩ := LA.out.cells
      go_wp2_with fail
      refine (right_any x a1 a2 a3 c1 c2 c3 _ _ (HU.out.keep UC.out) LA.out.rep).mono ?_
      rintro en x5 ⟨rfl, u⟩
      rw [decide_eq_true HR.out]
      replace LA := hid (LA.out.keep u)
      replace LB := hid (LB.out.keep u)
      replace LX := hid (LX.out.keep u)
      replace UD := hid (UD.out.trans u)
      replace UC := hid (UC.out.trans u)
      clear u k0 k1 k2 k3 k4 k5 k6 k7 k8 k9 k10 k11 k12
      go_wp2_with fail
      go_meet
      case rel => exact ⟨rfl, UD.out⟩
    have hT0 : T = [] := Classical.byContradiction fun hne => hr ((txt_iff a).2 fun h => hne (HT.out.symm.trans h))
    obtain rfl : ev = 2 := by
      have h := HXE.out
      rw [hT0, rd_nil] at h
      exact (congrArg Prod.snd h).symm
    have q3 : T.isEmpty = true := by rw [hT0]; rfl
    have q4 : decide ((4000 : Int) < (T.length : Int)) = false := decide_eq_false (by omega)
    have q5 : decide (4000 < T.length) = false := decide_eq_false (by omega)
    have HR := hid hr
    clear hr hT0
    obtain ⟨k0, k1, k2, k3, k4, k5, k6, k7, k8, k9, k10, k11, k12⟩ := LA.out.cells
    go_wp2_with fail
    refine (right_any a a1 a2 a3 c1 c2 c3 _ _ (HU.out.keep UC.out) LA.out.rep).mono ?_
    rintro en x6 ⟨rfl, u⟩
    rw [decide_eq_false HR.out]
    replace LA := hid (LA.out.keep u)
    replace LB := hid (LB.out.keep u)
    replace LX := hid (LX.out.keep u)
    replace UD := hid (UD.out.trans u)
    replace UC := hid (UC.out.trans u)
    clear u k0 k1 k2 k3 k4 k5 k6 k7 k8 k9 k10 k11 k12
    obtain ⟨k0, k1, k2, k3, k4, k5, k6, k7, k8, k9, k10, k11, k12⟩ := LA.out.cells
    go_wp2_with fail
    refine (right_any a a1 a2 a3 c1 c2 c3 _ _ (HU.out.keep UC.out) LA.out.rep).mono ?_
    rintro en x7 ⟨rfl, u⟩
    rw [decide_eq_false HR.out]
    replace LA := hid (LA.out.keep u)
    replace LB := hid (LB.out.keep u)
    replace LX := hid (LX.out.keep u)
    replace UD := hid (UD.out.trans u)
    replace UC := hid (UC.out.trans u)
    clear u k0 k1 k2 k3 k4 k5 k6 k7 k8 k9 k10 k11 k12
    go_wp2_with fail
    go_meet
    case rel => exact ⟨rfl, UD.out⟩
  case rest =>
    obtain ⟨rfl, u⟩ := hcut
    replace LA := hid (LA.out.keep u)
    replace LB := hid (LB.out.keep u)
    replace LX := hid (LX.out.keep u)
    replace UC := hid (UC.out.trans u)
    clear u
    obtain ⟨W2, hW2⟩ : ∃ z, z = wc := ⟨_, rfl⟩
    subst hW2
    go_upto_region 8 with (fail)
    go_cut [69] (fun s wx => s = .bool false ∧ Upd (fun _ => False) W2 wx)
    case first =>
      by_cases hr : RightE a
      case neg =>
        have hT0 : T = [] := Classical.byContradiction fun hne => hr ((txt_iff a).2 fun h => hne (HT.out.symm.trans h))
        obtain rfl : ev = 2 := by
          have h := HXE.out
          rw [hT0, rd_nil] at h
          exact (congrArg Prod.snd h).symm
        clear hr hT0
        go_quiet (fail)
        go_wp2_with fail
        go_meet
        case rel => exact ⟨rfl, (Upd.refl _ _).drewN _⟩
      obtain ⟨hxa, rfl⟩ : a = x ∧ ev = 0 := by
        have h := HXE.out
        rw [← HT.out, rd_txt hr WA.out] at h
        exact ⟨congrArg Prod.fst h, (congrArg Prod.snd h).symm⟩
      subst hxa
      have YX0 : Hid (EnAt W2.drew px a e1 e2 e3 g1 g2 g3) := hid (LX.out.keep (Upd.drew (Upd.refl _ _)))
      have YA0 : Hid (EnAt W2.drew pa a a1 a2 a3 c1 c2 c3) := hid (LA.out.keep (Upd.drew (Upd.refl _ _)))
      have YB0 : Hid (EnAt W2.drew (pa + 1) b b1 b2 b3 d1 d2 d3) := hid (LB.out.keep (Upd.drew (Upd.refl _ _)))
      have V0 := hid ((Upd.refl (fun _ => False) W2).drew)
      by_cases hab : a = b
      case pos =>
        subst hab
        have q1 : (txtF a == T) = true := beq_iff_eq.2 HT.out
        first | (go_region_held3 (fun w' => (w'.cell? ⟨px, 0, none⟩ = some (.int .i64 a.author) ∧ w'.cell? ⟨px, 1, none⟩ = some (.int .i64 a.seq) ∧ w'.cell? ⟨px, 2, none⟩ = some (.int .i64 a.day) ∧ w'.cell? ⟨px, 3, none⟩ = some (.slice e1 a.knows.length g1) ∧ w'.cell? ⟨px, 4, none⟩ = some (.int .i64 a.kind) ∧ w'.cell? ⟨px, 5, none⟩ = some (.int .i64 a.circle) ∧ w'.cell? ⟨px, 6, none⟩ = some (.int .i64 a.who) ∧ w'.cell? ⟨px, 7, none⟩ = some (.int .i64 a.n) ∧ w'.cell? ⟨px, 8, none⟩ = some (.int .i64 a.m) ∧ w'.cell? ⟨px, 9, none⟩ = some (.int .i64 a.ref) ∧ w'.cell? ⟨px, 10, none⟩ = some (.slice e2 a.keys.length g2) ∧ w'.cell? ⟨px, 11, none⟩ = some (.slice e3 a.spans.length g3) ∧ w'.cell? ⟨px, 12, none⟩ = some (.string ⟨a.text.toArray⟩)) ∧ (w'.cell? ⟨pa, 0, none⟩ = some (.int .i64 a.author) ∧ w'.cell? ⟨pa, 1, none⟩ = some (.int .i64 a.seq) ∧ w'.cell? ⟨pa, 2, none⟩ = some (.int .i64 a.day) ∧ w'.cell? ⟨pa, 3, none⟩ = some (.slice a1 a.knows.length c1) ∧ w'.cell? ⟨pa, 4, none⟩ = some (.int .i64 a.kind) ∧ w'.cell? ⟨pa, 5, none⟩ = some (.int .i64 a.circle) ∧ w'.cell? ⟨pa, 6, none⟩ = some (.int .i64 a.who) ∧ w'.cell? ⟨pa, 7, none⟩ = some (.int .i64 a.n) ∧ w'.cell? ⟨pa, 8, none⟩ = some (.int .i64 a.m) ∧ w'.cell? ⟨pa, 9, none⟩ = some (.int .i64 a.ref) ∧ w'.cell? ⟨pa, 10, none⟩ = some (.slice a2 a.keys.length c2) ∧ w'.cell? ⟨pa, 11, none⟩ = some (.slice a3 a.spans.length c3) ∧ w'.cell? ⟨pa, 12, none⟩ = some (.string ⟨a.text.toArray⟩)) ∧ (w'.cell? ⟨(pa + 1), 0, none⟩ = some (.int .i64 a.author) ∧ w'.cell? ⟨(pa + 1), 1, none⟩ = some (.int .i64 a.seq) ∧ w'.cell? ⟨(pa + 1), 2, none⟩ = some (.int .i64 a.day) ∧ w'.cell? ⟨(pa + 1), 3, none⟩ = some (.slice b1 a.knows.length d1) ∧ w'.cell? ⟨(pa + 1), 4, none⟩ = some (.int .i64 a.kind) ∧ w'.cell? ⟨(pa + 1), 5, none⟩ = some (.int .i64 a.circle) ∧ w'.cell? ⟨(pa + 1), 6, none⟩ = some (.int .i64 a.who) ∧ w'.cell? ⟨(pa + 1), 7, none⟩ = some (.int .i64 a.n) ∧ w'.cell? ⟨(pa + 1), 8, none⟩ = some (.int .i64 a.m) ∧ w'.cell? ⟨(pa + 1), 9, none⟩ = some (.int .i64 a.ref) ∧ w'.cell? ⟨(pa + 1), 10, none⟩ = some (.slice b2 a.keys.length d2) ∧ w'.cell? ⟨(pa + 1), 11, none⟩ = some (.slice b3 a.spans.length d3) ∧ w'.cell? ⟨(pa + 1), 12, none⟩ = some (.string ⟨a.text.toArray⟩))) (first | with_reducible exact ⟨YX0.out.cells, YA0.out.cells, YB0.out.cells⟩ | with_reducible exact ⟨YX1.out.cells, YA1.out.cells, YB1.out.cells⟩ | with_reducible exact ⟨YX2.out.cells, YA2.out.cells, YB2.out.cells⟩ | with_reducible exact ⟨YX3.out.cells, YA3.out.cells, YB3.out.cells⟩ | go_keep) (first | (go_at_call 18; have tk := YX2; with_reducible refine (same_agg a a a1 a2 a3 b1 b2 b3 c1 c2 c3 d1 d2 d3 _ YA2.out.rep YB2.out.rep).mono ?_; rintro en wy3 ⟨rfl, u⟩; rw [decide_eq_true rfl]; have YX3 := hid (YX2.out.keep u); have YA3 := hid (YA2.out.keep u); have YB3 := hid (YB2.out.keep u); have V3 := hid (V2.out.trans u); clear u) | (go_at_call 16; with_reducible refine (text_agg a b1 b2 b3 d1 d2 d3 _ (HE.out.keep0 (UC.out.trans V1.out)) (HU.out.keep (UC.out.trans V1.out)) YB1.out.rep WB.out).mono ?_; rintro en wy2 ⟨rfl, u⟩; have YX2 := hid (YX1.out.keep u); have YA2 := hid (YA1.out.keep u); have YB2 := hid (YB1.out.keep u); have V2 := hid (V1.out.trans u); clear u) | (go_at_call 18; with_reducible refine (same_agg a a e1 e2 e3 a1 a2 a3 g1 g2 g3 c1 c2 c3 _ YX0.out.rep YA0.out.rep).mono ?_; rintro en wy1 ⟨rfl, u⟩; rw [decide_eq_true rfl]; have YX1 := hid (YX0.out.keep u); have YA1 := hid (YA0.out.keep u); have YB1 := hid (YB0.out.keep u); have V1 := hid (V0.out.trans u); clear u))) | fail
        go_wp2_with fail
        go_meet
        case rel => exact ⟨rfl, V3.out⟩
      have q1 : (txtF b == T) = false := beq_eq_false_iff_ne.2 fun h => hab ((txt_same hr WA.out WB.out).1 (h.trans HT.out.symm)).symm
      have HAB := hid hab
      clear hab
      first | (go_region_held3 (fun w' => (w'.cell? ⟨px, 0, none⟩ = some (.int .i64 a.author) ∧ w'.cell? ⟨px, 1, none⟩ = some (.int .i64 a.seq) ∧ w'.cell? ⟨px, 2, none⟩ = some (.int .i64 a.day) ∧ w'.cell? ⟨px, 3, none⟩ = some (.slice e1 a.knows.length g1) ∧ w'.cell? ⟨px, 4, none⟩ = some (.int .i64 a.kind) ∧ w'.cell? ⟨px, 5, none⟩ = some (.int .i64 a.circle) ∧ w'.cell? ⟨px, 6, none⟩ = some (.int .i64 a.who) ∧ w'.cell? ⟨px, 7, none⟩ = some (.int .i64 a.n) ∧ w'.cell? ⟨px, 8, none⟩ = some (.int .i64 a.m) ∧ w'.cell? ⟨px, 9, none⟩ = some (.int .i64 a.ref) ∧ w'.cell? ⟨px, 10, none⟩ = some (.slice e2 a.keys.length g2) ∧ w'.cell? ⟨px, 11, none⟩ = some (.slice e3 a.spans.length g3) ∧ w'.cell? ⟨px, 12, none⟩ = some (.string ⟨a.text.toArray⟩)) ∧ (w'.cell? ⟨pa, 0, none⟩ = some (.int .i64 a.author) ∧ w'.cell? ⟨pa, 1, none⟩ = some (.int .i64 a.seq) ∧ w'.cell? ⟨pa, 2, none⟩ = some (.int .i64 a.day) ∧ w'.cell? ⟨pa, 3, none⟩ = some (.slice a1 a.knows.length c1) ∧ w'.cell? ⟨pa, 4, none⟩ = some (.int .i64 a.kind) ∧ w'.cell? ⟨pa, 5, none⟩ = some (.int .i64 a.circle) ∧ w'.cell? ⟨pa, 6, none⟩ = some (.int .i64 a.who) ∧ w'.cell? ⟨pa, 7, none⟩ = some (.int .i64 a.n) ∧ w'.cell? ⟨pa, 8, none⟩ = some (.int .i64 a.m) ∧ w'.cell? ⟨pa, 9, none⟩ = some (.int .i64 a.ref) ∧ w'.cell? ⟨pa, 10, none⟩ = some (.slice a2 a.keys.length c2) ∧ w'.cell? ⟨pa, 11, none⟩ = some (.slice a3 a.spans.length c3) ∧ w'.cell? ⟨pa, 12, none⟩ = some (.string ⟨a.text.toArray⟩)) ∧ (w'.cell? ⟨(pa + 1), 0, none⟩ = some (.int .i64 b.author) ∧ w'.cell? ⟨(pa + 1), 1, none⟩ = some (.int .i64 b.seq) ∧ w'.cell? ⟨(pa + 1), 2, none⟩ = some (.int .i64 b.day) ∧ w'.cell? ⟨(pa + 1), 3, none⟩ = some (.slice b1 b.knows.length d1) ∧ w'.cell? ⟨(pa + 1), 4, none⟩ = some (.int .i64 b.kind) ∧ w'.cell? ⟨(pa + 1), 5, none⟩ = some (.int .i64 b.circle) ∧ w'.cell? ⟨(pa + 1), 6, none⟩ = some (.int .i64 b.who) ∧ w'.cell? ⟨(pa + 1), 7, none⟩ = some (.int .i64 b.n) ∧ w'.cell? ⟨(pa + 1), 8, none⟩ = some (.int .i64 b.m) ∧ w'.cell? ⟨(pa + 1), 9, none⟩ = some (.int .i64 b.ref) ∧ w'.cell? ⟨(pa + 1), 10, none⟩ = some (.slice b2 b.keys.length d2) ∧ w'.cell? ⟨(pa + 1), 11, none⟩ = some (.slice b3 b.spans.length d3) ∧ w'.cell? ⟨(pa + 1), 12, none⟩ = some (.string ⟨b.text.toArray⟩))) (first | with_reducible exact ⟨YX0.out.cells, YA0.out.cells, YB0.out.cells⟩ | with_reducible exact ⟨YX1.out.cells, YA1.out.cells, YB1.out.cells⟩ | with_reducible exact ⟨YX2.out.cells, YA2.out.cells, YB2.out.cells⟩ | with_reducible exact ⟨YX3.out.cells, YA3.out.cells, YB3.out.cells⟩ | go_keep) (first | (go_at_call 18; have tk := YX2; with_reducible refine (same_agg a b a1 a2 a3 b1 b2 b3 c1 c2 c3 d1 d2 d3 _ YA2.out.rep YB2.out.rep).mono ?_; rintro en wy3 ⟨rfl, u⟩; rw [decide_eq_false HAB.out]; have YX3 := hid (YX2.out.keep u); have YA3 := hid (YA2.out.keep u); have YB3 := hid (YB2.out.keep u); have V3 := hid (V2.out.trans u); clear u) | (go_at_call 16; with_reducible refine (text_agg b b1 b2 b3 d1 d2 d3 _ (HE.out.keep0 (UC.out.trans V1.out)) (HU.out.keep (UC.out.trans V1.out)) YB1.out.rep WB.out).mono ?_; rintro en wy2 ⟨rfl, u⟩; have YX2 := hid (YX1.out.keep u); have YA2 := hid (YA1.out.keep u); have YB2 := hid (YB1.out.keep u); have V2 := hid (V1.out.trans u); clear u) | (go_at_call 18; with_reducible refine (same_agg a a e1 e2 e3 a1 a2 a3 g1 g2 g3 c1 c2 c3 _ YX0.out.rep YA0.out.rep).mono ?_; rintro en wy1 ⟨rfl, u⟩; rw [decide_eq_true rfl]; have YX1 := hid (YX0.out.keep u); have YA1 := hid (YA0.out.keep u); have YB1 := hid (YB0.out.keep u); have V1 := hid (V0.out.trans u); clear u))) | fail
      go_wp2_with fail
      go_meet
      case rel => exact ⟨rfl, V3.out⟩
    case rest =>
      obtain ⟨rfl, u⟩ := hcut
      replace UC := hid (UC.out.trans u)
      clear u LA LB LX
      obtain ⟨y, ey, hye⟩ : ∃ y ey, rdF s = (y, ey) := by cases rdF s with | mk p q => exact ⟨p, q, rfl⟩
      have HYE := hid hye
      have WY := hid (show EnWf y by have h := rd_wf (s := s) (by omega); rw [hye] at h; exact h)
      have hcs : (ey = 0 ∧ RightE y ∧ txtF y = s) ∨ (y = En.none ∧ ey = 2) := by
        have h := rd_cases s
        rw [hye] at h
        rcases h with h | h
        · exact .inl h
        · exact .inr ⟨congrArg Prod.fst h, congrArg Prod.snd h⟩
      have HCS := hid hcs
      clear hye hcs
      go_wp2_with fail
      refine (read_any s _ (HE.out.keep0 UC.out) (HU.out.keep UC.out) (Nat.le_trans HZ.out UC.out.size) (by omega)).mono ?_
      rintro en r2 hp
      obtain ⟨y1, y2, y3, k1, k2, k3, rfl, rep, u⟩ := read_open HYE.out hp
      obtain ⟨W3, hW3⟩ : ∃ z, z = r2.alloc (.cells #[.int .i64 y.author, .int .i64 y.seq, .int .i64 y.day, .slice y1 y.knows.length k1, .int .i64 y.kind, .int .i64 y.circle, .int .i64 y.who, .int .i64 y.n, .int .i64 y.m, .int .i64 y.ref, .slice y2 y.keys.length k2, .slice y3 y.spans.length k3, .string ⟨y.text.toArray⟩] 25 (0, 0)) := ⟨_, rfl⟩
      have hb : W3.heap[r2.heap.size]? = some (.cells (en13 y y1 y2 y3 k1 k2 k3) 25 (0, 0)) := by rw [hW3]; exact heap_alloc_new
      have u1 : Upd (fun _ => False) r2 W3 := by rw [hW3]; exact (Upd.refl _ _).alloc _
      have LY := hid (show EnAt W3 r2.heap.size y y1 y2 y3 k1 k2 k3 from ⟨hb, (rep.keep u1).wide fun _ hg => Nat.lt_of_lt_of_le hg u1.size⟩)
      replace UC := hid (UC.out.trans (u.trans u1))
      obtain ⟨py, hpy⟩ : ∃ z, r2.heap.size = z := ⟨_, rfl⟩
      rw [hpy] at LY
      have HW3 := hid hW3; have HPY := hid hpy
      clear hp hb u u1 hW3 rep hpy
      go_upto_region 11 with (fail)
      rw [← HW3.out]
      try rw [HPY.out]
      clear HW3 HPY
      obtain ⟨z0, z1, z2, z3, z4, z5, z6, z7, z8, z9, z10, z11, z12⟩ := LY.out.cells
      rcases HCS.out with ⟨rfl, hry, hty⟩ | ⟨hyn, rfl⟩
      · have HRY := hid hry; have HTY := hid hty
        clear hry hty
        go_wp2_with fail
        refine (right_any y y1 y2 y3 k1 k2 k3 _ _ (HU.out.keep UC.out) LY.out.rep).mono ?_
        rintro en v1 ⟨rfl, u⟩
        rw [decide_eq_true HRY.out]
        replace LY := hid (LY.out.keep u)
        replace UC := hid (UC.out.trans u)
        clear u z0 z1 z2 z3 z4 z5 z6 z7 z8 z9 z10 z11 z12
        obtain ⟨z0, z1, z2, z3, z4, z5, z6, z7, z8, z9, z10, z11, z12⟩ := LY.out.cells
        go_wp2_with fail
        refine (text_any y y1 y2 y3 k1 k2 k3 _ (HE.out.keep0 UC.out) (HU.out.keep UC.out) LY.out.rep WY.out).mono ?_
        rintro en v2 ⟨rfl, u⟩
        rw [HTY.out]
        replace UC := hid (UC.out.trans u)
        have q1 : (s == s) = true := beq_self_eq_true s
        clear u z0 z1 z2 z3 z4 z5 z6 z7 z8 z9 z10 z11 z12
        go_wp2_with fail
        go_ret
        exact ⟨rfl, U0.out.trans UC.out⟩
      · subst hyn
        go_wp2_with fail
        refine (same_agg En.none En.none y1 y2 y3 none none none k1 k2 k3 0 0 0 _ LY.out.rep none_rep).mono ?_
        rintro en v1 ⟨rfl, u⟩
        rw [decide_eq_true rfl]
        replace UC := hid (UC.out.trans u)
        clear u z0 z1 z2 z3 z4 z5 z6 z7 z8 z9 z10 z11 z12
        go_wp2_with fail
        go_ret
        exact ⟨rfl, U0.out.trans UC.out⟩
theorem back_card (cs1 : Array Value) (a : En) (cs2 : Array Value) (b : En) (s : List UInt8) (w : World) (E : Env w) (hu : UsesIn w) (hz : 6 ≤ w.heap.size) (h0 : kEn.rep (· < w.heap.size) w cs1.toList a) (h1 : kEn.rep (· < w.heap.size) w cs2.toList b) (hs : s.length ≤ maxLen) :
    Calls Tryz.prog 4 #[.agg cs1, .agg cs2, .string ⟨s.toArray⟩] w fun e w' => e = .returned (.bool true) ∧ Below w.heap.size w w' :=
  (back_walk cs1 a cs2 b s w E hu hz h0 h1 hs).mono fun _ _ h => ⟨h.1, h.2.below (Nat.le_refl _) fun _ h => h.elim⟩
end Go.Proofs.YtdcahnkcnbhknaaGreatDoor
