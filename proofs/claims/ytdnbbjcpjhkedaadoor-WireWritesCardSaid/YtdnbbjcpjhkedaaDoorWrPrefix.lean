/- The walk of WirePrefix. -/
import Derived.Test.YtdnbbjcpjhkedaaDoorWrE2
namespace Go.Proofs.YtdnbbjcpjhkedaaDoor
open Go.RowKit Go.Deep

theorem equalF_snd {v x : Vl} (h : v.kind % 5 = x.kind % 5) (r : RS) : (equalF r v).2 = (equalF r x).2 := by
  unfold equalF
  rw [h]
  split
  · rfl
  split
  · rfl
  split
  · rfl
  split
  · rfl
  · rfl
/-- Encodings of one kind are prefix-free. -/
theorem prefix_eq {v x : Vl} (hv : VlOk v ∧ FewV v) (hx : VlOk x ∧ FewV x) (hk : v.kind % 5 = x.kind % 5) (h : (writeF x).take (writeF v).length = writeF v) : writeF x = writeF v := by
  have h1 : writeF v ++ (writeF x).drop (writeF v).length = writeF x := by
    have := List.take_append_drop (writeF v).length (writeF x)
    rw [h] at this; exact this
  have e1 := equal_mk hv.1 hv.2 ((writeF x).drop (writeF v).length)
  have e2 := equal_mk hx.1 hx.2 []
  rw [List.append_nil] at e2
  rw [h1] at e1
  have e3 := equalF_snd hk ⟨writeF x, false⟩
  rw [e1, e2] at e3
  injection e3 with e3 _
  rw [e3, List.append_nil] at h1
  exact h1.symm
theorem alloc2 (W : World) (o1 o2 : Obj) : ((W.alloc o1).alloc o2).heap[W.heap.size + 1]? = some o2 ∧ ((W.alloc o1).alloc o2).heap[W.heap.size]? = some o1 := by
  constructor
  · show ((W.heap.push o1).push o2)[W.heap.size + 1]? = some o2
    rw [show W.heap.size + 1 = (W.heap.push o1).size by simp]
    exact Array.getElem?_push_size
  · show ((W.heap.push o1).push o2)[W.heap.size]? = some o1
    simp [Array.getElem?_push]
theorem one_rep {w w' : World} {g : Nat} {v : Vl} {a d : Option Addr} {c f : Nat} {t : TypeId} (hr : kVl.rep (· < w.heap.size) w [.int .i64 v.kind, .int .i64 v.n, .string ⟨v.s.toArray⟩, .slice a v.l.length c, .slice d v.t.length f] v) (u : Upd (fun _ => False) w w')
    (hb : w'.heap[g]? = some (.cells #[.int .i64 v.kind, .int .i64 v.n, .string ⟨v.s.toArray⟩, .slice a v.l.length c, .slice d v.t.length f] t (0, 0))) : (kSlice kVl).rep (· < w'.heap.size) w' [.slice (some ⟨g, 0, none⟩) 1 1] [v] := by
  refine .inr ⟨g, 0, 1, rfl, Nat.le_refl _, by unfold maxLen; decide, heap_lt hb, fun i hi => ?_⟩
  have hi0 : i = 0 := by simp at hi; omega
  subst hi0
  refine ⟨_, rep_keep hr u, ?_⟩
  intro j hj
  have : j = 0 ∨ j = 1 ∨ j = 2 ∨ j = 3 ∨ j = 4 := by simp at hj; omega
  rcases this with rfl | rfl | rfl | rfl | rfl <;> (rw [cell_of_block hb]; rfl)
theorem few_one {v : Vl} (h : fewB [v] = true) : FewV v := (fewB_few h).2 v (by simp)
theorem agg5 {cs : Array Value} {a b c d e : Value} (h : cs.toList = [a, b, c, d, e]) : cs = #[a, b, c, d, e] := by
  cases cs; simp_all

set_option maxRecDepth 100000 in
set_option maxHeartbeats 4000000 in
theorem prefix_walk (cs1 : Array Value) (v : Vl) (cs2 : Array Value) (x : Vl) (W : World) (E : Env W) (hz : 6 ≤ W.heap.size) (h1 : kVl.rep (· < W.heap.size) W cs1.toList v) (h2 : kVl.rep (· < W.heap.size) W cs2.toList x) :
    Calls Tryd.prog 5 #[.agg cs1, .agg cs2] W fun e w' => e = .returned (.bool true) ∧ Below W.heap.size W w' := by
  suffices hs : Calls Tryd.prog 5 #[.agg cs1, .agg cs2] W fun e w' => e = .returned (.bool true) ∧ Upd (fun _ => False) W w' from hs.mono fun e w' h => ⟨h.1, h.2.below (Nat.le_refl _) fun _ h => h.elim⟩
  have HE := hid E; have HZ := hid hz
  obtain ⟨a1, c1, d1, f1, e1, p1, p2, p3, p4, p5, p6, p7, p8, p9⟩ := vl_open h1
  obtain ⟨a2, c2, d2, f2, e2, q1, q2, q3, q4, q5, q6, q7, q8, q9⟩ := vl_open h2
  rw [e1] at h1
  rw [e2] at h2
  obtain rfl := agg5 e1
  obtain rfl := agg5 e2
  clear e1 e2
  have OK1 := hid (fun (h : fewB [v] = true) => (⟨vlOk_of p5 p6 (ints_i64 p8) (few_one h), few_one h⟩ : VlOk v ∧ FewV v))
  have OK2 := hid (fun (h : fewB [x] = true) => (⟨vlOk_of q5 q6 (ints_i64 q8) (few_one h), few_one h⟩ : VlOk x ∧ FewV x))
  have KV := hid p5; have KX := hid q5
  have RV := hid h1; have RX := hid h2; have LV := hid p8; have TV := hid p9; have LX := hid q8; have TX := hid q9
  have p2 : c1 ≤ 9223372036854775807 := p2
  have p4 : f1 ≤ 9223372036854775807 := p4
  have q2 : c2 ≤ 9223372036854775807 := q2
  have q4 : f2 ≤ 9223372036854775807 := q4
  have p7 : v.s.length ≤ 9223372036854775807 := p7
  have q7 : x.s.length ≤ 9223372036854775807 := q7
  have u0 := ((Upd.refl (fun _ => False) W).alloc (.cells #[.int .i64 v.kind, .int .i64 v.n, .string ⟨v.s.toArray⟩, .slice a1 v.l.length c1, .slice d1 v.t.length f1] 25 (0, 0))).alloc (.cells #[.int .i64 x.kind, .int .i64 x.n, .string ⟨x.s.toArray⟩, .slice a2 x.l.length c2, .slice d2 x.t.length f2] 25 (0, 0))
  have B1 := hid (alloc2 W (.cells #[.int .i64 v.kind, .int .i64 v.n, .string ⟨v.s.toArray⟩, .slice a1 v.l.length c1, .slice d1 v.t.length f1] 25 (0, 0)) (.cells #[.int .i64 x.kind, .int .i64 x.n, .string ⟨x.s.toArray⟩, .slice a2 x.l.length c2, .slice d2 x.t.length f2] 25 (0, 0))).1
  have B0 := hid (alloc2 W (.cells #[.int .i64 v.kind, .int .i64 v.n, .string ⟨v.s.toArray⟩, .slice a1 v.l.length c1, .slice d1 v.t.length f1] 25 (0, 0)) (.cells #[.int .i64 x.kind, .int .i64 x.n, .string ⟨x.s.toArray⟩, .slice a2 x.l.length c2, .slice d2 x.t.length f2] 25 (0, 0))).2
  have U0 := hid u0
  clear u0 h1 h2 p5 p6 p8 p9 q5 q6 q8 q9 E hz p1 p3 q1 q3
  go_enter Tryd.func5, Tryd.ntmps5
  go_wp2_with fail
  refine (small_any _ (HE.out.keep0 U0.out) (Nat.le_trans HZ.out U0.out.size)).mono ?_
  rintro e w1 ⟨rfl, u⟩
  have U1 := hid (U0.out.trans u)
  have hb1 := (u.block _ (heap_lt B1.out) id).trans B1.out
  have hb0 := (u.block _ (heap_lt B0.out) id).trans B0.out
  have RV1 := hid (rep_keep RV.out U1.out); have RX1 := hid (rep_keep RX.out U1.out)
  have BB1 := hid hb1; have BB0 := hid hb0
  obtain ⟨x0, x1, x2, x3, x4, _⟩ := cells5 hb1
  obtain ⟨v0, v1, v2, v3, v4, _⟩ := cells5 hb0
  clear u hb1 hb0 B1 B0 U0
  go_upto_region 2 with (fail)
  cases hf1 : fewB [v] with
  | false =>
    have F1 := hid hf1; clear hf1
    first | (go_region_with (go_at_call 10; refine (fewE_any _ [v] _ (one_rep (w := w1) (t := 25) RV1.out ?_ ?_)).mono ?_; exact ((Upd.refl _ _).alloc _).drew; exact heap_alloc_new; rintro e wf ⟨rfl, u⟩; rw [F1.out]; have Y1 : Hid (Upd (fun _ => False) w1 wf) := hid ((((Upd.refl _ _).alloc _).drew).trans u); obtain ⟨y0, y1, y2, y3, y4, _⟩ := cells5 ((Y1.out.block _ (heap_lt BB1.out) id).trans BB1.out); obtain ⟨z0, z1, z2, z3, z4, _⟩ := cells5 ((Y1.out.block _ (heap_lt BB0.out) id).trans BB0.out); clear u)) | fail
    all_goals
      go_wp2_with fail
      go_ret
      exact ⟨rfl, U1.out.trans Y1.out⟩
  | true =>
  have F1 := hid hf1; clear hf1
  cases hf2 : fewB [x] with
  | false =>
    have F2 := hid hf2; clear hf2
    first | (go_region_with (first | (go_at_call 10; have tk := Y1; clear tk; refine (fewE_any _ [x] _ (one_rep (w := wf) (t := 25) (rep_keep RX1.out Y1.out) ?_ ?_)).mono ?_; exact (Upd.refl _ _).alloc _; exact heap_alloc_new; rintro e wg ⟨rfl, u⟩; rw [F2.out]; have Y2 : Hid (Upd (fun _ => False) w1 wg) := hid (Y1.out.trans (((Upd.refl _ _).alloc _).trans u)); obtain ⟨y0, y1, y2, y3, y4, _⟩ := cells5 ((Y2.out.block _ (heap_lt BB1.out) id).trans BB1.out); obtain ⟨z0, z1, z2, z3, z4, _⟩ := cells5 ((Y2.out.block _ (heap_lt BB0.out) id).trans BB0.out); clear u) | (go_at_call 10; refine (fewE_any _ [v] _ (one_rep (w := w1) (t := 25) RV1.out ?_ ?_)).mono ?_; exact ((Upd.refl _ _).alloc _).drew; exact heap_alloc_new; rintro e wf ⟨rfl, u⟩; rw [F1.out]; have Y1 : Hid (Upd (fun _ => False) w1 wf) := hid ((((Upd.refl _ _).alloc _).drew).trans u); obtain ⟨y0, y1, y2, y3, y4, _⟩ := cells5 ((Y1.out.block _ (heap_lt BB1.out) id).trans BB1.out); obtain ⟨z0, z1, z2, z3, z4, _⟩ := cells5 ((Y1.out.block _ (heap_lt BB0.out) id).trans BB0.out); clear u))) | fail
    all_goals
      go_wp2_with fail
      go_ret
      exact ⟨rfl, U1.out.trans Y2.out⟩
  | true =>
  have F2 := hid hf2; clear hf2
  have VOK := hid (OK1.out F1.out); have XOK := hid (OK2.out F2.out)
  obtain ⟨kv, hkv⟩ : ∃ k, v.kind % 5 = k := ⟨_, rfl⟩
  obtain ⟨kx, hkx⟩ : ∃ k, x.kind % 5 = k := ⟨_, rfl⟩
  have HKV := hid hkv; have HKX := hid hkx
  clear hkv hkx
  by_cases hk : kv = kx
  · have hkb : (kv != kx) = false := by rw [hk]; simp
    have HK := hid hk
    clear hk
    go_cut [26] (fun s wx => s = .bool false ∧ Upd (fun _ => False) w1 wx)
    case first =>
      first | (go_region_with (first | (go_at_call 22; have tk := Y3; refine (kind_any x.kind x.n x.s a2 d2 _ c2 _ f2 KX.out _).mono ?_; rintro e wm ⟨rfl, u⟩; rw [HKX.out]; have Y4 : Hid (Upd (fun _ => False) w1 wm) := hid (Y3.out.trans u); clear u tk) | (go_at_call 22; refine (kind_any v.kind v.n v.s a1 d1 _ c1 _ f1 KV.out _).mono ?_; rintro e wk ⟨rfl, u⟩; rw [HKV.out]; have Y3 : Hid (Upd (fun _ => False) w1 wk) := hid (Y2.out.trans u); obtain ⟨y0, y1, y2, y3, y4, _⟩ := cells5 ((Y3.out.block _ (heap_lt BB1.out) id).trans BB1.out); obtain ⟨z0, z1, z2, z3, z4, _⟩ := cells5 ((Y3.out.block _ (heap_lt BB0.out) id).trans BB0.out); clear u) | (go_at_call 10; have tk := Y1; clear tk; refine (fewE_any _ [x] _ (one_rep (w := wf) (t := 25) (rep_keep RX1.out Y1.out) ?_ ?_)).mono ?_; exact (Upd.refl _ _).alloc _; exact heap_alloc_new; rintro e wg ⟨rfl, u⟩; rw [F2.out]; have Y2 : Hid (Upd (fun _ => False) w1 wg) := hid (Y1.out.trans (((Upd.refl _ _).alloc _).trans u)); obtain ⟨y0, y1, y2, y3, y4, _⟩ := cells5 ((Y2.out.block _ (heap_lt BB1.out) id).trans BB1.out); obtain ⟨z0, z1, z2, z3, z4, _⟩ := cells5 ((Y2.out.block _ (heap_lt BB0.out) id).trans BB0.out); clear u) | (go_at_call 10; refine (fewE_any _ [v] _ (one_rep (w := w1) (t := 25) RV1.out ?_ ?_)).mono ?_; exact ((Upd.refl _ _).alloc _).drew; exact heap_alloc_new; rintro e wf ⟨rfl, u⟩; rw [F1.out]; have Y1 : Hid (Upd (fun _ => False) w1 wf) := hid ((((Upd.refl _ _).alloc _).drew).trans u); obtain ⟨y0, y1, y2, y3, y4, _⟩ := cells5 ((Y1.out.block _ (heap_lt BB1.out) id).trans BB1.out); obtain ⟨z0, z1, z2, z3, z4, _⟩ := cells5 ((Y1.out.block _ (heap_lt BB0.out) id).trans BB0.out); clear u))) | fail
      all_goals
        go_wp2_with fail
        go_meet
        case rel => exact ⟨rfl, Y4.out⟩
    case rest =>
      obtain ⟨rfl, uc⟩ := hcut
      have UC := hid (U1.out.trans uc)
      have bb1 := (uc.block _ (heap_lt BB1.out) id).trans BB1.out
      have bb0 := (uc.block _ (heap_lt BB0.out) id).trans BB0.out
      have B1 := hid bb1; have B0 := hid bb0
      clear x0 x1 x2 x3 x4 v0 v1 v2 v3 v4 uc hkb BB1 BB0 RV1 RX1
      obtain ⟨x0, x1, x2, x3, x4, _⟩ := cells5 bb1
      obtain ⟨v0, v1, v2, v3, v4, _⟩ := cells5 bb0
      clear bb1 bb0
      have PX := hid (prefix_eq VOK.out XOK.out (by rw [HKV.out, HKX.out, HK.out]))
      obtain ⟨S, hS⟩ : ∃ S, writeF v = S := ⟨_, rfl⟩
      obtain ⟨T, hT⟩ : ∃ T, writeF x = T := ⟨_, rfl⟩
      have hS1 := writeF_len VOK.out.1 VOK.out.2
      have hT1 := writeF_len XOK.out.1 XOK.out.2
      have heq := equal_mk XOK.out.1 XOK.out.2 []
      rw [List.append_nil, hT] at heq
      rw [hS] at hS1 PX
      rw [hT] at hT1 PX
      have HS := hid hS; have HT := hid hT; have EQ := hid heq
      clear hS hT heq
      go_wp2_with fail
      refine (write_any v a1 d1 c1 f1 _ (HE.out.keep0 UC.out) VOK.out.1 (rep_keep LV.out UC.out) (rep_keep TV.out UC.out)).mono ?_
      rintro e w3 ⟨rfl, u⟩
      rw [HS.out]
      have U3 := hid (UC.out.trans u)
      have hb1 := (u.block _ (heap_lt B1.out) id).trans B1.out
      have BB1 := hid hb1
      clear x0 x1 x2 x3 x4 v0 v1 v2 v3 v4 u B1 B0
      obtain ⟨x0, x1, x2, x3, x4, _⟩ := cells5 hb1
      clear hb1
      go_wp2_with fail
      refine (write_any x a2 d2 c2 f2 _ (HE.out.keep0 U3.out) XOK.out.1 (rep_keep LX.out U3.out) (rep_keep TX.out U3.out)).mono ?_
      rintro e w4 ⟨rfl, u⟩
      rw [HT.out]
      have U4 := hid (U3.out.trans u)
      have hb1 := (u.block _ (heap_lt BB1.out) id).trans BB1.out
      have B1 := hid hb1
      clear x0 x1 x2 x3 x4 u BB1
      obtain ⟨x0, x1, x2, x3, x4, _⟩ := cells5 hb1
      clear hb1
      by_cases hlt : T.length < S.length
      · have hlti : (T.length : Int) < S.length := by omega
        have hltb : decide ((T.length : Int) < S.length) = true := decide_eq_true hlti
        clear hlt
        go_wp2_with fail
        go_ret
        exact ⟨rfl, U4.out⟩
      have hlti : (S.length : Int) ≤ T.length := by omega
      have hltb : decide ((T.length : Int) < S.length) = false := decide_eq_false (by omega)
      have hltn : decide (T.length < S.length) = false := decide_eq_false hlt
      have hmin : min (S.length : Int) T.length = S.length := by omega
      have hext : (ByteArray.mk T.toArray).extract 0 S.length = ⟨(T.take S.length).toArray⟩ := ext_take T S.length
      clear hlt
      by_cases he : T.take S.length = S
      · have hTS := PX.out he
        have EXT := hid hext
        subst hTS
        have hext2 : (ByteArray.mk T.toArray).extract 0 T.length = ⟨T.toArray⟩ := by rw [EXT.out, he]
        clear he hext EXT
        go_wp2_with fail
        refine (open_any T _).mono ?_
        rintro e w5 ⟨rfl, hr, u⟩
        have hb1 := (u.block _ (heap_lt B1.out) id).trans B1.out
        have HR := hid hr; have U5 := hid (U4.out.trans u); have HB := hid (Nat.le_trans HZ.out U4.out.size)
        have hw4 := hid (U4.out.size)
        clear x0 x1 x2 x3 x4 B1 u hr
        obtain ⟨x0, x1, x2, x3, x4, _⟩ := cells5 hb1
        clear hb1
        have hLX := hid (kInts.mono (A' := fun g => g < w5.heap.size ∧ g ≠ w4.heap.size) (kInts.keep LX.out (Same.of_upd U5.out fun _ _ => id)) fun g hg => ⟨Nat.lt_of_lt_of_le hg U5.out.size, fun e => Nat.lt_irrefl _ (Nat.lt_of_lt_of_le (e ▸ hg) hw4.out)⟩)
        have hTX := hid (kStrs.mono (A' := fun g => g < w5.heap.size ∧ g ≠ w4.heap.size) (kStrs.keep TX.out (Same.of_upd U5.out fun _ _ => id)) fun g hg => ⟨Nat.lt_of_lt_of_le hg U5.out.size, fun e => Nat.lt_irrefl _ (Nat.lt_of_lt_of_le (e ▸ hg) hw4.out)⟩)
        go_wp2_with fail
        refine (equal_any w4.heap.size ⟨T, false⟩ x a2 d2 c2 f2 _ (HE.out.keep0 U5.out) HR.out HB.out (by dsimp only; omega) (fun h => by cases h) XOK.out.1 hLX.out hTX.out).mono ?_
        rintro e w6 ⟨rfl, hr, u⟩
        rw [EQ.out]
        have U6 := hid (U5.out.comp u fun i hi e => by have := hw4.out; omega)
        clear x0 x1 x2 x3 x4 u hr
        go_wp2_with fail
        go_ret
        exact ⟨rfl, U6.out⟩
      · have heb : (T.take S.length == S) = false := beq_eq_false_iff_ne.2 he
        have heb2 : (T.take S.length != S) = true := by simpa using he
        generalize T.take S.length = S2 at *
        clear he
        go_wp2_with fail
        go_ret
        exact ⟨rfl, U4.out⟩
  · have hkb : (kv != kx) = true := by simpa using hk
    clear hk
    first | (go_region_with (first | (go_at_call 22; have tk := Y3; refine (kind_any x.kind x.n x.s a2 d2 _ c2 _ f2 KX.out _).mono ?_; rintro e wm ⟨rfl, u⟩; rw [HKX.out]; have Y4 : Hid (Upd (fun _ => False) w1 wm) := hid (Y3.out.trans u); clear u tk) | (go_at_call 22; refine (kind_any v.kind v.n v.s a1 d1 _ c1 _ f1 KV.out _).mono ?_; rintro e wk ⟨rfl, u⟩; rw [HKV.out]; have Y3 : Hid (Upd (fun _ => False) w1 wk) := hid (Y2.out.trans u); obtain ⟨y0, y1, y2, y3, y4, _⟩ := cells5 ((Y3.out.block _ (heap_lt BB1.out) id).trans BB1.out); obtain ⟨z0, z1, z2, z3, z4, _⟩ := cells5 ((Y3.out.block _ (heap_lt BB0.out) id).trans BB0.out); clear u) | (go_at_call 10; have tk := Y1; clear tk; refine (fewE_any _ [x] _ (one_rep (w := wf) (t := 25) (rep_keep RX1.out Y1.out) ?_ ?_)).mono ?_; exact (Upd.refl _ _).alloc _; exact heap_alloc_new; rintro e wg ⟨rfl, u⟩; rw [F2.out]; have Y2 : Hid (Upd (fun _ => False) w1 wg) := hid (Y1.out.trans (((Upd.refl _ _).alloc _).trans u)); obtain ⟨y0, y1, y2, y3, y4, _⟩ := cells5 ((Y2.out.block _ (heap_lt BB1.out) id).trans BB1.out); obtain ⟨z0, z1, z2, z3, z4, _⟩ := cells5 ((Y2.out.block _ (heap_lt BB0.out) id).trans BB0.out); clear u) | (go_at_call 10; refine (fewE_any _ [v] _ (one_rep (w := w1) (t := 25) RV1.out ?_ ?_)).mono ?_; exact ((Upd.refl _ _).alloc _).drew; exact heap_alloc_new; rintro e wf ⟨rfl, u⟩; rw [F1.out]; have Y1 : Hid (Upd (fun _ => False) w1 wf) := hid ((((Upd.refl _ _).alloc _).drew).trans u); obtain ⟨y0, y1, y2, y3, y4, _⟩ := cells5 ((Y1.out.block _ (heap_lt BB1.out) id).trans BB1.out); obtain ⟨z0, z1, z2, z3, z4, _⟩ := cells5 ((Y1.out.block _ (heap_lt BB0.out) id).trans BB0.out); clear u))) | fail
    all_goals
      go_wp2_with fail
      go_ret
      exact ⟨rfl, U1.out.trans Y4.out⟩
end Go.Proofs.YtdnbbjcpjhkedaaDoor
