/- Walk: what the text of a page says. -/
import Derived.Test.YtlefilfdomjkeaaGreatDoorStF
import Derived.Test.YtlefilfdomjkeaaGreatDoorFr
import Derived.Laws.ResultCell
namespace Go.Proofs.YtlefilfdomjkeaaGreatDoor
open Go.RowKit Go.Deep
def RdPost (s : List UInt8) (w : World) (en : Ending) (w' : World) : Prop := en = .returned (.tuple #[pgV (rdPg s), .bool (decide (rdOk s))]) ∧ Upd (fun _ => False) w w'
theorem rd_ret {s : List UInt8} {w w' : World} {pg : Pg} {b : Bool} (hp : rdPg s = pg) (hb : rdOk s ↔ b = true) (u : Upd (fun _ => False) w w') : RdPost s w (.returned (.tuple #[.agg (pgC pg), .bool b])) w' := by
  refine ⟨?_, u⟩
  rw [hp, show decide (rdOk s) = b from by cases b <;> simp [hb]]
  rfl
theorem numF_cast (r : RS) : ∃ k : Nat, (numF r).1 = (k : Int) ∧ (numF r).1.toNat = k := ⟨(numF r).1.toNat, (numF_nat r).symm, rfl⟩
theorem numF_len0 (r : RS) : (numF r).2.rest.length ≤ r.rest.length := Nat.le_trans (numberF_len _ _ _) (Nat.sub_le _ _)
theorem store_6 {w : World} {p : Nat} {pg : Pg} {t : TypeId} (h : w.heap[p]? = some (.cells (pgC pg) t (0, 0))) (l : List UInt8) :
    (w.setCell ⟨p, 6, none⟩ (.string ⟨l.toArray⟩)).heap[p]? = some (.cells (pgC { pg with bytes := l }) t (0, 0)) := by
  rw [heap_setCell_same (p := ⟨p, 6, none⟩) rfl h]; rfl
theorem zero_cells {X y : World} {t : Nat} {T : TypeId} (h : X.heap[t]? = some (.cells (pgC ⟨0, 0, 0, 0, 0, 0, []⟩) T (0, 0))) (u : Upd (fun _ => False) X y) :
    (y.cell? ⟨t, 0, none⟩ = some (.int .i64 0) ∧ y.cell? ⟨t, 1, none⟩ = some (.int .i64 0) ∧ y.cell? ⟨t, 2, none⟩ = some (.int .i64 0) ∧ y.cell? ⟨t, 3, none⟩ = some (.int .i64 0) ∧ y.cell? ⟨t, 4, none⟩ = some (.int .i64 0) ∧ y.cell? ⟨t, 5, none⟩ = some (.int .i64 0) ∧ y.cell? ⟨t, 6, none⟩ = some (.string ⟨#[]⟩)) ∧ ∀ o, y.frozen? ⟨t, o, none⟩ = false := by
  have tb := (u.block t (heap_lt h) id).trans h
  exact ⟨⟨by rw [cell_of_block tb]; rfl, by rw [cell_of_block tb]; rfl, by rw [cell_of_block tb]; rfl, by rw [cell_of_block tb]; rfl, by rw [cell_of_block tb]; rfl, by rw [cell_of_block tb]; rfl, by rw [cell_of_block tb]; rfl⟩, fun o => frozen_of_block tb⟩
abbrev put7 (y : World) (t : Nat) (pg : Pg) : World := (((((((y.setCell ⟨t, 0, none⟩ (.int .i64 pg.kind)).setCell ⟨t, 1, none⟩ (.int .i64 pg.pos)).setCell ⟨t, 2, none⟩ (.int .i64 pg.number)).setCell ⟨t, 3, none⟩ (.int .i64 pg.diff)).setCell ⟨t, 4, none⟩ (.int .i64 pg.offset)).setCell ⟨t, 5, none⟩ (.int .i64 pg.rest)).setCell ⟨t, 6, none⟩ (.string ⟨pg.bytes.toArray⟩))
theorem rd_store {w X y : World} {t : Nat} {pg z : Pg} {T : TypeId} (h : X.heap[t]? = some (.cells (pgC z) T (0, 0))) (u : Upd (fun _ => False) X y) (v : Upd (fun _ => False) w X) (ht : w.heap.size ≤ t) :
    Upd (fun _ => False) w (put7 y t pg) ∧ Upd (fun k => k = t) X (put7 y t pg) ∧ (put7 y t pg).heap[t]? = some (.cells (pgC pg) T (0, 0)) := by
  have u7 : Upd (fun k => k = t) y (put7 y t pg) := (((((((Upd.refl (· = t) y).at_ _ _).at_ _ _).at_ _ _).at_ _ _).at_ _ _).at_ _ _).at_ _ _
  refine ⟨(v.trans u).comp u7 fun i hi e => ?_, (u.mono fun _ h => h.elim).trans u7, ?_⟩
  · subst e; omega
  · have hy := (u.block t (heap_lt h) id).trans h
    simp [heap_setCell, Obj.setAt, hy]
def Cells7 (w : World) (b : Nat) (p : Pg) : Prop := w.cell? ⟨b, 0, none⟩ = some (.int .i64 p.kind) ∧ w.cell? ⟨b, 1, none⟩ = some (.int .i64 p.pos) ∧ w.cell? ⟨b, 2, none⟩ = some (.int .i64 p.number) ∧ w.cell? ⟨b, 3, none⟩ = some (.int .i64 p.diff) ∧ w.cell? ⟨b, 4, none⟩ = some (.int .i64 p.offset) ∧ w.cell? ⟨b, 5, none⟩ = some (.int .i64 p.rest) ∧ w.cell? ⟨b, 6, none⟩ = some (.string ⟨p.bytes.toArray⟩)
set_option maxRecDepth 100000 in
set_option maxHeartbeats 8000000 in
theorem sread_any (s : List UInt8) (w : World) (E : Env w) (hz : 6 ≤ w.heap.size) (hl : s.length ≤ 10000000) :
    Calls Tryz.prog 34 #[.string ⟨s.toArray⟩] w (RdPost s w) := by
  have HE := hid E; have HZ := hid hz; have HL := hid hl
  clear E hz hl
  go_enter Tryz.func34, Tryz.ntmps34
  go_wp2_with fail
  obtain ⟨W0, hW0⟩ : ∃ W0, W0 = w.alloc (.cells #[.int .i64 0, .int .i64 0, .int .i64 0, .int .i64 0, .int .i64 0, .int .i64 0, .string ⟨#[]⟩] 75 (0, 0)) := ⟨_, rfl⟩
  have u0 : Upd (fun _ => False) w W0 := by rw [hW0]; exact (Upd.refl _ _).alloc _
  have hs0 : W0.heap.size = w.heap.size + 1 := by rw [hW0]; simp
  have hb0 : W0.heap[w.heap.size]? = some (.cells (pgC ⟨0, 0, 0, 0, 0, 0, []⟩) 75 (0, 0)) := by rw [hW0]; exact heap_alloc_new
  rw [← hW0]
  refine (open_any s _).mono ?_
  rintro en x0 ⟨rfl, hr, u⟩
  rw [hs0] at hr
  obtain ⟨rb, hrb⟩ : ∃ x, w.heap.size + 1 = x := ⟨_, rfl⟩
  rw [hrb] at hr
  have HRB := hid (show 6 ≤ rb by have := HZ.out; omega)
  have RBW := hid (show w.heap.size < rb by omega)
  have T0 := hid ((u.block _ (heap_lt hb0) id).trans hb0)
  have V0 := hid (u0.trans u)
  obtain ⟨q0, hq0⟩ : ∃ q : RS, q = ⟨s, false⟩ := ⟨_, rfl⟩
  have LL0 := hid (show q0.rest.length ≤ 10000000 by rw [hq0]; exact HL.out)
  have D0 := hid (show RdAt x0 rb q0 by rw [hq0]; exact hr)
  have HQ0 := hid hq0
  rw [hs0, hrb]
  clear u0 hs0 hb0 hW0 u hr hq0 hrb
  go_wp2_with fail
  obtain ⟨k1, hk1, hn1⟩ := numF_cast q0
  obtain ⟨q1, hq1⟩ : ∃ q, (numF q0).2 = q := ⟨_, rfl⟩
  have I1 := hid (show I64 (k1 : Int) by rw [← hk1]; exact numberF_i64 _ _ _)
  refine (numR_any rb _ _ (HE.out.keep0 V0.out) D0.out HRB.out LL0.out).mono ?_
  rintro en x1 ⟨rfl, hr, u⟩
  rw [hq1] at hr
  rw [hk1]
  have LL1 := hid (show q1.rest.length ≤ 10000000 by rw [← hq1]; exact Nat.le_trans (numF_len0 _) LL0.out)
  have D1 := hid hr
  have V1 := hid (V0.out.comp u fun i hi e => by have := RBW.out; omega)
  have T1 := hid ((u.block _ (heap_lt T0.out) fun e => by have := RBW.out; omega).trans T0.out)
  have Q1 := hid hq1; have N1 := hid hn1
  clear hr u hq1 hk1 hn1 LL0 D0 V0 T0
  go_wp2_with fail
  obtain ⟨k2, hk2, hn2⟩ := numF_cast q1
  obtain ⟨q2, hq2⟩ : ∃ q, (numF q1).2 = q := ⟨_, rfl⟩
  have I2 := hid (show I64 (k2 : Int) by rw [← hk2]; exact numberF_i64 _ _ _)
  refine (numR_any rb _ _ (HE.out.keep0 V1.out) D1.out HRB.out LL1.out).mono ?_
  rintro en x2 ⟨rfl, hr, u⟩
  rw [hq2] at hr
  rw [hk2]
  have LL2 := hid (show q2.rest.length ≤ 10000000 by rw [← hq2]; exact Nat.le_trans (numF_len0 _) LL1.out)
  have D2 := hid hr
  have V2 := hid (V1.out.comp u fun i hi e => by have := RBW.out; omega)
  have T2 := hid ((u.block _ (heap_lt T1.out) fun e => by have := RBW.out; omega).trans T1.out)
  have Q2 := hid hq2; have N2 := hid hn2
  clear hr u hq2 hk2 hn2 LL1 D1 V1 T1
  go_wp2_with fail
  obtain ⟨k3, hk3, hn3⟩ := numF_cast q2
  obtain ⟨q3, hq3⟩ : ∃ q, (numF q2).2 = q := ⟨_, rfl⟩
  have I3 := hid (show I64 (k3 : Int) by rw [← hk3]; exact numberF_i64 _ _ _)
  refine (numR_any rb _ _ (HE.out.keep0 V2.out) D2.out HRB.out LL2.out).mono ?_
  rintro en x3 ⟨rfl, hr, u⟩
  rw [hq3] at hr
  rw [hk3]
  have LL3 := hid (show q3.rest.length ≤ 10000000 by rw [← hq3]; exact Nat.le_trans (numF_len0 _) LL2.out)
  have D3 := hid hr
  have V3 := hid (V2.out.comp u fun i hi e => by have := RBW.out; omega)
  have T3 := hid ((u.block _ (heap_lt T2.out) fun e => by have := RBW.out; omega).trans T2.out)
  have Q3 := hid hq3; have N3 := hid hn3
  clear hr u hq3 hk3 hn3 LL2 D2 V2 T2
  go_wp2_with fail
  obtain ⟨k4, hk4, hn4⟩ := numF_cast q3
  obtain ⟨q4, hq4⟩ : ∃ q, (numF q3).2 = q := ⟨_, rfl⟩
  have I4 := hid (show I64 (k4 : Int) by rw [← hk4]; exact numberF_i64 _ _ _)
  refine (numR_any rb _ _ (HE.out.keep0 V3.out) D3.out HRB.out LL3.out).mono ?_
  rintro en x4 ⟨rfl, hr, u⟩
  rw [hq4] at hr
  rw [hk4]
  have LL4 := hid (show q4.rest.length ≤ 10000000 by rw [← hq4]; exact Nat.le_trans (numF_len0 _) LL3.out)
  have D4 := hid hr
  have V4 := hid (V3.out.comp u fun i hi e => by have := RBW.out; omega)
  have T4 := hid ((u.block _ (heap_lt T3.out) fun e => by have := RBW.out; omega).trans T3.out)
  have Q4 := hid hq4; have N4 := hid hn4
  clear hr u hq4 hk4 hn4 LL3 D3 V3 T3
  go_wp2_with fail
  obtain ⟨k5, hk5, hn5⟩ := numF_cast q4
  obtain ⟨q5, hq5⟩ : ∃ q, (numF q4).2 = q := ⟨_, rfl⟩
  have I5 := hid (show I64 (k5 : Int) by rw [← hk5]; exact numberF_i64 _ _ _)
  refine (numR_any rb _ _ (HE.out.keep0 V4.out) D4.out HRB.out LL4.out).mono ?_
  rintro en x5 ⟨rfl, hr, u⟩
  rw [hq5] at hr
  rw [hk5]
  have LL5 := hid (show q5.rest.length ≤ 10000000 by rw [← hq5]; exact Nat.le_trans (numF_len0 _) LL4.out)
  have D5 := hid hr
  have V5 := hid (V4.out.comp u fun i hi e => by have := RBW.out; omega)
  have T5 := hid ((u.block _ (heap_lt T4.out) fun e => by have := RBW.out; omega).trans T4.out)
  have Q5 := hid hq5; have N5 := hid hn5
  clear hr u hq5 hk5 hn5 LL4 D4 V4 T4
  go_wp2_with fail
  obtain ⟨k6, hk6, hn6⟩ := numF_cast q5
  obtain ⟨q6, hq6⟩ : ∃ q, (numF q5).2 = q := ⟨_, rfl⟩
  have I6 := hid (show I64 (k6 : Int) by rw [← hk6]; exact numberF_i64 _ _ _)
  refine (numR_any rb _ _ (HE.out.keep0 V5.out) D5.out HRB.out LL5.out).mono ?_
  rintro en x6 ⟨rfl, hr, u⟩
  rw [hq6] at hr
  rw [hk6]
  have LL6 := hid (show q6.rest.length ≤ 10000000 by rw [← hq6]; exact Nat.le_trans (numF_len0 _) LL5.out)
  have D6 := hid hr
  have V6 := hid (V5.out.comp u fun i hi e => by have := RBW.out; omega)
  have T6 := hid ((u.block _ (heap_lt T5.out) fun e => by have := RBW.out; omega).trans T5.out)
  have Q6 := hid hq6; have N6 := hid hn6
  clear hr u hq6 hk6 hn6 LL5 D5 V5 T5
  obtain ⟨XA, hXA⟩ : ∃ XA, XA = x6.alloc (.cells (pgC ⟨k1, k2, k3, k4, k5, k6, []⟩) 75 (0, 0)) := ⟨_, rfl⟩
  have ua : Upd (fun _ => False) x6 XA := by rw [hXA]; exact (Upd.refl _ _).alloc _
  have hb : XA.heap[x6.heap.size]? = some (.cells (pgC ⟨k1, k2, k3, k4, k5, k6, []⟩) 75 (0, 0)) := by rw [hXA]; exact heap_alloc_new
  obtain ⟨eb, heb⟩ : ∃ x, x6.heap.size = x := ⟨_, rfl⟩
  have EBL := hid (show rb < eb by rw [← heb]; exact heap_lt D6.out)
  rw [heb] at hb
  have EB := hid hb
  have D6 := hid (D6.out.upd ua id)
  have V6 := hid (V6.out.trans ua)
  have T6 := hid ((ua.block _ (heap_lt T6.out) id).trans T6.out)
  have HXA := hid hXA
  clear ua hb hXA
  go_wp2_with fail
  rw [show x6.alloc _ = XA from HXA.out.symm]
  try rw [heb]
  clear HXA heb
  refine (rest_any rb _ _ D6.out).mono ?_
  rintro en x7 ⟨rfl, hr, u⟩
  have EB7 := hid ((u.block _ (heap_lt EB.out) (Nat.ne_of_gt EBL.out)).trans EB.out)
  have V7 := hid (V6.out.comp u fun i hi e => by have := RBW.out; omega)
  have T7 := hid ((u.block _ (heap_lt T6.out) fun e => by have := RBW.out; omega).trans T6.out)
  have LLR := hid LL6.out
  clear hr u EB T6 V6 D6 LL6
  obtain ⟨X8, hX8⟩ : ∃ X, X = x7.setCell ⟨eb, 6, none⟩ (.string ⟨q6.rest.toArray⟩) := ⟨_, rfl⟩
  have u8 : Upd (· = eb) x7 X8 := by rw [hX8]; exact (Upd.refl _ _).at_ _ _
  have EB8 := hid (show X8.heap[eb]? = some (.cells (pgC ⟨k1, k2, k3, k4, k5, k6, q6.rest⟩) 75 (0, 0)) by rw [hX8]; exact store_6 EB7.out q6.rest)
  have V8 := hid (V7.out.comp u8 fun i hi e => by have := RBW.out; have := EBL.out; omega)
  have T8 := hid ((u8.block _ (heap_lt T7.out) fun e => by have := RBW.out; have := EBL.out; omega).trans T7.out)
  have fz := frozen_of_block (o := 6) EB7.out
  have cc6 : x7.cell? ⟨eb, 6, none⟩ = some (.string ⟨#[]⟩) := by rw [cell_of_block EB7.out]; rfl
  have FT := hid (fun o => frozen_of_block (o := o) T8.out)
  have HX8 := hid hX8
  have PG := hid (show rdPg s = ⟨k1, k2, k3, k4, k5, k6, q6.rest⟩ by
    unfold rdPg
    rw [← HQ0.out]
    dsimp only
    rw [Q1.out, Q2.out, Q3.out, Q4.out, Q5.out, Q6.out, N1.out, N2.out, N3.out, N4.out, N5.out, N6.out])
  have PI := hid (show PgI ⟨k1, k2, k3, k4, k5, k6, q6.rest⟩ from ⟨I1.out, I2.out, I3.out, I4.out, I5.out, I6.out⟩)
  clear u8 hX8 V7 T7
  obtain ⟨dr, hdr⟩ : ∃ b : Bool, decide (k1 = 1 ∧ k5 = 0 ∧ k6 = 0) = b := ⟨_, rfl⟩
  obtain ⟨bl, hbl⟩ : ∃ l, q6.rest = l := ⟨_, rfl⟩
  rw [hbl] at HX8 EB8 PG PI
  obtain ⟨pg, hpg⟩ : ∃ p : Pg, p = ⟨k1, k2, k3, k4, k5, k6, bl⟩ := ⟨_, rfl⟩
  have hlb : bl.length ≤ 10000000 := by rw [← hbl]; exact LLR.out
  have P1 : pg.kind = k1 ∧ pg.pos = k2 ∧ pg.number = k3 ∧ pg.diff = k4 ∧ pg.offset = k5 ∧ pg.rest = k6 ∧ pg.bytes = bl := by rw [hpg]; exact ⟨rfl, rfl, rfl, rfl, rfl, rfl, rfl⟩
  rw [← hpg] at EB8 PG PI
  obtain ⟨hd, hhd⟩ : ∃ l, hdrP pg = l := ⟨_, rfl⟩
  obtain ⟨T, hT⟩ : ∃ l, hd ++ bl = l := ⟨_, rfl⟩
  have hlh : hd.length ≤ 126 := by rw [← hhd]; exact hdr_126 PI.out
  have a1 : ∀ w, (Op.stringOp .add ⟨hd.toArray⟩ ⟨bl.toArray⟩).run Tryz.prog w = .ok (.string ⟨T.toArray⟩) w := fun w => by rw [← hT]; exact add_lists _ _ (by omega) w
  obtain ⟨rm, hrm⟩ : ∃ r, roomP pg = r := ⟨_, rfl⟩
  have OK := hid (show rdOk s ↔ T = s ∧ (k1 = 0 ∨ dr = true) ∧ k4 ≤ k3 ∧ (bl.length : Int) = rm by
    unfold rdOk FormP txtP
    rw [PG.out, hhd, P1.2.2.2.2.2.2, hT, hrm, P1.1, P1.2.2.1, P1.2.2.2.1, P1.2.2.2.2.1, P1.2.2.2.2.2.1, ← hdr, decide_eq_true_iff])
  have HH := hid (fun (wq : World) (u : Upd (fun _ => False) X8 wq) => (show Calls Tryz.prog 42 #[.agg (pgC pg)] wq fun e w' => e = .returned (.string ⟨hd.toArray⟩) ∧ Upd (fun _ => False) wq w' from by rw [← hhd]; exact header_any pg PI.out wq ((HE.out.keep0 V8.out).keep0 u)))
  have HM := hid (fun (wq : World) (u : Upd (fun _ => False) X8 wq) => (show Calls Tryz.prog 43 #[.agg (pgC pg)] wq fun e w' => e = .returned (.int .i64 rm) ∧ Upd (fun _ => False) wq w' from by rw [← hrm]; exact room_any pg PI.out wq ((HE.out.keep0 V8.out).keep0 u)))
  have HC7 := hid (show ∀ wq, Upd (fun k => k = w.heap.size) X8 wq → Cells7 wq eb pg from fun wq u => by
    have h := pg_cells ((u.block _ (heap_lt EB8.out) (fun e => by have := RBW.out; have := EBL.out; omega)).trans EB8.out)
    exact h)
  have TB := hid T8.out
  have pc : pgC pg = #[.int .i64 k1, .int .i64 k2, .int .i64 k3, .int .i64 k4, .int .i64 k5, .int .i64 k6, .string ⟨bl.toArray⟩] := by rw [hpg]
  rw [pc] at HH HM
  have hS0 : Cells7 X8 eb pg := HC7.out _ (Upd.refl _ _)
  unfold Cells7 at hS0 HC7
  rw [P1.1, P1.2.1, P1.2.2.1, P1.2.2.2.1, P1.2.2.2.2.1, P1.2.2.2.2.2.1, P1.2.2.2.2.2.2] at hS0 HC7
  have HPC := hid pc; have HDR := hid hdr
  obtain ⟨c0, c1, c2, c3, c4, c5, c6⟩ := hS0
  clear hlb hlh hpg hhd hT hrm P1 pc hdr LLR EB7
  go_upto_region 4 with (fail)
  try rw [hbl]
  rw [← HX8.out]
  clear hbl HX8 fz cc6
  go_cut [6] (fun s6 wx => s6 = .bool dr ∧ X8 = wx)
  case first =>
    by_cases d1 : k1 = 1
    · by_cases d2 : k5 = 0
      · by_cases d3 : k6 = 0
        · have g1 : ((k1 : Int) == 1) = true := by rw [d1]; rfl
          have g2 : ((k5 : Int) == 0) = true := by rw [d2]; rfl
          have g3 : ((k6 : Int) == 0) = true := by rw [d3]; rfl
          have r : dr = true := by rw [← HDR.out]; exact decide_eq_true ⟨d1, d2, d3⟩
          have R := hid r
          subst d1 d2 d3
          clear r
          go_wp2_with fail
          go_meet
          case rel => exact ⟨by rw [R.out], rfl⟩
        · have g1 : ((k1 : Int) == 1) = true := by rw [d1]; rfl
          have g2 : ((k5 : Int) == 0) = true := by rw [d2]; rfl
          have g3 : ((k6 : Int) == 0) = false := beq_eq_false_iff_ne.2 (by omega)
          have r : dr = false := by rw [← HDR.out]; exact decide_eq_false fun h => d3 h.2.2
          have R := hid r
          clear r
          subst d1 d2
          go_wp2_with fail
          go_meet
          case rel => exact ⟨by rw [R.out], rfl⟩
      · have g1 : ((k1 : Int) == 1) = true := by rw [d1]; rfl
        have g2 : ((k5 : Int) == 0) = false := beq_eq_false_iff_ne.2 (by omega)
        have r : dr = false := by rw [← HDR.out]; exact decide_eq_false fun h => d2 h.2.1
        have R := hid r
        clear r
        subst d1
        go_wp2_with fail
        go_meet
        case rel => exact ⟨by rw [R.out], rfl⟩
    · have g1 : ((k1 : Int) == 1) = false := beq_eq_false_iff_ne.2 (by omega)
      have r : dr = false := by rw [← HDR.out]; exact decide_eq_false fun h => d1 h.1
      have R := hid r
      clear r
      go_wp2_with fail
      go_meet
      case rel => exact ⟨by rw [R.out], rfl⟩
  case rest =>
    obtain ⟨rfl, hwc⟩ := hcut
    subst hwc
    go_upto_region 5 with (fail)
    by_cases hTs : T = s
    case neg =>
      have g0 : (T == s) = false := beq_eq_false_iff_ne.2 hTs
      have g00 : decide (T = s) = false := decide_eq_false hTs
      refine wp_region_g (fun w' => w'.cell? ⟨eb, 0, none⟩ = some (.int .i64 k1) ∧ w'.cell? ⟨eb, 1, none⟩ = some (.int .i64 k2) ∧ w'.cell? ⟨eb, 2, none⟩ = some (.int .i64 k3) ∧ w'.cell? ⟨eb, 3, none⟩ = some (.int .i64 k4) ∧ w'.cell? ⟨eb, 4, none⟩ = some (.int .i64 k5) ∧ w'.cell? ⟨eb, 5, none⟩ = some (.int .i64 k6) ∧ w'.cell? ⟨eb, 6, none⟩ = some (.string ⟨bl.toArray⟩)) 32 (by kernel_rfl) ?_
      have hS := HC7.out X8.drew ((Upd.refl (fun k => k = w.heap.size) X8).drew)
      refine g_take (i := 0) rfl (by kernel_rfl) (by kernel_rfl) (by kernel_rfl) (by kernel_rfl) (fun _ _ _ h => h) (Or.inl ⟨by kernel_rfl, by (intro w hSw; (try dsimp only at hSw); obtain ⟨z0, z1, z2, z3, z4, z5, z6⟩ := hSw; go_simp; try with_reducible rfl)⟩) hS ?_
      (try go_frame)
      refine g_take (i := 1) rfl (by kernel_rfl) (by kernel_rfl) (by kernel_rfl) (by kernel_rfl) (fun _ _ _ h => h) (Or.inl ⟨by kernel_rfl, by (intro w hSw; (try dsimp only at hSw); obtain ⟨z0, z1, z2, z3, z4, z5, z6⟩ := hSw; go_simp; try with_reducible rfl)⟩) hS ?_
      (try go_frame)
      refine g_take0 (i := 3) rfl (by kernel_rfl) (by kernel_rfl) (by kernel_rfl) (by decide) (fun _ _ _ h => h) (Or.inl ⟨by kernel_rfl, by (intro w _; go_simp; try with_reducible rfl)⟩) (fun _ => hS) ?_
      (try go_frame)
      refine g_take (i := 4) rfl (by kernel_rfl) (by kernel_rfl) (by kernel_rfl) (by kernel_rfl) (fun _ _ _ h => h) (Or.inl ⟨by kernel_rfl, by (intro w hSw; (try dsimp only at hSw); obtain ⟨z0, z1, z2, z3, z4, z5, z6⟩ := hSw; go_simp; try with_reducible rfl)⟩) hS ?_
      (try go_frame)
      refine g_take0 (i := 6) rfl (by kernel_rfl) (by kernel_rfl) (by kernel_rfl) (by decide) (fun _ _ _ h => h) (Or.inl ⟨by kernel_rfl, by (intro w _; go_simp; try with_reducible rfl)⟩) (fun _ => hS) ?_
      (try go_frame)
      refine g_op (i := 2) (by kernel_rfl) rfl ?_
      go_wp2_with fail
      refine (HH.out X8.drew (Upd.refl (fun _ => False) X8).drew).mono ?_
      rintro en y1 ⟨rfl, u⟩
      have Y1 := hid ((Upd.refl (fun _ => False) X8).drew.trans u)
      have hS1 := HC7.out y1 (Y1.out.mono fun _ h => h.elim)
      clear u hS
      go_wp2_with fail
      refine ⟨fun _ => hS1, ?_⟩
      (try go_frame)
      refine g_take0 (i := 5) rfl (by kernel_rfl) (by kernel_rfl) (by kernel_rfl) (by decide) (fun _ _ _ h => h) (Or.inl ⟨by kernel_rfl, by (intro w _; go_simp; try with_reducible rfl)⟩) (fun _ => hS1) ?_
      (try go_frame)
      refine g_take0 (i := 7) (v := .bool false) rfl (by kernel_rfl) (by kernel_rfl) (by kernel_rfl) (by decide) (fun _ _ _ h => h) (Or.inl ⟨by kernel_rfl, by (intro w _; go_simp; try with_reducible rfl)⟩) (fun _ => hS1) ?_
      (try go_frame)
      refine g_take0 (i := 8) (v := .bool false) rfl (by kernel_rfl) (by kernel_rfl) (by kernel_rfl) (by decide) (fun _ _ _ h => h) (Or.inl ⟨by kernel_rfl, by (intro w _; go_simp; try with_reducible rfl)⟩) (fun _ => hS1) ?_
      (try go_frame)
      refine g_take0 (i := 9) rfl (by kernel_rfl) (by kernel_rfl) (by kernel_rfl) (by decide) (fun _ _ _ h => h) (Or.inr ⟨by kernel_rfl, rfl⟩) (fun _ => hS1) ?_
      (try go_frame)
      refine g_take0 (i := 10) rfl (by kernel_rfl) (by kernel_rfl) (by kernel_rfl) (by decide) (fun _ _ _ h => h) (Or.inr ⟨by kernel_rfl, rfl⟩) (fun _ => hS1) ?_
      (try go_frame)
      refine g_take0 (i := 11) rfl (by kernel_rfl) (by kernel_rfl) (by kernel_rfl) (by decide) (fun _ _ _ h => h) (Or.inr ⟨by kernel_rfl, rfl⟩) (fun _ => hS1) ?_
      (try go_frame)
      refine g_take0 (i := 12) rfl (by kernel_rfl) (by kernel_rfl) (by kernel_rfl) (by decide) (fun _ _ _ h => h) (Or.inr ⟨by kernel_rfl, rfl⟩) (fun _ => hS1) ?_
      (try go_frame)
      refine g_take0 (i := 13) rfl (by kernel_rfl) (by kernel_rfl) (by kernel_rfl) (by decide) (fun _ _ _ h => h) (Or.inr ⟨by kernel_rfl, rfl⟩) (fun _ => hS1) ?_
      (try go_frame)
      refine g_take0 (i := 14) rfl (by kernel_rfl) (by kernel_rfl) (by kernel_rfl) (by decide) (fun _ _ _ h => h) (Or.inr ⟨by kernel_rfl, rfl⟩) (fun _ => hS1) ?_
      (try go_frame)
      refine g_take0 (i := 15) rfl (by kernel_rfl) (by kernel_rfl) (by kernel_rfl) (by decide) (fun _ _ _ h => h) (Or.inl ⟨by kernel_rfl, by (intro w _; go_simp; try with_reducible rfl)⟩) (fun _ => hS1) ?_
      (try go_frame)
      refine g_take0 (i := 16) rfl (by kernel_rfl) (by kernel_rfl) (by kernel_rfl) (by decide) (fun _ _ _ h => h) (Or.inl ⟨by kernel_rfl, by (intro w _; go_simp; try with_reducible rfl)⟩) (fun _ => hS1) ?_
      (try go_frame)
      refine g_take0 (i := 17) rfl (by kernel_rfl) (by kernel_rfl) (by kernel_rfl) (by decide) (fun _ _ _ h => h) (Or.inr ⟨by kernel_rfl, rfl⟩) (fun _ => hS1) ?_
      (try go_frame)
      refine g_take0 (i := 18) rfl (by kernel_rfl) (by kernel_rfl) (by kernel_rfl) (by decide) (fun _ _ _ h => h) (Or.inr ⟨by kernel_rfl, rfl⟩) (fun _ => hS1) ?_
      (try go_frame)
      refine g_take0 (i := 19) rfl (by kernel_rfl) (by kernel_rfl) (by kernel_rfl) (by decide) (fun _ _ _ h => h) (Or.inr ⟨by kernel_rfl, rfl⟩) (fun _ => hS1) ?_
      (try go_frame)
      refine g_take0 (i := 20) rfl (by kernel_rfl) (by kernel_rfl) (by kernel_rfl) (by decide) (fun _ _ _ h => h) (Or.inr ⟨by kernel_rfl, rfl⟩) (fun _ => hS1) ?_
      (try go_frame)
      refine g_take0 (i := 21) rfl (by kernel_rfl) (by kernel_rfl) (by kernel_rfl) (by decide) (fun _ _ _ h => h) (Or.inr ⟨by kernel_rfl, rfl⟩) (fun _ => hS1) ?_
      (try go_frame)
      refine g_take0 (i := 22) rfl (by kernel_rfl) (by kernel_rfl) (by kernel_rfl) (by decide) (fun _ _ _ h => h) (Or.inl ⟨by kernel_rfl, by (intro w _; go_simp; try with_reducible rfl)⟩) (fun _ => hS1) ?_
      (try go_frame)
      refine g_take0 (i := 23) rfl (by kernel_rfl) (by kernel_rfl) (by kernel_rfl) (by decide) (fun _ _ _ h => h) (Or.inl ⟨by kernel_rfl, by (intro w _; go_simp; try with_reducible rfl)⟩) (fun _ => hS1) ?_
      (try go_frame)
      refine g_take0 (i := 24) rfl (by kernel_rfl) (by kernel_rfl) (by kernel_rfl) (by decide) (fun _ _ _ h => h) (Or.inr ⟨by kernel_rfl, rfl⟩) (fun _ => hS1) ?_
      (try go_frame)
      refine g_take0 (i := 25) rfl (by kernel_rfl) (by kernel_rfl) (by kernel_rfl) (by decide) (fun _ _ _ h => h) (Or.inr ⟨by kernel_rfl, rfl⟩) (fun _ => hS1) ?_
      (try go_frame)
      refine g_take0 (i := 26) rfl (by kernel_rfl) (by kernel_rfl) (by kernel_rfl) (by decide) (fun _ _ _ h => h) (Or.inr ⟨by kernel_rfl, rfl⟩) (fun _ => hS1) ?_
      (try go_frame)
      refine g_take0 (i := 27) rfl (by kernel_rfl) (by kernel_rfl) (by kernel_rfl) (by decide) (fun _ _ _ h => h) (Or.inr ⟨by kernel_rfl, rfl⟩) (fun _ => hS1) ?_
      (try go_frame)
      refine g_skip (i := 28) (by kernel_rfl) rfl (by kernel_rfl) ⟨fun _ => hS1, ?_⟩
      (try go_frame)
      refine g_take0 (i := 29) rfl (by kernel_rfl) (by kernel_rfl) (by kernel_rfl) (by decide) (fun _ _ _ h => h) (Or.inr ⟨by kernel_rfl, rfl⟩) (fun _ => hS1) ?_
      (try go_frame)
      refine g_take0 (i := 30) rfl (by kernel_rfl) (by kernel_rfl) (by kernel_rfl) (by decide) (fun _ _ _ h => h) (Or.inl ⟨by kernel_rfl, by (intro w _; go_simp; try with_reducible rfl)⟩) (fun _ => hS1) ?_
      (try go_frame)
      have ZC := hid (zero_cells TB.out Y1.out)
      have z0 := ZC.out.1.1
      have z1 := ZC.out.1.2.1
      have z2 := ZC.out.1.2.2.1
      have z3 := ZC.out.1.2.2.2.1
      have z4 := ZC.out.1.2.2.2.2.1
      have z5 := ZC.out.1.2.2.2.2.2.1
      have z6 := ZC.out.1.2.2.2.2.2.2
      have zf := ZC.out.2
      have RS := hid (rd_store (pg := ⟨k1, k2, k3, k4, k5, k6, bl⟩) TB.out Y1.out V8.out (Nat.le_refl _))
      have HS9 := hid (HC7.out _ RS.out.2.1)
      refine g_op (i := 31) (by kernel_rfl) rfl ?_
      go_wp2_with fail
      refine ⟨fun _ => HS9.out, ?_⟩
      (try go_frame)
      refine g_op (i := 32) (by kernel_rfl) rfl ?_
      go_wp2_with fail
      refine ⟨fun _ => HS9.out, ?_⟩
      (try go_frame)
      refine g_done (by kernel_rfl) ?_
      clear z0 z1 z2 z3 z4 z5 z6 zf HS9 c0 c1 c2 c3 c4 c5 c6
      obtain ⟨WF, hWF⟩ : ∃ WF, put7 y1 w.heap.size ⟨k1, k2, k3, k4, k5, k6, bl⟩ = WF := ⟨_, rfl⟩
      have RS := RS.out
      rw [hWF] at RS
      rw [show (((((((y1.setCell ⟨w.heap.size, 0, none⟩ (.int .i64 k1)).setCell ⟨w.heap.size, 1, none⟩ (.int .i64 k2)).setCell ⟨w.heap.size, 2, none⟩ (.int .i64 k3)).setCell ⟨w.heap.size, 3, none⟩ (.int .i64 k4)).setCell ⟨w.heap.size, 4, none⟩ (.int .i64 k5)).setCell ⟨w.heap.size, 5, none⟩ (.int .i64 k6)).setCell ⟨w.heap.size, 6, none⟩ (.string ⟨bl.toArray⟩)) = WF from hWF]
      clear hWF
      obtain ⟨z0, z1, z2, z3, z4, z5, z6⟩ := pg_cells RS.2.2
      have V9 := hid RS.1
      clear RS
      go_wp2_with fail
      refine bodyPost_ret (v := .tuple #[.agg #[.int .i64 k1, .int .i64 k2, .int .i64 k3, .int .i64 k4, .int .i64 k5, .int .i64 k6, .string ⟨bl.toArray⟩], .bool false]) (by rw [results_cell_tmp rfl]; go_simp) rfl ?_
      rw [← HPC.out]
      exact rd_ret PG.out (OK.out.trans ⟨fun h => absurd h.1 hTs, fun h => by cases h⟩) V9.out
    case pos =>
      have hTT := hTs
      subst hTs
      by_cases hk0 : k1 = 0
      case pos =>
        have gk : ((k1 : Int) == 0) = true := by rw [hk0]; rfl
        have gk2 : decide ((k1 : Int) = 0) = true := by rw [hk0]; rfl
        have gk3 : decide (k1 = 0) = true := by rw [hk0]; rfl
        have gk4 : (k1 == 0) = true := by rw [hk0]; rfl
        have HK0 := hid hk0
        clear hk0
        by_cases hdf : k4 ≤ k3
        case neg =>
          have gd : decide ((k4 : Int) ≤ k3) = false := decide_eq_false (by omega)
          have gdi : ¬ (k4 : Int) ≤ k3 := by omega
          refine wp_region_g (fun w' => w'.cell? ⟨eb, 0, none⟩ = some (.int .i64 k1) ∧ w'.cell? ⟨eb, 1, none⟩ = some (.int .i64 k2) ∧ w'.cell? ⟨eb, 2, none⟩ = some (.int .i64 k3) ∧ w'.cell? ⟨eb, 3, none⟩ = some (.int .i64 k4) ∧ w'.cell? ⟨eb, 4, none⟩ = some (.int .i64 k5) ∧ w'.cell? ⟨eb, 5, none⟩ = some (.int .i64 k6) ∧ w'.cell? ⟨eb, 6, none⟩ = some (.string ⟨bl.toArray⟩)) 32 (by kernel_rfl) ?_
          have hS := HC7.out X8.drew ((Upd.refl (fun k => k = w.heap.size) X8).drew)
          refine g_take (i := 0) rfl (by kernel_rfl) (by kernel_rfl) (by kernel_rfl) (by kernel_rfl) (fun _ _ _ h => h) (Or.inl ⟨by kernel_rfl, by (intro w hSw; (try dsimp only at hSw); obtain ⟨z0, z1, z2, z3, z4, z5, z6⟩ := hSw; go_simp; try with_reducible rfl)⟩) hS ?_
          (try go_frame)
          refine g_take (i := 1) rfl (by kernel_rfl) (by kernel_rfl) (by kernel_rfl) (by kernel_rfl) (fun _ _ _ h => h) (Or.inl ⟨by kernel_rfl, by (intro w hSw; (try dsimp only at hSw); obtain ⟨z0, z1, z2, z3, z4, z5, z6⟩ := hSw; go_simp; try with_reducible rfl)⟩) hS ?_
          (try go_frame)
          refine g_take0 (i := 3) rfl (by kernel_rfl) (by kernel_rfl) (by kernel_rfl) (by decide) (fun _ _ _ h => h) (Or.inl ⟨by kernel_rfl, by (intro w _; go_simp; try with_reducible rfl)⟩) (fun _ => hS) ?_
          (try go_frame)
          refine g_take (i := 4) rfl (by kernel_rfl) (by kernel_rfl) (by kernel_rfl) (by kernel_rfl) (fun _ _ _ h => h) (Or.inl ⟨by kernel_rfl, by (intro w hSw; (try dsimp only at hSw); obtain ⟨z0, z1, z2, z3, z4, z5, z6⟩ := hSw; go_simp; try with_reducible rfl)⟩) hS ?_
          (try go_frame)
          refine g_take0 (i := 6) rfl (by kernel_rfl) (by kernel_rfl) (by kernel_rfl) (by decide) (fun _ _ _ h => h) (Or.inl ⟨by kernel_rfl, by (intro w _; go_simp; try with_reducible rfl)⟩) (fun _ => hS) ?_
          (try go_frame)
          refine g_op (i := 2) (by kernel_rfl) rfl ?_
          go_wp2_with fail
          refine (HH.out X8.drew (Upd.refl (fun _ => False) X8).drew).mono ?_
          rintro en y1 ⟨rfl, u⟩
          have Y1 := hid ((Upd.refl (fun _ => False) X8).drew.trans u)
          have hS1 := HC7.out y1 (Y1.out.mono fun _ h => h.elim)
          clear u hS
          go_wp2_with fail
          refine ⟨fun _ => hS1, ?_⟩
          (try go_frame)
          refine g_take0 (i := 5) rfl (by kernel_rfl) (by kernel_rfl) (by kernel_rfl) (by decide) (fun _ _ _ h => h) (Or.inl ⟨by kernel_rfl, by (intro w _; go_simp; try with_reducible rfl)⟩) (fun _ => hS1) ?_
          (try go_frame)
          refine g_take0 (i := 7) (v := .bool true) rfl (by kernel_rfl) (by kernel_rfl) (by kernel_rfl) (by decide) (fun _ _ _ h => h) (Or.inl ⟨by kernel_rfl, by (intro w _; go_simp; try with_reducible rfl)⟩) (fun _ => hS1) ?_
          (try go_frame)
          refine g_take0 (i := 8) (v := .bool true) rfl (by kernel_rfl) (by kernel_rfl) (by kernel_rfl) (by decide) (fun _ _ _ h => h) (Or.inl ⟨by kernel_rfl, by (intro w _; go_simp; try with_reducible rfl)⟩) (fun _ => hS1) ?_
          (try go_frame)
          refine g_take0 (i := 9) rfl (by kernel_rfl) (by kernel_rfl) (by kernel_rfl) (by decide) (fun _ _ _ h => h) (Or.inl ⟨by kernel_rfl, by (intro w _; go_simp; try with_reducible rfl)⟩) (fun _ => hS1) ?_
          (try go_frame)
          refine g_take (i := 10) rfl (by kernel_rfl) (by kernel_rfl) (by kernel_rfl) (by kernel_rfl) (fun _ _ _ h => h) (Or.inl ⟨by kernel_rfl, by (intro w hSw; (try dsimp only at hSw); obtain ⟨z0, z1, z2, z3, z4, z5, z6⟩ := hSw; go_simp; try with_reducible rfl)⟩) hS1 ?_
          (try go_frame)
          refine g_take0 (i := 11) (v := .bool true) rfl (by kernel_rfl) (by kernel_rfl) (by kernel_rfl) (by decide) (fun _ _ _ h => h) (Or.inl ⟨by kernel_rfl, by (intro w _; go_simp; try with_reducible rfl)⟩) (fun _ => hS1) ?_
          (try go_frame)
          refine g_take0 (i := 12) (v := .bool true) rfl (by kernel_rfl) (by kernel_rfl) (by kernel_rfl) (by decide) (fun _ _ _ h => h) (Or.inl ⟨by kernel_rfl, by (intro w _; go_simp; try with_reducible rfl)⟩) (fun _ => hS1) ?_
          (try go_frame)
          refine g_take0 (i := 13) rfl (by kernel_rfl) (by kernel_rfl) (by kernel_rfl) (by decide) (fun _ _ _ h => h) (Or.inr ⟨by kernel_rfl, rfl⟩) (fun _ => hS1) ?_
          (try go_frame)
          refine g_take0 (i := 14) (v := .bool true) rfl (by kernel_rfl) (by kernel_rfl) (by kernel_rfl) (by decide) (fun _ _ _ h => h) (Or.inl ⟨by kernel_rfl, by (intro w _; go_simp; try with_reducible rfl)⟩) (fun _ => hS1) ?_
          (try go_frame)
          refine g_take0 (i := 15) (v := .bool true) rfl (by kernel_rfl) (by kernel_rfl) (by kernel_rfl) (by decide) (fun _ _ _ h => h) (Or.inl ⟨by kernel_rfl, by (intro w _; go_simp; try with_reducible rfl)⟩) (fun _ => hS1) ?_
          (try go_frame)
          refine g_take0 (i := 16) (v := .bool true) rfl (by kernel_rfl) (by kernel_rfl) (by kernel_rfl) (by decide) (fun _ _ _ h => h) (Or.inl ⟨by kernel_rfl, by (intro w _; go_simp; try with_reducible rfl)⟩) (fun _ => hS1) ?_
          (try go_frame)
          refine g_take0 (i := 17) rfl (by kernel_rfl) (by kernel_rfl) (by kernel_rfl) (by decide) (fun _ _ _ h => h) (Or.inl ⟨by kernel_rfl, by (intro w _; go_simp; try with_reducible rfl)⟩) (fun _ => hS1) ?_
          (try go_frame)
          refine g_take (i := 18) rfl (by kernel_rfl) (by kernel_rfl) (by kernel_rfl) (by kernel_rfl) (fun _ _ _ h => h) (Or.inl ⟨by kernel_rfl, by (intro w hSw; (try dsimp only at hSw); obtain ⟨z0, z1, z2, z3, z4, z5, z6⟩ := hSw; go_simp; try with_reducible rfl)⟩) hS1 ?_
          (try go_frame)
          refine g_take0 (i := 19) rfl (by kernel_rfl) (by kernel_rfl) (by kernel_rfl) (by decide) (fun _ _ _ h => h) (Or.inl ⟨by kernel_rfl, by (intro w _; go_simp; try with_reducible rfl)⟩) (fun _ => hS1) ?_
          (try go_frame)
          refine g_take (i := 20) rfl (by kernel_rfl) (by kernel_rfl) (by kernel_rfl) (by kernel_rfl) (fun _ _ _ h => h) (Or.inl ⟨by kernel_rfl, by (intro w hSw; (try dsimp only at hSw); obtain ⟨z0, z1, z2, z3, z4, z5, z6⟩ := hSw; go_simp; try with_reducible rfl)⟩) hS1 ?_
          (try go_frame)
          refine g_take0 (i := 21) (v := .bool false) rfl (by kernel_rfl) (by kernel_rfl) (by kernel_rfl) (by decide) (fun _ _ _ h => h) (Or.inl ⟨by kernel_rfl, by (intro w _; go_simp; try with_reducible rfl)⟩) (fun _ => hS1) ?_
          (try go_frame)
          refine g_take0 (i := 22) (v := .bool false) rfl (by kernel_rfl) (by kernel_rfl) (by kernel_rfl) (by decide) (fun _ _ _ h => h) (Or.inl ⟨by kernel_rfl, by (intro w _; go_simp; try with_reducible rfl)⟩) (fun _ => hS1) ?_
          (try go_frame)
          refine g_take0 (i := 23) (v := .bool false) rfl (by kernel_rfl) (by kernel_rfl) (by kernel_rfl) (by decide) (fun _ _ _ h => h) (Or.inl ⟨by kernel_rfl, by (intro w _; go_simp; try with_reducible rfl)⟩) (fun _ => hS1) ?_
          (try go_frame)
          refine g_take0 (i := 24) rfl (by kernel_rfl) (by kernel_rfl) (by kernel_rfl) (by decide) (fun _ _ _ h => h) (Or.inr ⟨by kernel_rfl, rfl⟩) (fun _ => hS1) ?_
          (try go_frame)
          refine g_take0 (i := 25) rfl (by kernel_rfl) (by kernel_rfl) (by kernel_rfl) (by decide) (fun _ _ _ h => h) (Or.inr ⟨by kernel_rfl, rfl⟩) (fun _ => hS1) ?_
          (try go_frame)
          refine g_take0 (i := 26) rfl (by kernel_rfl) (by kernel_rfl) (by kernel_rfl) (by decide) (fun _ _ _ h => h) (Or.inr ⟨by kernel_rfl, rfl⟩) (fun _ => hS1) ?_
          (try go_frame)
          refine g_take0 (i := 27) rfl (by kernel_rfl) (by kernel_rfl) (by kernel_rfl) (by decide) (fun _ _ _ h => h) (Or.inr ⟨by kernel_rfl, rfl⟩) (fun _ => hS1) ?_
          (try go_frame)
          refine g_skip (i := 28) (by kernel_rfl) rfl (by kernel_rfl) ⟨fun _ => hS1, ?_⟩
          (try go_frame)
          refine g_take0 (i := 29) rfl (by kernel_rfl) (by kernel_rfl) (by kernel_rfl) (by decide) (fun _ _ _ h => h) (Or.inr ⟨by kernel_rfl, rfl⟩) (fun _ => hS1) ?_
          (try go_frame)
          refine g_take0 (i := 30) rfl (by kernel_rfl) (by kernel_rfl) (by kernel_rfl) (by decide) (fun _ _ _ h => h) (Or.inl ⟨by kernel_rfl, by (intro w _; go_simp; try with_reducible rfl)⟩) (fun _ => hS1) ?_
          (try go_frame)
          have ZC := hid (zero_cells TB.out Y1.out)
          have z0 := ZC.out.1.1
          have z1 := ZC.out.1.2.1
          have z2 := ZC.out.1.2.2.1
          have z3 := ZC.out.1.2.2.2.1
          have z4 := ZC.out.1.2.2.2.2.1
          have z5 := ZC.out.1.2.2.2.2.2.1
          have z6 := ZC.out.1.2.2.2.2.2.2
          have zf := ZC.out.2
          have RS := hid (rd_store (pg := ⟨k1, k2, k3, k4, k5, k6, bl⟩) TB.out Y1.out V8.out (Nat.le_refl _))
          have HS9 := hid (HC7.out _ RS.out.2.1)
          refine g_op (i := 31) (by kernel_rfl) rfl ?_
          go_wp2_with fail
          refine ⟨fun _ => HS9.out, ?_⟩
          (try go_frame)
          refine g_op (i := 32) (by kernel_rfl) rfl ?_
          go_wp2_with fail
          refine ⟨fun _ => HS9.out, ?_⟩
          (try go_frame)
          refine g_done (by kernel_rfl) ?_
          clear z0 z1 z2 z3 z4 z5 z6 zf HS9 c0 c1 c2 c3 c4 c5 c6
          obtain ⟨WF, hWF⟩ : ∃ WF, put7 y1 w.heap.size ⟨k1, k2, k3, k4, k5, k6, bl⟩ = WF := ⟨_, rfl⟩
          have RS := RS.out
          rw [hWF] at RS
          rw [show (((((((y1.setCell ⟨w.heap.size, 0, none⟩ (.int .i64 k1)).setCell ⟨w.heap.size, 1, none⟩ (.int .i64 k2)).setCell ⟨w.heap.size, 2, none⟩ (.int .i64 k3)).setCell ⟨w.heap.size, 3, none⟩ (.int .i64 k4)).setCell ⟨w.heap.size, 4, none⟩ (.int .i64 k5)).setCell ⟨w.heap.size, 5, none⟩ (.int .i64 k6)).setCell ⟨w.heap.size, 6, none⟩ (.string ⟨bl.toArray⟩)) = WF from hWF]
          clear hWF
          obtain ⟨z0, z1, z2, z3, z4, z5, z6⟩ := pg_cells RS.2.2
          have V9 := hid RS.1
          clear RS
          go_wp2_with fail
          refine bodyPost_ret (v := .tuple #[.agg #[.int .i64 k1, .int .i64 k2, .int .i64 k3, .int .i64 k4, .int .i64 k5, .int .i64 k6, .string ⟨bl.toArray⟩], .bool false]) (by rw [results_cell_tmp rfl]; go_simp) rfl ?_
          rw [← HPC.out]
          exact rd_ret PG.out (OK.out.trans ⟨fun h => absurd h.2.2.1 hdf, fun h => by cases h⟩) V9.out
        case pos =>
          have gd : decide ((k4 : Int) ≤ k3) = true := decide_eq_true (by omega)
          have gdi : (k4 : Int) ≤ k3 := by omega
          obtain ⟨bb, hbb⟩ : ∃ b, ((bl.length : Int) == rm) = b := ⟨_, rfl⟩
          refine wp_region_g (fun w' => w'.cell? ⟨eb, 0, none⟩ = some (.int .i64 k1) ∧ w'.cell? ⟨eb, 1, none⟩ = some (.int .i64 k2) ∧ w'.cell? ⟨eb, 2, none⟩ = some (.int .i64 k3) ∧ w'.cell? ⟨eb, 3, none⟩ = some (.int .i64 k4) ∧ w'.cell? ⟨eb, 4, none⟩ = some (.int .i64 k5) ∧ w'.cell? ⟨eb, 5, none⟩ = some (.int .i64 k6) ∧ w'.cell? ⟨eb, 6, none⟩ = some (.string ⟨bl.toArray⟩)) 32 (by kernel_rfl) ?_
          have hS := HC7.out X8.drew ((Upd.refl (fun k => k = w.heap.size) X8).drew)
          refine g_take (i := 0) rfl (by kernel_rfl) (by kernel_rfl) (by kernel_rfl) (by kernel_rfl) (fun _ _ _ h => h) (Or.inl ⟨by kernel_rfl, by (intro w hSw; (try dsimp only at hSw); obtain ⟨z0, z1, z2, z3, z4, z5, z6⟩ := hSw; go_simp; try with_reducible rfl)⟩) hS ?_
          (try go_frame)
          refine g_take (i := 1) rfl (by kernel_rfl) (by kernel_rfl) (by kernel_rfl) (by kernel_rfl) (fun _ _ _ h => h) (Or.inl ⟨by kernel_rfl, by (intro w hSw; (try dsimp only at hSw); obtain ⟨z0, z1, z2, z3, z4, z5, z6⟩ := hSw; go_simp; try with_reducible rfl)⟩) hS ?_
          (try go_frame)
          refine g_take0 (i := 3) rfl (by kernel_rfl) (by kernel_rfl) (by kernel_rfl) (by decide) (fun _ _ _ h => h) (Or.inl ⟨by kernel_rfl, by (intro w _; go_simp; try with_reducible rfl)⟩) (fun _ => hS) ?_
          (try go_frame)
          refine g_take (i := 4) rfl (by kernel_rfl) (by kernel_rfl) (by kernel_rfl) (by kernel_rfl) (fun _ _ _ h => h) (Or.inl ⟨by kernel_rfl, by (intro w hSw; (try dsimp only at hSw); obtain ⟨z0, z1, z2, z3, z4, z5, z6⟩ := hSw; go_simp; try with_reducible rfl)⟩) hS ?_
          (try go_frame)
          refine g_take0 (i := 6) rfl (by kernel_rfl) (by kernel_rfl) (by kernel_rfl) (by decide) (fun _ _ _ h => h) (Or.inl ⟨by kernel_rfl, by (intro w _; go_simp; try with_reducible rfl)⟩) (fun _ => hS) ?_
          (try go_frame)
          refine g_op (i := 2) (by kernel_rfl) rfl ?_
          go_wp2_with fail
          refine (HH.out X8.drew (Upd.refl (fun _ => False) X8).drew).mono ?_
          rintro en y1 ⟨rfl, u⟩
          have Y1 := hid ((Upd.refl (fun _ => False) X8).drew.trans u)
          have hS1 := HC7.out y1 (Y1.out.mono fun _ h => h.elim)
          clear u hS
          go_wp2_with fail
          refine ⟨fun _ => hS1, ?_⟩
          (try go_frame)
          refine g_take0 (i := 5) rfl (by kernel_rfl) (by kernel_rfl) (by kernel_rfl) (by decide) (fun _ _ _ h => h) (Or.inl ⟨by kernel_rfl, by (intro w _; go_simp; try with_reducible rfl)⟩) (fun _ => hS1) ?_
          (try go_frame)
          refine g_take0 (i := 7) (v := .bool true) rfl (by kernel_rfl) (by kernel_rfl) (by kernel_rfl) (by decide) (fun _ _ _ h => h) (Or.inl ⟨by kernel_rfl, by (intro w _; go_simp; try with_reducible rfl)⟩) (fun _ => hS1) ?_
          (try go_frame)
          refine g_take0 (i := 8) (v := .bool true) rfl (by kernel_rfl) (by kernel_rfl) (by kernel_rfl) (by decide) (fun _ _ _ h => h) (Or.inl ⟨by kernel_rfl, by (intro w _; go_simp; try with_reducible rfl)⟩) (fun _ => hS1) ?_
          (try go_frame)
          refine g_take0 (i := 9) rfl (by kernel_rfl) (by kernel_rfl) (by kernel_rfl) (by decide) (fun _ _ _ h => h) (Or.inl ⟨by kernel_rfl, by (intro w _; go_simp; try with_reducible rfl)⟩) (fun _ => hS1) ?_
          (try go_frame)
          refine g_take (i := 10) rfl (by kernel_rfl) (by kernel_rfl) (by kernel_rfl) (by kernel_rfl) (fun _ _ _ h => h) (Or.inl ⟨by kernel_rfl, by (intro w hSw; (try dsimp only at hSw); obtain ⟨z0, z1, z2, z3, z4, z5, z6⟩ := hSw; go_simp; try with_reducible rfl)⟩) hS1 ?_
          (try go_frame)
          refine g_take0 (i := 11) (v := .bool true) rfl (by kernel_rfl) (by kernel_rfl) (by kernel_rfl) (by decide) (fun _ _ _ h => h) (Or.inl ⟨by kernel_rfl, by (intro w _; go_simp; try with_reducible rfl)⟩) (fun _ => hS1) ?_
          (try go_frame)
          refine g_take0 (i := 12) (v := .bool true) rfl (by kernel_rfl) (by kernel_rfl) (by kernel_rfl) (by decide) (fun _ _ _ h => h) (Or.inl ⟨by kernel_rfl, by (intro w _; go_simp; try with_reducible rfl)⟩) (fun _ => hS1) ?_
          (try go_frame)
          refine g_take0 (i := 13) rfl (by kernel_rfl) (by kernel_rfl) (by kernel_rfl) (by decide) (fun _ _ _ h => h) (Or.inr ⟨by kernel_rfl, rfl⟩) (fun _ => hS1) ?_
          (try go_frame)
          refine g_take0 (i := 14) (v := .bool true) rfl (by kernel_rfl) (by kernel_rfl) (by kernel_rfl) (by decide) (fun _ _ _ h => h) (Or.inl ⟨by kernel_rfl, by (intro w _; go_simp; try with_reducible rfl)⟩) (fun _ => hS1) ?_
          (try go_frame)
          refine g_take0 (i := 15) (v := .bool true) rfl (by kernel_rfl) (by kernel_rfl) (by kernel_rfl) (by decide) (fun _ _ _ h => h) (Or.inl ⟨by kernel_rfl, by (intro w _; go_simp; try with_reducible rfl)⟩) (fun _ => hS1) ?_
          (try go_frame)
          refine g_take0 (i := 16) (v := .bool true) rfl (by kernel_rfl) (by kernel_rfl) (by kernel_rfl) (by decide) (fun _ _ _ h => h) (Or.inl ⟨by kernel_rfl, by (intro w _; go_simp; try with_reducible rfl)⟩) (fun _ => hS1) ?_
          (try go_frame)
          refine g_take0 (i := 17) rfl (by kernel_rfl) (by kernel_rfl) (by kernel_rfl) (by decide) (fun _ _ _ h => h) (Or.inl ⟨by kernel_rfl, by (intro w _; go_simp; try with_reducible rfl)⟩) (fun _ => hS1) ?_
          (try go_frame)
          refine g_take (i := 18) rfl (by kernel_rfl) (by kernel_rfl) (by kernel_rfl) (by kernel_rfl) (fun _ _ _ h => h) (Or.inl ⟨by kernel_rfl, by (intro w hSw; (try dsimp only at hSw); obtain ⟨z0, z1, z2, z3, z4, z5, z6⟩ := hSw; go_simp; try with_reducible rfl)⟩) hS1 ?_
          (try go_frame)
          refine g_take0 (i := 19) rfl (by kernel_rfl) (by kernel_rfl) (by kernel_rfl) (by decide) (fun _ _ _ h => h) (Or.inl ⟨by kernel_rfl, by (intro w _; go_simp; try with_reducible rfl)⟩) (fun _ => hS1) ?_
          (try go_frame)
          refine g_take (i := 20) rfl (by kernel_rfl) (by kernel_rfl) (by kernel_rfl) (by kernel_rfl) (fun _ _ _ h => h) (Or.inl ⟨by kernel_rfl, by (intro w hSw; (try dsimp only at hSw); obtain ⟨z0, z1, z2, z3, z4, z5, z6⟩ := hSw; go_simp; try with_reducible rfl)⟩) hS1 ?_
          (try go_frame)
          refine g_take0 (i := 21) (v := .bool true) rfl (by kernel_rfl) (by kernel_rfl) (by kernel_rfl) (by decide) (fun _ _ _ h => h) (Or.inl ⟨by kernel_rfl, by (intro w _; go_simp; try with_reducible rfl)⟩) (fun _ => hS1) ?_
          (try go_frame)
          refine g_take0 (i := 22) (v := .bool true) rfl (by kernel_rfl) (by kernel_rfl) (by kernel_rfl) (by decide) (fun _ _ _ h => h) (Or.inl ⟨by kernel_rfl, by (intro w _; go_simp; try with_reducible rfl)⟩) (fun _ => hS1) ?_
          (try go_frame)
          refine g_take0 (i := 23) (v := .bool true) rfl (by kernel_rfl) (by kernel_rfl) (by kernel_rfl) (by decide) (fun _ _ _ h => h) (Or.inl ⟨by kernel_rfl, by (intro w _; go_simp; try with_reducible rfl)⟩) (fun _ => hS1) ?_
          (try go_frame)
          refine g_take0 (i := 24) rfl (by kernel_rfl) (by kernel_rfl) (by kernel_rfl) (by decide) (fun _ _ _ h => h) (Or.inl ⟨by kernel_rfl, by (intro w _; go_simp; try with_reducible rfl)⟩) (fun _ => hS1) ?_
          (try go_frame)
          refine g_take (i := 25) rfl (by kernel_rfl) (by kernel_rfl) (by kernel_rfl) (by kernel_rfl) (fun _ _ _ h => h) (Or.inl ⟨by kernel_rfl, by (intro w hSw; (try dsimp only at hSw); obtain ⟨z0, z1, z2, z3, z4, z5, z6⟩ := hSw; go_simp; try with_reducible rfl)⟩) hS1 ?_
          (try go_frame)
          refine g_take0 (i := 26) rfl (by kernel_rfl) (by kernel_rfl) (by kernel_rfl) (by decide) (fun _ _ _ h => h) (Or.inl ⟨by kernel_rfl, by (intro w _; go_simp; try with_reducible rfl)⟩) (fun _ => hS1) ?_
          (try go_frame)
          refine g_take (i := 27) rfl (by kernel_rfl) (by kernel_rfl) (by kernel_rfl) (by kernel_rfl) (fun _ _ _ h => h) (Or.inl ⟨by kernel_rfl, by (intro w hSw; (try dsimp only at hSw); obtain ⟨z0, z1, z2, z3, z4, z5, z6⟩ := hSw; go_simp; try with_reducible rfl)⟩) hS1 ?_
          (try go_frame)
          refine g_want (i := 28) (by kernel_rfl) rfl (by kernel_rfl) ?_
          go_wp2_with fail
          refine (HM.out y1 Y1.out).mono ?_
          rintro en y2 ⟨rfl, u⟩
          have Y2 := hid (Y1.out.trans u)
          have hS2 := HC7.out y2 (Y2.out.mono fun _ h => h.elim)
          clear u hS1
          go_wp2_with fail
          first | (refine ⟨hS2, ?_⟩) | (refine ⟨fun _ => hS2, ?_⟩)
          (try go_frame)
          refine g_take0 (i := 29) (v := .bool bb) rfl (by kernel_rfl) (by kernel_rfl) (by kernel_rfl) (by decide) (fun _ _ _ h => h) (Or.inl ⟨by kernel_rfl, by (intro w _; go_simp; try with_reducible rfl)⟩) (fun _ => hS2) ?_
          (try go_frame)
          refine g_take0 (i := 30) (v := .bool bb) rfl (by kernel_rfl) (by kernel_rfl) (by kernel_rfl) (by decide) (fun _ _ _ h => h) (Or.inl ⟨by kernel_rfl, by (intro w _; go_simp; try with_reducible rfl)⟩) (fun _ => hS2) ?_
          (try go_frame)
          have ZC := hid (zero_cells TB.out Y2.out)
          have z0 := ZC.out.1.1
          have z1 := ZC.out.1.2.1
          have z2 := ZC.out.1.2.2.1
          have z3 := ZC.out.1.2.2.2.1
          have z4 := ZC.out.1.2.2.2.2.1
          have z5 := ZC.out.1.2.2.2.2.2.1
          have z6 := ZC.out.1.2.2.2.2.2.2
          have zf := ZC.out.2
          have RS := hid (rd_store (pg := ⟨k1, k2, k3, k4, k5, k6, bl⟩) TB.out Y2.out V8.out (Nat.le_refl _))
          have HS9 := hid (HC7.out _ RS.out.2.1)
          refine g_op (i := 31) (by kernel_rfl) rfl ?_
          go_wp2_with fail
          refine ⟨fun _ => HS9.out, ?_⟩
          (try go_frame)
          refine g_op (i := 32) (by kernel_rfl) rfl ?_
          go_wp2_with fail
          refine ⟨fun _ => HS9.out, ?_⟩
          (try go_frame)
          refine g_done (by kernel_rfl) ?_
          clear z0 z1 z2 z3 z4 z5 z6 zf HS9 c0 c1 c2 c3 c4 c5 c6
          obtain ⟨WF, hWF⟩ : ∃ WF, put7 y2 w.heap.size ⟨k1, k2, k3, k4, k5, k6, bl⟩ = WF := ⟨_, rfl⟩
          have RS := RS.out
          rw [hWF] at RS
          rw [show (((((((y2.setCell ⟨w.heap.size, 0, none⟩ (.int .i64 k1)).setCell ⟨w.heap.size, 1, none⟩ (.int .i64 k2)).setCell ⟨w.heap.size, 2, none⟩ (.int .i64 k3)).setCell ⟨w.heap.size, 3, none⟩ (.int .i64 k4)).setCell ⟨w.heap.size, 4, none⟩ (.int .i64 k5)).setCell ⟨w.heap.size, 5, none⟩ (.int .i64 k6)).setCell ⟨w.heap.size, 6, none⟩ (.string ⟨bl.toArray⟩)) = WF from hWF]
          clear hWF
          obtain ⟨z0, z1, z2, z3, z4, z5, z6⟩ := pg_cells RS.2.2
          have V9 := hid RS.1
          clear RS
          go_wp2_with fail
          refine bodyPost_ret (v := .tuple #[.agg #[.int .i64 k1, .int .i64 k2, .int .i64 k3, .int .i64 k4, .int .i64 k5, .int .i64 k6, .string ⟨bl.toArray⟩], .bool bb]) (by rw [results_cell_tmp rfl]; go_simp) rfl ?_
          rw [← HPC.out]
          exact rd_ret PG.out (OK.out.trans ⟨fun h => by rw [← hbb, h.2.2.2]; simp, fun h => ⟨by first | rfl | trivial, .inl HK0.out, hdf, by rw [← hbb] at h; simpa using h⟩⟩) V9.out
      case neg =>
        have gki : ¬ (k1 : Int) = 0 := by omega
        have gk : ((k1 : Int) == 0) = false := beq_eq_false_iff_ne.2 gki
        cases dr with
        | false =>
          refine wp_region_g (fun w' => w'.cell? ⟨eb, 0, none⟩ = some (.int .i64 k1) ∧ w'.cell? ⟨eb, 1, none⟩ = some (.int .i64 k2) ∧ w'.cell? ⟨eb, 2, none⟩ = some (.int .i64 k3) ∧ w'.cell? ⟨eb, 3, none⟩ = some (.int .i64 k4) ∧ w'.cell? ⟨eb, 4, none⟩ = some (.int .i64 k5) ∧ w'.cell? ⟨eb, 5, none⟩ = some (.int .i64 k6) ∧ w'.cell? ⟨eb, 6, none⟩ = some (.string ⟨bl.toArray⟩)) 32 (by kernel_rfl) ?_
          have hS := HC7.out X8.drew ((Upd.refl (fun k => k = w.heap.size) X8).drew)
          refine g_take (i := 0) rfl (by kernel_rfl) (by kernel_rfl) (by kernel_rfl) (by kernel_rfl) (fun _ _ _ h => h) (Or.inl ⟨by kernel_rfl, by (intro w hSw; (try dsimp only at hSw); obtain ⟨z0, z1, z2, z3, z4, z5, z6⟩ := hSw; go_simp; try with_reducible rfl)⟩) hS ?_
          (try go_frame)
          refine g_take (i := 1) rfl (by kernel_rfl) (by kernel_rfl) (by kernel_rfl) (by kernel_rfl) (fun _ _ _ h => h) (Or.inl ⟨by kernel_rfl, by (intro w hSw; (try dsimp only at hSw); obtain ⟨z0, z1, z2, z3, z4, z5, z6⟩ := hSw; go_simp; try with_reducible rfl)⟩) hS ?_
          (try go_frame)
          refine g_take0 (i := 3) rfl (by kernel_rfl) (by kernel_rfl) (by kernel_rfl) (by decide) (fun _ _ _ h => h) (Or.inl ⟨by kernel_rfl, by (intro w _; go_simp; try with_reducible rfl)⟩) (fun _ => hS) ?_
          (try go_frame)
          refine g_take (i := 4) rfl (by kernel_rfl) (by kernel_rfl) (by kernel_rfl) (by kernel_rfl) (fun _ _ _ h => h) (Or.inl ⟨by kernel_rfl, by (intro w hSw; (try dsimp only at hSw); obtain ⟨z0, z1, z2, z3, z4, z5, z6⟩ := hSw; go_simp; try with_reducible rfl)⟩) hS ?_
          (try go_frame)
          refine g_take0 (i := 6) rfl (by kernel_rfl) (by kernel_rfl) (by kernel_rfl) (by decide) (fun _ _ _ h => h) (Or.inl ⟨by kernel_rfl, by (intro w _; go_simp; try with_reducible rfl)⟩) (fun _ => hS) ?_
          (try go_frame)
          refine g_op (i := 2) (by kernel_rfl) rfl ?_
          go_wp2_with fail
          refine (HH.out X8.drew (Upd.refl (fun _ => False) X8).drew).mono ?_
          rintro en y1 ⟨rfl, u⟩
          have Y1 := hid ((Upd.refl (fun _ => False) X8).drew.trans u)
          have hS1 := HC7.out y1 (Y1.out.mono fun _ h => h.elim)
          clear u hS
          go_wp2_with fail
          refine ⟨fun _ => hS1, ?_⟩
          (try go_frame)
          refine g_take0 (i := 5) rfl (by kernel_rfl) (by kernel_rfl) (by kernel_rfl) (by decide) (fun _ _ _ h => h) (Or.inl ⟨by kernel_rfl, by (intro w _; go_simp; try with_reducible rfl)⟩) (fun _ => hS1) ?_
          (try go_frame)
          refine g_take0 (i := 7) (v := .bool true) rfl (by kernel_rfl) (by kernel_rfl) (by kernel_rfl) (by decide) (fun _ _ _ h => h) (Or.inl ⟨by kernel_rfl, by (intro w _; go_simp; try with_reducible rfl)⟩) (fun _ => hS1) ?_
          (try go_frame)
          refine g_take0 (i := 8) (v := .bool true) rfl (by kernel_rfl) (by kernel_rfl) (by kernel_rfl) (by decide) (fun _ _ _ h => h) (Or.inl ⟨by kernel_rfl, by (intro w _; go_simp; try with_reducible rfl)⟩) (fun _ => hS1) ?_
          (try go_frame)
          refine g_take0 (i := 9) rfl (by kernel_rfl) (by kernel_rfl) (by kernel_rfl) (by decide) (fun _ _ _ h => h) (Or.inl ⟨by kernel_rfl, by (intro w _; go_simp; try with_reducible rfl)⟩) (fun _ => hS1) ?_
          (try go_frame)
          refine g_take (i := 10) rfl (by kernel_rfl) (by kernel_rfl) (by kernel_rfl) (by kernel_rfl) (fun _ _ _ h => h) (Or.inl ⟨by kernel_rfl, by (intro w hSw; (try dsimp only at hSw); obtain ⟨z0, z1, z2, z3, z4, z5, z6⟩ := hSw; go_simp; try with_reducible rfl)⟩) hS1 ?_
          (try go_frame)
          refine g_take0 (i := 11) (v := .bool false) rfl (by kernel_rfl) (by kernel_rfl) (by kernel_rfl) (by decide) (fun _ _ _ h => h) (Or.inl ⟨by kernel_rfl, by (intro w _; go_simp; try with_reducible rfl)⟩) (fun _ => hS1) ?_
          (try go_frame)
          refine g_take0 (i := 12) (v := .bool false) rfl (by kernel_rfl) (by kernel_rfl) (by kernel_rfl) (by decide) (fun _ _ _ h => h) (Or.inl ⟨by kernel_rfl, by (intro w _; go_simp; try with_reducible rfl)⟩) (fun _ => hS1) ?_
          (try go_frame)
          refine g_take0 (i := 13) rfl (by kernel_rfl) (by kernel_rfl) (by kernel_rfl) (by decide) (fun _ _ _ h => h) (Or.inl ⟨by kernel_rfl, by (intro w _; go_simp; try with_reducible rfl)⟩) (fun _ => hS1) ?_
          (try go_frame)
          refine g_take0 (i := 14) (v := .bool false) rfl (by kernel_rfl) (by kernel_rfl) (by kernel_rfl) (by decide) (fun _ _ _ h => h) (Or.inl ⟨by kernel_rfl, by (intro w _; go_simp; try with_reducible rfl)⟩) (fun _ => hS1) ?_
          (try go_frame)
          refine g_take0 (i := 15) (v := .bool false) rfl (by kernel_rfl) (by kernel_rfl) (by kernel_rfl) (by decide) (fun _ _ _ h => h) (Or.inl ⟨by kernel_rfl, by (intro w _; go_simp; try with_reducible rfl)⟩) (fun _ => hS1) ?_
          (try go_frame)
          refine g_take0 (i := 16) (v := .bool false) rfl (by kernel_rfl) (by kernel_rfl) (by kernel_rfl) (by decide) (fun _ _ _ h => h) (Or.inl ⟨by kernel_rfl, by (intro w _; go_simp; try with_reducible rfl)⟩) (fun _ => hS1) ?_
          (try go_frame)
          refine g_take0 (i := 17) rfl (by kernel_rfl) (by kernel_rfl) (by kernel_rfl) (by decide) (fun _ _ _ h => h) (Or.inr ⟨by kernel_rfl, rfl⟩) (fun _ => hS1) ?_
          (try go_frame)
          refine g_take0 (i := 18) rfl (by kernel_rfl) (by kernel_rfl) (by kernel_rfl) (by decide) (fun _ _ _ h => h) (Or.inr ⟨by kernel_rfl, rfl⟩) (fun _ => hS1) ?_
          (try go_frame)
          refine g_take0 (i := 19) rfl (by kernel_rfl) (by kernel_rfl) (by kernel_rfl) (by decide) (fun _ _ _ h => h) (Or.inr ⟨by kernel_rfl, rfl⟩) (fun _ => hS1) ?_
          (try go_frame)
          refine g_take0 (i := 20) rfl (by kernel_rfl) (by kernel_rfl) (by kernel_rfl) (by decide) (fun _ _ _ h => h) (Or.inr ⟨by kernel_rfl, rfl⟩) (fun _ => hS1) ?_
          (try go_frame)
          refine g_take0 (i := 21) rfl (by kernel_rfl) (by kernel_rfl) (by kernel_rfl) (by decide) (fun _ _ _ h => h) (Or.inr ⟨by kernel_rfl, rfl⟩) (fun _ => hS1) ?_
          (try go_frame)
          refine g_take0 (i := 22) rfl (by kernel_rfl) (by kernel_rfl) (by kernel_rfl) (by decide) (fun _ _ _ h => h) (Or.inl ⟨by kernel_rfl, by (intro w _; go_simp; try with_reducible rfl)⟩) (fun _ => hS1) ?_
          (try go_frame)
          refine g_take0 (i := 23) rfl (by kernel_rfl) (by kernel_rfl) (by kernel_rfl) (by decide) (fun _ _ _ h => h) (Or.inl ⟨by kernel_rfl, by (intro w _; go_simp; try with_reducible rfl)⟩) (fun _ => hS1) ?_
          (try go_frame)
          refine g_take0 (i := 24) rfl (by kernel_rfl) (by kernel_rfl) (by kernel_rfl) (by decide) (fun _ _ _ h => h) (Or.inr ⟨by kernel_rfl, rfl⟩) (fun _ => hS1) ?_
          (try go_frame)
          refine g_take0 (i := 25) rfl (by kernel_rfl) (by kernel_rfl) (by kernel_rfl) (by decide) (fun _ _ _ h => h) (Or.inr ⟨by kernel_rfl, rfl⟩) (fun _ => hS1) ?_
          (try go_frame)
          refine g_take0 (i := 26) rfl (by kernel_rfl) (by kernel_rfl) (by kernel_rfl) (by decide) (fun _ _ _ h => h) (Or.inr ⟨by kernel_rfl, rfl⟩) (fun _ => hS1) ?_
          (try go_frame)
          refine g_take0 (i := 27) rfl (by kernel_rfl) (by kernel_rfl) (by kernel_rfl) (by decide) (fun _ _ _ h => h) (Or.inr ⟨by kernel_rfl, rfl⟩) (fun _ => hS1) ?_
          (try go_frame)
          refine g_skip (i := 28) (by kernel_rfl) rfl (by kernel_rfl) ⟨fun _ => hS1, ?_⟩
          (try go_frame)
          refine g_take0 (i := 29) rfl (by kernel_rfl) (by kernel_rfl) (by kernel_rfl) (by decide) (fun _ _ _ h => h) (Or.inr ⟨by kernel_rfl, rfl⟩) (fun _ => hS1) ?_
          (try go_frame)
          refine g_take0 (i := 30) rfl (by kernel_rfl) (by kernel_rfl) (by kernel_rfl) (by decide) (fun _ _ _ h => h) (Or.inl ⟨by kernel_rfl, by (intro w _; go_simp; try with_reducible rfl)⟩) (fun _ => hS1) ?_
          (try go_frame)
          have ZC := hid (zero_cells TB.out Y1.out)
          have z0 := ZC.out.1.1
          have z1 := ZC.out.1.2.1
          have z2 := ZC.out.1.2.2.1
          have z3 := ZC.out.1.2.2.2.1
          have z4 := ZC.out.1.2.2.2.2.1
          have z5 := ZC.out.1.2.2.2.2.2.1
          have z6 := ZC.out.1.2.2.2.2.2.2
          have zf := ZC.out.2
          have RS := hid (rd_store (pg := ⟨k1, k2, k3, k4, k5, k6, bl⟩) TB.out Y1.out V8.out (Nat.le_refl _))
          have HS9 := hid (HC7.out _ RS.out.2.1)
          refine g_op (i := 31) (by kernel_rfl) rfl ?_
          go_wp2_with fail
          refine ⟨fun _ => HS9.out, ?_⟩
          (try go_frame)
          refine g_op (i := 32) (by kernel_rfl) rfl ?_
          go_wp2_with fail
          refine ⟨fun _ => HS9.out, ?_⟩
          (try go_frame)
          refine g_done (by kernel_rfl) ?_
          clear z0 z1 z2 z3 z4 z5 z6 zf HS9 c0 c1 c2 c3 c4 c5 c6
          obtain ⟨WF, hWF⟩ : ∃ WF, put7 y1 w.heap.size ⟨k1, k2, k3, k4, k5, k6, bl⟩ = WF := ⟨_, rfl⟩
          have RS := RS.out
          rw [hWF] at RS
          rw [show (((((((y1.setCell ⟨w.heap.size, 0, none⟩ (.int .i64 k1)).setCell ⟨w.heap.size, 1, none⟩ (.int .i64 k2)).setCell ⟨w.heap.size, 2, none⟩ (.int .i64 k3)).setCell ⟨w.heap.size, 3, none⟩ (.int .i64 k4)).setCell ⟨w.heap.size, 4, none⟩ (.int .i64 k5)).setCell ⟨w.heap.size, 5, none⟩ (.int .i64 k6)).setCell ⟨w.heap.size, 6, none⟩ (.string ⟨bl.toArray⟩)) = WF from hWF]
          clear hWF
          obtain ⟨z0, z1, z2, z3, z4, z5, z6⟩ := pg_cells RS.2.2
          have V9 := hid RS.1
          clear RS
          go_wp2_with fail
          refine bodyPost_ret (v := .tuple #[.agg #[.int .i64 k1, .int .i64 k2, .int .i64 k3, .int .i64 k4, .int .i64 k5, .int .i64 k6, .string ⟨bl.toArray⟩], .bool false]) (by rw [results_cell_tmp rfl]; go_simp) rfl ?_
          rw [← HPC.out]
          exact rd_ret PG.out (OK.out.trans ⟨fun h => h.2.1.elim (fun h => absurd h hk0) (fun h => by cases h), fun h => by cases h⟩) V9.out
        | true =>
          by_cases hdf : k4 ≤ k3
          case neg =>
            have gd : decide ((k4 : Int) ≤ k3) = false := decide_eq_false (by omega)
            have gdi : ¬ (k4 : Int) ≤ k3 := by omega
            refine wp_region_g (fun w' => w'.cell? ⟨eb, 0, none⟩ = some (.int .i64 k1) ∧ w'.cell? ⟨eb, 1, none⟩ = some (.int .i64 k2) ∧ w'.cell? ⟨eb, 2, none⟩ = some (.int .i64 k3) ∧ w'.cell? ⟨eb, 3, none⟩ = some (.int .i64 k4) ∧ w'.cell? ⟨eb, 4, none⟩ = some (.int .i64 k5) ∧ w'.cell? ⟨eb, 5, none⟩ = some (.int .i64 k6) ∧ w'.cell? ⟨eb, 6, none⟩ = some (.string ⟨bl.toArray⟩)) 32 (by kernel_rfl) ?_
            have hS := HC7.out X8.drew ((Upd.refl (fun k => k = w.heap.size) X8).drew)
            refine g_take (i := 0) rfl (by kernel_rfl) (by kernel_rfl) (by kernel_rfl) (by kernel_rfl) (fun _ _ _ h => h) (Or.inl ⟨by kernel_rfl, by (intro w hSw; (try dsimp only at hSw); obtain ⟨z0, z1, z2, z3, z4, z5, z6⟩ := hSw; go_simp; try with_reducible rfl)⟩) hS ?_
            (try go_frame)
            refine g_take (i := 1) rfl (by kernel_rfl) (by kernel_rfl) (by kernel_rfl) (by kernel_rfl) (fun _ _ _ h => h) (Or.inl ⟨by kernel_rfl, by (intro w hSw; (try dsimp only at hSw); obtain ⟨z0, z1, z2, z3, z4, z5, z6⟩ := hSw; go_simp; try with_reducible rfl)⟩) hS ?_
            (try go_frame)
            refine g_take0 (i := 3) rfl (by kernel_rfl) (by kernel_rfl) (by kernel_rfl) (by decide) (fun _ _ _ h => h) (Or.inl ⟨by kernel_rfl, by (intro w _; go_simp; try with_reducible rfl)⟩) (fun _ => hS) ?_
            (try go_frame)
            refine g_take (i := 4) rfl (by kernel_rfl) (by kernel_rfl) (by kernel_rfl) (by kernel_rfl) (fun _ _ _ h => h) (Or.inl ⟨by kernel_rfl, by (intro w hSw; (try dsimp only at hSw); obtain ⟨z0, z1, z2, z3, z4, z5, z6⟩ := hSw; go_simp; try with_reducible rfl)⟩) hS ?_
            (try go_frame)
            refine g_take0 (i := 6) rfl (by kernel_rfl) (by kernel_rfl) (by kernel_rfl) (by decide) (fun _ _ _ h => h) (Or.inl ⟨by kernel_rfl, by (intro w _; go_simp; try with_reducible rfl)⟩) (fun _ => hS) ?_
            (try go_frame)
            refine g_op (i := 2) (by kernel_rfl) rfl ?_
            go_wp2_with fail
            refine (HH.out X8.drew (Upd.refl (fun _ => False) X8).drew).mono ?_
            rintro en y1 ⟨rfl, u⟩
            have Y1 := hid ((Upd.refl (fun _ => False) X8).drew.trans u)
            have hS1 := HC7.out y1 (Y1.out.mono fun _ h => h.elim)
            clear u hS
            go_wp2_with fail
            refine ⟨fun _ => hS1, ?_⟩
            (try go_frame)
            refine g_take0 (i := 5) rfl (by kernel_rfl) (by kernel_rfl) (by kernel_rfl) (by decide) (fun _ _ _ h => h) (Or.inl ⟨by kernel_rfl, by (intro w _; go_simp; try with_reducible rfl)⟩) (fun _ => hS1) ?_
            (try go_frame)
            refine g_take0 (i := 7) (v := .bool true) rfl (by kernel_rfl) (by kernel_rfl) (by kernel_rfl) (by decide) (fun _ _ _ h => h) (Or.inl ⟨by kernel_rfl, by (intro w _; go_simp; try with_reducible rfl)⟩) (fun _ => hS1) ?_
            (try go_frame)
            refine g_take0 (i := 8) (v := .bool true) rfl (by kernel_rfl) (by kernel_rfl) (by kernel_rfl) (by decide) (fun _ _ _ h => h) (Or.inl ⟨by kernel_rfl, by (intro w _; go_simp; try with_reducible rfl)⟩) (fun _ => hS1) ?_
            (try go_frame)
            refine g_take0 (i := 9) rfl (by kernel_rfl) (by kernel_rfl) (by kernel_rfl) (by decide) (fun _ _ _ h => h) (Or.inl ⟨by kernel_rfl, by (intro w _; go_simp; try with_reducible rfl)⟩) (fun _ => hS1) ?_
            (try go_frame)
            refine g_take (i := 10) rfl (by kernel_rfl) (by kernel_rfl) (by kernel_rfl) (by kernel_rfl) (fun _ _ _ h => h) (Or.inl ⟨by kernel_rfl, by (intro w hSw; (try dsimp only at hSw); obtain ⟨z0, z1, z2, z3, z4, z5, z6⟩ := hSw; go_simp; try with_reducible rfl)⟩) hS1 ?_
            (try go_frame)
            refine g_take0 (i := 11) (v := .bool false) rfl (by kernel_rfl) (by kernel_rfl) (by kernel_rfl) (by decide) (fun _ _ _ h => h) (Or.inl ⟨by kernel_rfl, by (intro w _; go_simp; try with_reducible rfl)⟩) (fun _ => hS1) ?_
            (try go_frame)
            refine g_take0 (i := 12) (v := .bool false) rfl (by kernel_rfl) (by kernel_rfl) (by kernel_rfl) (by decide) (fun _ _ _ h => h) (Or.inl ⟨by kernel_rfl, by (intro w _; go_simp; try with_reducible rfl)⟩) (fun _ => hS1) ?_
            (try go_frame)
            refine g_take0 (i := 13) rfl (by kernel_rfl) (by kernel_rfl) (by kernel_rfl) (by decide) (fun _ _ _ h => h) (Or.inl ⟨by kernel_rfl, by (intro w _; go_simp; try with_reducible rfl)⟩) (fun _ => hS1) ?_
            (try go_frame)
            refine g_take0 (i := 14) (v := .bool true) rfl (by kernel_rfl) (by kernel_rfl) (by kernel_rfl) (by decide) (fun _ _ _ h => h) (Or.inl ⟨by kernel_rfl, by (intro w _; go_simp; try with_reducible rfl)⟩) (fun _ => hS1) ?_
            (try go_frame)
            refine g_take0 (i := 15) (v := .bool true) rfl (by kernel_rfl) (by kernel_rfl) (by kernel_rfl) (by decide) (fun _ _ _ h => h) (Or.inl ⟨by kernel_rfl, by (intro w _; go_simp; try with_reducible rfl)⟩) (fun _ => hS1) ?_
            (try go_frame)
            refine g_take0 (i := 16) (v := .bool true) rfl (by kernel_rfl) (by kernel_rfl) (by kernel_rfl) (by decide) (fun _ _ _ h => h) (Or.inl ⟨by kernel_rfl, by (intro w _; go_simp; try with_reducible rfl)⟩) (fun _ => hS1) ?_
            (try go_frame)
            refine g_take0 (i := 17) rfl (by kernel_rfl) (by kernel_rfl) (by kernel_rfl) (by decide) (fun _ _ _ h => h) (Or.inl ⟨by kernel_rfl, by (intro w _; go_simp; try with_reducible rfl)⟩) (fun _ => hS1) ?_
            (try go_frame)
            refine g_take (i := 18) rfl (by kernel_rfl) (by kernel_rfl) (by kernel_rfl) (by kernel_rfl) (fun _ _ _ h => h) (Or.inl ⟨by kernel_rfl, by (intro w hSw; (try dsimp only at hSw); obtain ⟨z0, z1, z2, z3, z4, z5, z6⟩ := hSw; go_simp; try with_reducible rfl)⟩) hS1 ?_
            (try go_frame)
            refine g_take0 (i := 19) rfl (by kernel_rfl) (by kernel_rfl) (by kernel_rfl) (by decide) (fun _ _ _ h => h) (Or.inl ⟨by kernel_rfl, by (intro w _; go_simp; try with_reducible rfl)⟩) (fun _ => hS1) ?_
            (try go_frame)
            refine g_take (i := 20) rfl (by kernel_rfl) (by kernel_rfl) (by kernel_rfl) (by kernel_rfl) (fun _ _ _ h => h) (Or.inl ⟨by kernel_rfl, by (intro w hSw; (try dsimp only at hSw); obtain ⟨z0, z1, z2, z3, z4, z5, z6⟩ := hSw; go_simp; try with_reducible rfl)⟩) hS1 ?_
            (try go_frame)
            refine g_take0 (i := 21) (v := .bool false) rfl (by kernel_rfl) (by kernel_rfl) (by kernel_rfl) (by decide) (fun _ _ _ h => h) (Or.inl ⟨by kernel_rfl, by (intro w _; go_simp; try with_reducible rfl)⟩) (fun _ => hS1) ?_
            (try go_frame)
            refine g_take0 (i := 22) (v := .bool false) rfl (by kernel_rfl) (by kernel_rfl) (by kernel_rfl) (by decide) (fun _ _ _ h => h) (Or.inl ⟨by kernel_rfl, by (intro w _; go_simp; try with_reducible rfl)⟩) (fun _ => hS1) ?_
            (try go_frame)
            refine g_take0 (i := 23) (v := .bool false) rfl (by kernel_rfl) (by kernel_rfl) (by kernel_rfl) (by decide) (fun _ _ _ h => h) (Or.inl ⟨by kernel_rfl, by (intro w _; go_simp; try with_reducible rfl)⟩) (fun _ => hS1) ?_
            (try go_frame)
            refine g_take0 (i := 24) rfl (by kernel_rfl) (by kernel_rfl) (by kernel_rfl) (by decide) (fun _ _ _ h => h) (Or.inr ⟨by kernel_rfl, rfl⟩) (fun _ => hS1) ?_
            (try go_frame)
            refine g_take0 (i := 25) rfl (by kernel_rfl) (by kernel_rfl) (by kernel_rfl) (by decide) (fun _ _ _ h => h) (Or.inr ⟨by kernel_rfl, rfl⟩) (fun _ => hS1) ?_
            (try go_frame)
            refine g_take0 (i := 26) rfl (by kernel_rfl) (by kernel_rfl) (by kernel_rfl) (by decide) (fun _ _ _ h => h) (Or.inr ⟨by kernel_rfl, rfl⟩) (fun _ => hS1) ?_
            (try go_frame)
            refine g_take0 (i := 27) rfl (by kernel_rfl) (by kernel_rfl) (by kernel_rfl) (by decide) (fun _ _ _ h => h) (Or.inr ⟨by kernel_rfl, rfl⟩) (fun _ => hS1) ?_
            (try go_frame)
            refine g_skip (i := 28) (by kernel_rfl) rfl (by kernel_rfl) ⟨fun _ => hS1, ?_⟩
            (try go_frame)
            refine g_take0 (i := 29) rfl (by kernel_rfl) (by kernel_rfl) (by kernel_rfl) (by decide) (fun _ _ _ h => h) (Or.inr ⟨by kernel_rfl, rfl⟩) (fun _ => hS1) ?_
            (try go_frame)
            refine g_take0 (i := 30) rfl (by kernel_rfl) (by kernel_rfl) (by kernel_rfl) (by decide) (fun _ _ _ h => h) (Or.inl ⟨by kernel_rfl, by (intro w _; go_simp; try with_reducible rfl)⟩) (fun _ => hS1) ?_
            (try go_frame)
            have ZC := hid (zero_cells TB.out Y1.out)
            have z0 := ZC.out.1.1
            have z1 := ZC.out.1.2.1
            have z2 := ZC.out.1.2.2.1
            have z3 := ZC.out.1.2.2.2.1
            have z4 := ZC.out.1.2.2.2.2.1
            have z5 := ZC.out.1.2.2.2.2.2.1
            have z6 := ZC.out.1.2.2.2.2.2.2
            have zf := ZC.out.2
            have RS := hid (rd_store (pg := ⟨k1, k2, k3, k4, k5, k6, bl⟩) TB.out Y1.out V8.out (Nat.le_refl _))
            have HS9 := hid (HC7.out _ RS.out.2.1)
            refine g_op (i := 31) (by kernel_rfl) rfl ?_
            go_wp2_with fail
            refine ⟨fun _ => HS9.out, ?_⟩
            (try go_frame)
            refine g_op (i := 32) (by kernel_rfl) rfl ?_
            go_wp2_with fail
            refine ⟨fun _ => HS9.out, ?_⟩
            (try go_frame)
            refine g_done (by kernel_rfl) ?_
            clear z0 z1 z2 z3 z4 z5 z6 zf HS9 c0 c1 c2 c3 c4 c5 c6
            obtain ⟨WF, hWF⟩ : ∃ WF, put7 y1 w.heap.size ⟨k1, k2, k3, k4, k5, k6, bl⟩ = WF := ⟨_, rfl⟩
            have RS := RS.out
            rw [hWF] at RS
            rw [show (((((((y1.setCell ⟨w.heap.size, 0, none⟩ (.int .i64 k1)).setCell ⟨w.heap.size, 1, none⟩ (.int .i64 k2)).setCell ⟨w.heap.size, 2, none⟩ (.int .i64 k3)).setCell ⟨w.heap.size, 3, none⟩ (.int .i64 k4)).setCell ⟨w.heap.size, 4, none⟩ (.int .i64 k5)).setCell ⟨w.heap.size, 5, none⟩ (.int .i64 k6)).setCell ⟨w.heap.size, 6, none⟩ (.string ⟨bl.toArray⟩)) = WF from hWF]
            clear hWF
            obtain ⟨z0, z1, z2, z3, z4, z5, z6⟩ := pg_cells RS.2.2
            have V9 := hid RS.1
            clear RS
            go_wp2_with fail
            refine bodyPost_ret (v := .tuple #[.agg #[.int .i64 k1, .int .i64 k2, .int .i64 k3, .int .i64 k4, .int .i64 k5, .int .i64 k6, .string ⟨bl.toArray⟩], .bool false]) (by rw [results_cell_tmp rfl]; go_simp) rfl ?_
            rw [← HPC.out]
            exact rd_ret PG.out (OK.out.trans ⟨fun h => absurd h.2.2.1 hdf, fun h => by cases h⟩) V9.out
          case pos =>
            have gd : decide ((k4 : Int) ≤ k3) = true := decide_eq_true (by omega)
            have gdi : (k4 : Int) ≤ k3 := by omega
            obtain ⟨bb, hbb⟩ : ∃ b, ((bl.length : Int) == rm) = b := ⟨_, rfl⟩
            refine wp_region_g (fun w' => w'.cell? ⟨eb, 0, none⟩ = some (.int .i64 k1) ∧ w'.cell? ⟨eb, 1, none⟩ = some (.int .i64 k2) ∧ w'.cell? ⟨eb, 2, none⟩ = some (.int .i64 k3) ∧ w'.cell? ⟨eb, 3, none⟩ = some (.int .i64 k4) ∧ w'.cell? ⟨eb, 4, none⟩ = some (.int .i64 k5) ∧ w'.cell? ⟨eb, 5, none⟩ = some (.int .i64 k6) ∧ w'.cell? ⟨eb, 6, none⟩ = some (.string ⟨bl.toArray⟩)) 32 (by kernel_rfl) ?_
            have hS := HC7.out X8.drew ((Upd.refl (fun k => k = w.heap.size) X8).drew)
            refine g_take (i := 0) rfl (by kernel_rfl) (by kernel_rfl) (by kernel_rfl) (by kernel_rfl) (fun _ _ _ h => h) (Or.inl ⟨by kernel_rfl, by (intro w hSw; (try dsimp only at hSw); obtain ⟨z0, z1, z2, z3, z4, z5, z6⟩ := hSw; go_simp; try with_reducible rfl)⟩) hS ?_
            (try go_frame)
            refine g_take (i := 1) rfl (by kernel_rfl) (by kernel_rfl) (by kernel_rfl) (by kernel_rfl) (fun _ _ _ h => h) (Or.inl ⟨by kernel_rfl, by (intro w hSw; (try dsimp only at hSw); obtain ⟨z0, z1, z2, z3, z4, z5, z6⟩ := hSw; go_simp; try with_reducible rfl)⟩) hS ?_
            (try go_frame)
            refine g_take0 (i := 3) rfl (by kernel_rfl) (by kernel_rfl) (by kernel_rfl) (by decide) (fun _ _ _ h => h) (Or.inl ⟨by kernel_rfl, by (intro w _; go_simp; try with_reducible rfl)⟩) (fun _ => hS) ?_
            (try go_frame)
            refine g_take (i := 4) rfl (by kernel_rfl) (by kernel_rfl) (by kernel_rfl) (by kernel_rfl) (fun _ _ _ h => h) (Or.inl ⟨by kernel_rfl, by (intro w hSw; (try dsimp only at hSw); obtain ⟨z0, z1, z2, z3, z4, z5, z6⟩ := hSw; go_simp; try with_reducible rfl)⟩) hS ?_
            (try go_frame)
            refine g_take0 (i := 6) rfl (by kernel_rfl) (by kernel_rfl) (by kernel_rfl) (by decide) (fun _ _ _ h => h) (Or.inl ⟨by kernel_rfl, by (intro w _; go_simp; try with_reducible rfl)⟩) (fun _ => hS) ?_
            (try go_frame)
            refine g_op (i := 2) (by kernel_rfl) rfl ?_
            go_wp2_with fail
            refine (HH.out X8.drew (Upd.refl (fun _ => False) X8).drew).mono ?_
            rintro en y1 ⟨rfl, u⟩
            have Y1 := hid ((Upd.refl (fun _ => False) X8).drew.trans u)
            have hS1 := HC7.out y1 (Y1.out.mono fun _ h => h.elim)
            clear u hS
            go_wp2_with fail
            refine ⟨fun _ => hS1, ?_⟩
            (try go_frame)
            refine g_take0 (i := 5) rfl (by kernel_rfl) (by kernel_rfl) (by kernel_rfl) (by decide) (fun _ _ _ h => h) (Or.inl ⟨by kernel_rfl, by (intro w _; go_simp; try with_reducible rfl)⟩) (fun _ => hS1) ?_
            (try go_frame)
            refine g_take0 (i := 7) (v := .bool true) rfl (by kernel_rfl) (by kernel_rfl) (by kernel_rfl) (by decide) (fun _ _ _ h => h) (Or.inl ⟨by kernel_rfl, by (intro w _; go_simp; try with_reducible rfl)⟩) (fun _ => hS1) ?_
            (try go_frame)
            refine g_take0 (i := 8) (v := .bool true) rfl (by kernel_rfl) (by kernel_rfl) (by kernel_rfl) (by decide) (fun _ _ _ h => h) (Or.inl ⟨by kernel_rfl, by (intro w _; go_simp; try with_reducible rfl)⟩) (fun _ => hS1) ?_
            (try go_frame)
            refine g_take0 (i := 9) rfl (by kernel_rfl) (by kernel_rfl) (by kernel_rfl) (by decide) (fun _ _ _ h => h) (Or.inl ⟨by kernel_rfl, by (intro w _; go_simp; try with_reducible rfl)⟩) (fun _ => hS1) ?_
            (try go_frame)
            refine g_take (i := 10) rfl (by kernel_rfl) (by kernel_rfl) (by kernel_rfl) (by kernel_rfl) (fun _ _ _ h => h) (Or.inl ⟨by kernel_rfl, by (intro w hSw; (try dsimp only at hSw); obtain ⟨z0, z1, z2, z3, z4, z5, z6⟩ := hSw; go_simp; try with_reducible rfl)⟩) hS1 ?_
            (try go_frame)
            refine g_take0 (i := 11) (v := .bool false) rfl (by kernel_rfl) (by kernel_rfl) (by kernel_rfl) (by decide) (fun _ _ _ h => h) (Or.inl ⟨by kernel_rfl, by (intro w _; go_simp; try with_reducible rfl)⟩) (fun _ => hS1) ?_
            (try go_frame)
            refine g_take0 (i := 12) (v := .bool false) rfl (by kernel_rfl) (by kernel_rfl) (by kernel_rfl) (by decide) (fun _ _ _ h => h) (Or.inl ⟨by kernel_rfl, by (intro w _; go_simp; try with_reducible rfl)⟩) (fun _ => hS1) ?_
            (try go_frame)
            refine g_take0 (i := 13) rfl (by kernel_rfl) (by kernel_rfl) (by kernel_rfl) (by decide) (fun _ _ _ h => h) (Or.inl ⟨by kernel_rfl, by (intro w _; go_simp; try with_reducible rfl)⟩) (fun _ => hS1) ?_
            (try go_frame)
            refine g_take0 (i := 14) (v := .bool true) rfl (by kernel_rfl) (by kernel_rfl) (by kernel_rfl) (by decide) (fun _ _ _ h => h) (Or.inl ⟨by kernel_rfl, by (intro w _; go_simp; try with_reducible rfl)⟩) (fun _ => hS1) ?_
            (try go_frame)
            refine g_take0 (i := 15) (v := .bool true) rfl (by kernel_rfl) (by kernel_rfl) (by kernel_rfl) (by decide) (fun _ _ _ h => h) (Or.inl ⟨by kernel_rfl, by (intro w _; go_simp; try with_reducible rfl)⟩) (fun _ => hS1) ?_
            (try go_frame)
            refine g_take0 (i := 16) (v := .bool true) rfl (by kernel_rfl) (by kernel_rfl) (by kernel_rfl) (by decide) (fun _ _ _ h => h) (Or.inl ⟨by kernel_rfl, by (intro w _; go_simp; try with_reducible rfl)⟩) (fun _ => hS1) ?_
            (try go_frame)
            refine g_take0 (i := 17) rfl (by kernel_rfl) (by kernel_rfl) (by kernel_rfl) (by decide) (fun _ _ _ h => h) (Or.inl ⟨by kernel_rfl, by (intro w _; go_simp; try with_reducible rfl)⟩) (fun _ => hS1) ?_
            (try go_frame)
            refine g_take (i := 18) rfl (by kernel_rfl) (by kernel_rfl) (by kernel_rfl) (by kernel_rfl) (fun _ _ _ h => h) (Or.inl ⟨by kernel_rfl, by (intro w hSw; (try dsimp only at hSw); obtain ⟨z0, z1, z2, z3, z4, z5, z6⟩ := hSw; go_simp; try with_reducible rfl)⟩) hS1 ?_
            (try go_frame)
            refine g_take0 (i := 19) rfl (by kernel_rfl) (by kernel_rfl) (by kernel_rfl) (by decide) (fun _ _ _ h => h) (Or.inl ⟨by kernel_rfl, by (intro w _; go_simp; try with_reducible rfl)⟩) (fun _ => hS1) ?_
            (try go_frame)
            refine g_take (i := 20) rfl (by kernel_rfl) (by kernel_rfl) (by kernel_rfl) (by kernel_rfl) (fun _ _ _ h => h) (Or.inl ⟨by kernel_rfl, by (intro w hSw; (try dsimp only at hSw); obtain ⟨z0, z1, z2, z3, z4, z5, z6⟩ := hSw; go_simp; try with_reducible rfl)⟩) hS1 ?_
            (try go_frame)
            refine g_take0 (i := 21) (v := .bool true) rfl (by kernel_rfl) (by kernel_rfl) (by kernel_rfl) (by decide) (fun _ _ _ h => h) (Or.inl ⟨by kernel_rfl, by (intro w _; go_simp; try with_reducible rfl)⟩) (fun _ => hS1) ?_
            (try go_frame)
            refine g_take0 (i := 22) (v := .bool true) rfl (by kernel_rfl) (by kernel_rfl) (by kernel_rfl) (by decide) (fun _ _ _ h => h) (Or.inl ⟨by kernel_rfl, by (intro w _; go_simp; try with_reducible rfl)⟩) (fun _ => hS1) ?_
            (try go_frame)
            refine g_take0 (i := 23) (v := .bool true) rfl (by kernel_rfl) (by kernel_rfl) (by kernel_rfl) (by decide) (fun _ _ _ h => h) (Or.inl ⟨by kernel_rfl, by (intro w _; go_simp; try with_reducible rfl)⟩) (fun _ => hS1) ?_
            (try go_frame)
            refine g_take0 (i := 24) rfl (by kernel_rfl) (by kernel_rfl) (by kernel_rfl) (by decide) (fun _ _ _ h => h) (Or.inl ⟨by kernel_rfl, by (intro w _; go_simp; try with_reducible rfl)⟩) (fun _ => hS1) ?_
            (try go_frame)
            refine g_take (i := 25) rfl (by kernel_rfl) (by kernel_rfl) (by kernel_rfl) (by kernel_rfl) (fun _ _ _ h => h) (Or.inl ⟨by kernel_rfl, by (intro w hSw; (try dsimp only at hSw); obtain ⟨z0, z1, z2, z3, z4, z5, z6⟩ := hSw; go_simp; try with_reducible rfl)⟩) hS1 ?_
            (try go_frame)
            refine g_take0 (i := 26) rfl (by kernel_rfl) (by kernel_rfl) (by kernel_rfl) (by decide) (fun _ _ _ h => h) (Or.inl ⟨by kernel_rfl, by (intro w _; go_simp; try with_reducible rfl)⟩) (fun _ => hS1) ?_
            (try go_frame)
            refine g_take (i := 27) rfl (by kernel_rfl) (by kernel_rfl) (by kernel_rfl) (by kernel_rfl) (fun _ _ _ h => h) (Or.inl ⟨by kernel_rfl, by (intro w hSw; (try dsimp only at hSw); obtain ⟨z0, z1, z2, z3, z4, z5, z6⟩ := hSw; go_simp; try with_reducible rfl)⟩) hS1 ?_
            (try go_frame)
            refine g_want (i := 28) (by kernel_rfl) rfl (by kernel_rfl) ?_
            go_wp2_with fail
            refine (HM.out y1 Y1.out).mono ?_
            rintro en y2 ⟨rfl, u⟩
            have Y2 := hid (Y1.out.trans u)
            have hS2 := HC7.out y2 (Y2.out.mono fun _ h => h.elim)
            clear u hS1
            go_wp2_with fail
            first | (refine ⟨hS2, ?_⟩) | (refine ⟨fun _ => hS2, ?_⟩)
            (try go_frame)
            refine g_take0 (i := 29) (v := .bool bb) rfl (by kernel_rfl) (by kernel_rfl) (by kernel_rfl) (by decide) (fun _ _ _ h => h) (Or.inl ⟨by kernel_rfl, by (intro w _; go_simp; try with_reducible rfl)⟩) (fun _ => hS2) ?_
            (try go_frame)
            refine g_take0 (i := 30) (v := .bool bb) rfl (by kernel_rfl) (by kernel_rfl) (by kernel_rfl) (by decide) (fun _ _ _ h => h) (Or.inl ⟨by kernel_rfl, by (intro w _; go_simp; try with_reducible rfl)⟩) (fun _ => hS2) ?_
            (try go_frame)
            have ZC := hid (zero_cells TB.out Y2.out)
            have z0 := ZC.out.1.1
            have z1 := ZC.out.1.2.1
            have z2 := ZC.out.1.2.2.1
            have z3 := ZC.out.1.2.2.2.1
            have z4 := ZC.out.1.2.2.2.2.1
            have z5 := ZC.out.1.2.2.2.2.2.1
            have z6 := ZC.out.1.2.2.2.2.2.2
            have zf := ZC.out.2
            have RS := hid (rd_store (pg := ⟨k1, k2, k3, k4, k5, k6, bl⟩) TB.out Y2.out V8.out (Nat.le_refl _))
            have HS9 := hid (HC7.out _ RS.out.2.1)
            refine g_op (i := 31) (by kernel_rfl) rfl ?_
            go_wp2_with fail
            refine ⟨fun _ => HS9.out, ?_⟩
            (try go_frame)
            refine g_op (i := 32) (by kernel_rfl) rfl ?_
            go_wp2_with fail
            refine ⟨fun _ => HS9.out, ?_⟩
            (try go_frame)
            refine g_done (by kernel_rfl) ?_
            clear z0 z1 z2 z3 z4 z5 z6 zf HS9 c0 c1 c2 c3 c4 c5 c6
            obtain ⟨WF, hWF⟩ : ∃ WF, put7 y2 w.heap.size ⟨k1, k2, k3, k4, k5, k6, bl⟩ = WF := ⟨_, rfl⟩
            have RS := RS.out
            rw [hWF] at RS
            rw [show (((((((y2.setCell ⟨w.heap.size, 0, none⟩ (.int .i64 k1)).setCell ⟨w.heap.size, 1, none⟩ (.int .i64 k2)).setCell ⟨w.heap.size, 2, none⟩ (.int .i64 k3)).setCell ⟨w.heap.size, 3, none⟩ (.int .i64 k4)).setCell ⟨w.heap.size, 4, none⟩ (.int .i64 k5)).setCell ⟨w.heap.size, 5, none⟩ (.int .i64 k6)).setCell ⟨w.heap.size, 6, none⟩ (.string ⟨bl.toArray⟩)) = WF from hWF]
            clear hWF
            obtain ⟨z0, z1, z2, z3, z4, z5, z6⟩ := pg_cells RS.2.2
            have V9 := hid RS.1
            clear RS
            go_wp2_with fail
            refine bodyPost_ret (v := .tuple #[.agg #[.int .i64 k1, .int .i64 k2, .int .i64 k3, .int .i64 k4, .int .i64 k5, .int .i64 k6, .string ⟨bl.toArray⟩], .bool bb]) (by rw [results_cell_tmp rfl]; go_simp) rfl ?_
            rw [← HPC.out]
            exact rd_ret PG.out (OK.out.trans ⟨fun h => by rw [← hbb, h.2.2.2]; simp, fun h => ⟨by first | rfl | trivial, .inr (by first | rfl | trivial), hdf, by rw [← hbb] at h; simpa using h⟩⟩) V9.out
end Go.Proofs.YtlefilfdomjkeaaGreatDoor
