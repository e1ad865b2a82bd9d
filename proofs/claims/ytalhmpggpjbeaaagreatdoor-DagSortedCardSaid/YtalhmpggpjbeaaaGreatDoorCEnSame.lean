/- Walks: Same. -/
import Derived.Test.YtalhmpggpjbeaaaGreatDoorJ2
import Derived.Test.YtalhmpggpjbeaaaGreatDoorJ5
namespace Go.Proofs.YtalhmpggpjbeaaaGreatDoor
open Go.RowKit Go.Deep

theorem en_ext_iff (a b : En) : a = b ↔ (a.author = b.author ∧ a.seq = b.seq ∧ a.day = b.day ∧ a.kind = b.kind ∧ a.circle = b.circle ∧ a.who = b.who) ∧ (a.n = b.n ∧ a.m = b.m ∧ a.ref = b.ref ∧ a.text = b.text) ∧ a.knows = b.knows ∧ a.keys = b.keys ∧ a.spans = b.spans := by
  constructor
  · rintro rfl; exact ⟨⟨rfl, rfl, rfl, rfl, rfl, rfl⟩, ⟨rfl, rfl, rfl, rfl⟩, rfl, rfl, rfl⟩
  · rintro ⟨⟨h1, h2, h3, h4, h5, h6⟩, ⟨h7, h8, h9, h10⟩, h11, h12, h13⟩
    cases a; cases b
    simp only at *
    subst h1 h2 h3 h4 h5 h6 h7 h8 h9 h10 h11 h12 h13
    rfl
theorem same_no {a b : En} {w w' : World} (h : ¬ a = b) (u : Upd (fun _ => False) w w') : Ending.returned (.bool false) = .returned (.bool (decide (a = b))) ∧ Upd (fun _ => False) w w' := ⟨by rw [decide_eq_false h], u⟩
set_option maxRecDepth 100000 in
set_option maxHeartbeats 8000000 in
theorem same_any (a b : En) (a1 a2 a3 b1 b2 b3 : Option Addr) (c1 c2 c3 d1 d2 d3 : Nat) (A B : Nat → Prop) (w : World) (ha : EnRep A w a a1 a2 a3 c1 c2 c3) (hb : EnRep B w b b1 b2 b3 d1 d2 d3) (hA : ∀ g, A g → g < w.heap.size) (hB : ∀ g, B g → g < w.heap.size) :
    Calls Tryz.prog 49 #[enV a a1 a2 a3 c1 c2 c3, enV b b1 b2 b3 d1 d2 d3] w fun en w' => en = .returned (.bool (decide (a = b))) ∧ Upd (fun _ => False) w w' := by
  obtain ⟨W0, hW0⟩ : ∃ W0, W0 = (w.alloc (.cells (en13 a a1 a2 a3 c1 c2 c3) 39 (0, 0))).alloc (.cells (en13 b b1 b2 b3 d1 d2 d3) 39 (0, 0)) := ⟨_, rfl⟩
  have u0 : Upd (fun _ => False) w W0 := by rw [hW0]; exact ((Upd.refl _ _).alloc _).alloc _
  have hba : W0.heap[w.heap.size]? = some (.cells (en13 a a1 a2 a3 c1 c2 c3) 39 (0, 0)) := by rw [hW0, heap_alloc_old (by simp)]; exact heap_alloc_new
  have hbb : W0.heap[w.heap.size + 1]? = some (.cells (en13 b b1 b2 b3 d1 d2 d3) 39 (0, 0)) := by
    have h : (w.alloc (.cells (en13 a a1 a2 a3 c1 c2 c3) 39 (0, 0))).heap.size = w.heap.size + 1 := by simp
    rw [hW0, ← h]; exact heap_alloc_new
  have RA := hid (ha.keep u0); have RB := hid (hb.keep u0); have HA := hid fun g hg => Nat.lt_of_lt_of_le (hA g hg) u0.size; have HB := hid fun g hg => Nat.lt_of_lt_of_le (hB g hg) u0.size
  obtain ⟨e0, e1, e2, e3, e4, e5, e6, e7, e8, e9, e10, e11, e12⟩ := cells13 hba
  obtain ⟨f0, f1, f2, f3, f4, f5, f6, f7, f8, f9, f10, f11, f12⟩ := cells13 hbb
  have U0 := hid u0; have HW0 := hid hW0
  obtain ⟨x1, hx1⟩ : ∃ x : Bool, decide (a.author = b.author ∧ a.seq = b.seq ∧ a.day = b.day ∧ a.kind = b.kind ∧ a.circle = b.circle ∧ a.who = b.who) = x := ⟨_, rfl⟩
  obtain ⟨x2, hx2⟩ : ∃ x : Bool, decide (a.n = b.n ∧ a.m = b.m ∧ a.ref = b.ref ∧ a.text = b.text) = x := ⟨_, rfl⟩
  have X1 := hid hx1; have X2 := hid hx2
  clear ha hb hA hB u0 hba hbb hW0 hx1 hx2
  unfold enV
  go_enter Tryz.func49, Tryz.ntmps49
  go_upto_region 1 with (fail)
  have hW := HW0.out
  unfold en13 at hW
  rw [← hW]
  clear hW HW0
  go_cut [5] (fun s wx => s = .bool x1 ∧ W0 = wx)
  case first =>
    by_cases h0 : a.author = b.author
    case neg =>
      obtain rfl : x1 = false := by rw [← X1.out]; exact decide_eq_false fun h => h0 h.1
      have t0 : (a.author == b.author) = false := beq_eq_false_iff_ne.2 h0
      clear h0
      go_wp2_with fail
      go_meet
      case rel => exact ⟨rfl, rfl⟩
    have t0 : (a.author == b.author) = true := beq_iff_eq.2 h0
    by_cases h1 : a.seq = b.seq
    case neg =>
      obtain rfl : x1 = false := by rw [← X1.out]; exact decide_eq_false fun h => h1 h.2.1
      have t1 : (a.seq == b.seq) = false := beq_eq_false_iff_ne.2 h1
      clear h1
      go_wp2_with fail
      go_meet
      case rel => exact ⟨rfl, rfl⟩
    have t1 : (a.seq == b.seq) = true := beq_iff_eq.2 h1
    by_cases h2 : a.day = b.day
    case neg =>
      obtain rfl : x1 = false := by rw [← X1.out]; exact decide_eq_false fun h => h2 h.2.2.1
      have t2 : (a.day == b.day) = false := beq_eq_false_iff_ne.2 h2
      clear h2
      go_wp2_with fail
      go_meet
      case rel => exact ⟨rfl, rfl⟩
    have t2 : (a.day == b.day) = true := beq_iff_eq.2 h2
    by_cases h3 : a.kind = b.kind
    case neg =>
      obtain rfl : x1 = false := by rw [← X1.out]; exact decide_eq_false fun h => h3 h.2.2.2.1
      have t3 : (a.kind == b.kind) = false := beq_eq_false_iff_ne.2 h3
      clear h3
      go_wp2_with fail
      go_meet
      case rel => exact ⟨rfl, rfl⟩
    have t3 : (a.kind == b.kind) = true := beq_iff_eq.2 h3
    by_cases h4 : a.circle = b.circle
    case neg =>
      obtain rfl : x1 = false := by rw [← X1.out]; exact decide_eq_false fun h => h4 h.2.2.2.2.1
      have t4 : (a.circle == b.circle) = false := beq_eq_false_iff_ne.2 h4
      clear h4
      go_wp2_with fail
      go_meet
      case rel => exact ⟨rfl, rfl⟩
    have t4 : (a.circle == b.circle) = true := beq_iff_eq.2 h4
    by_cases h5 : a.who = b.who
    case neg =>
      obtain rfl : x1 = false := by rw [← X1.out]; exact decide_eq_false fun h => h5 h.2.2.2.2.2
      have t5 : (a.who == b.who) = false := beq_eq_false_iff_ne.2 h5
      clear h5
      go_wp2_with fail
      go_meet
      case rel => exact ⟨rfl, rfl⟩
    have t5 : (a.who == b.who) = true := beq_iff_eq.2 h5
    obtain rfl : x1 = true := by rw [← X1.out]; exact decide_eq_true ⟨h0, h1, h2, h3, h4, h5⟩
    clear h0 h1 h2 h3 h4 h5
    go_wp2_with fail
    go_meet
    case rel => exact ⟨rfl, rfl⟩
  case rest =>
    obtain ⟨rfl, rfl⟩ := hcut
    go_upto_region 2 with (fail)
    go_cut [6] (fun s wx => s = .bool x2 ∧ W0 = wx)
    case first =>
      by_cases h0 : a.n = b.n
      case neg =>
        obtain rfl : x2 = false := by rw [← X2.out]; exact decide_eq_false fun h => h0 h.1
        have t0 : (a.n == b.n) = false := beq_eq_false_iff_ne.2 h0
        clear h0
        go_wp2_with fail
        go_meet
        case rel => exact ⟨rfl, rfl⟩
      have t0 : (a.n == b.n) = true := beq_iff_eq.2 h0
      by_cases h1 : a.m = b.m
      case neg =>
        obtain rfl : x2 = false := by rw [← X2.out]; exact decide_eq_false fun h => h1 h.2.1
        have t1 : (a.m == b.m) = false := beq_eq_false_iff_ne.2 h1
        clear h1
        go_wp2_with fail
        go_meet
        case rel => exact ⟨rfl, rfl⟩
      have t1 : (a.m == b.m) = true := beq_iff_eq.2 h1
      by_cases h2 : a.ref = b.ref
      case neg =>
        obtain rfl : x2 = false := by rw [← X2.out]; exact decide_eq_false fun h => h2 h.2.2.1
        have t2 : (a.ref == b.ref) = false := beq_eq_false_iff_ne.2 h2
        clear h2
        go_wp2_with fail
        go_meet
        case rel => exact ⟨rfl, rfl⟩
      have t2 : (a.ref == b.ref) = true := beq_iff_eq.2 h2
      by_cases h3 : a.text = b.text
      case neg =>
        obtain rfl : x2 = false := by rw [← X2.out]; exact decide_eq_false fun h => h3 h.2.2.2
        have t3 : (a.text == b.text) = false := beq_eq_false_iff_ne.2 h3
        clear h3
        go_wp2_with fail
        go_meet
        case rel => exact ⟨rfl, rfl⟩
      have t3 : (a.text == b.text) = true := beq_iff_eq.2 h3
      obtain rfl : x2 = true := by rw [← X2.out]; exact decide_eq_true ⟨h0, h1, h2, h3⟩
      clear h0 h1 h2 h3
      go_wp2_with fail
      go_meet
      case rel => exact ⟨rfl, rfl⟩
    case rest =>
      obtain ⟨rfl, rfl⟩ := hcut
      cases hq1 : x1
      case false =>
        have HN := hid (show ¬ a = b from fun h => by have h1 := of_decide_eq_false (X1.out.trans hq1); exact h1 ((en_ext_iff a b).1 h).1)
        subst hq1
        go_wp2_with fail
        go_ret
        exact same_no HN.out U0.out
      subst hq1
      cases hq2 : x2
      case false =>
        have HN := hid (show ¬ a = b from fun h => by have h1 := of_decide_eq_false (X2.out.trans hq2); exact h1 ((en_ext_iff a b).1 h).2.1)
        subst hq2
        go_wp2_with fail
        go_ret
        exact same_no HN.out U0.out
      subst hq2
      go_wp2_with fail
      refine (eqInts_any _ _ a.knows b.knows A B _ RA.out.knows RB.out.knows HA.out HB.out).mono ?_
      rintro en w1 ⟨rfl, u⟩
      have U1 := hid u
      by_cases hk : a.knows = b.knows
      case neg =>
        rw [decide_eq_false hk]
        have HN := hid (show ¬ a = b from fun h => hk (by rw [h]))
        clear hk u
        go_wp2_with fail
        go_ret
        exact same_no HN.out (U0.out.trans U1.out)
      rw [decide_eq_true hk]
      have HK := hid hk
      have e10 := cell_kept e10 (u.block _ (World.block_lt_of_cell? _ _ e10) id)
      have f10 := cell_kept f10 (u.block _ (World.block_lt_of_cell? _ _ f10) id)
      have e11 := cell_kept e11 (u.block _ (World.block_lt_of_cell? _ _ e11) id)
      have f11 := cell_kept f11 (u.block _ (World.block_lt_of_cell? _ _ f11) id)
      clear hk u
      go_wp2_with fail
      refine (eqInts_any _ _ a.keys b.keys A B _ (RA.out.keep U1.out).keys (RB.out.keep U1.out).keys (fun g hg => Nat.lt_of_lt_of_le (HA.out g hg) U1.out.size) (fun g hg => Nat.lt_of_lt_of_le (HB.out g hg) U1.out.size)).mono ?_
      rintro en w2 ⟨rfl, u⟩
      have U2 := hid (U1.out.trans u)
      by_cases hk : a.keys = b.keys
      case neg =>
        rw [decide_eq_false hk]
        have HN := hid (show ¬ a = b from fun h => hk (by rw [h]))
        clear hk u
        go_wp2_with fail
        go_ret
        exact same_no HN.out (U0.out.trans U2.out)
      rw [decide_eq_true hk]
      have HY := hid hk
      have e11 := cell_kept e11 (u.block _ (World.block_lt_of_cell? _ _ e11) id)
      have f11 := cell_kept f11 (u.block _ (World.block_lt_of_cell? _ _ f11) id)
      clear hk u
      go_wp2_with fail
      refine (eqSps_any _ _ a.spans b.spans A B _ (RA.out.keep U2.out).spans (RB.out.keep U2.out).spans (fun g hg => Nat.lt_of_lt_of_le (HA.out g hg) U2.out.size) (fun g hg => Nat.lt_of_lt_of_le (HB.out g hg) U2.out.size)).mono ?_
      rintro en w3 ⟨rfl, u⟩
      have U3 := hid (U2.out.trans u)
      have HF := hid (show decide (a.spans = b.spans) = decide (a = b) from decide_eq_decide.2 ⟨fun h => (en_ext_iff a b).2 ⟨of_decide_eq_true X1.out, of_decide_eq_true X2.out, HK.out, HY.out, h⟩, fun h => by rw [h]⟩)
      rw [HF.out]
      clear u
      go_wp2_with fail
      go_ret
      exact ⟨rfl, U0.out.trans U3.out⟩
end Go.Proofs.YtalhmpggpjbeaaaGreatDoor
