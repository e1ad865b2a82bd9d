/- Walks: the reference's Same and Uses, texts compared. -/
import Derived.Test.YtdcahnkcnbhknaaGreatDoorEnSame
import Derived.Test.YtdcahnkcnbhknaaGreatDoorEnUsesW
import Derived.Test.YtdcahnkcnbhknaaGreatDoorEnRtA
namespace Go.Proofs.YtdcahnkcnbhknaaGreatDoor
open Go.RowKit Go.Deep

set_option maxRecDepth 100000 in
set_option maxHeartbeats 8000000 in
theorem rsame_any (a b : En) (a1 a2 a3 b1 b2 b3 : Option Addr) (c1 c2 c3 d1 d2 d3 : Nat) (A B : Nat → Prop) (w : World) (ha : EnRep A w a a1 a2 a3 c1 c2 c3) (hb : EnRep B w b b1 b2 b3 d1 d2 d3) (hA : ∀ g, A g → g < w.heap.size) (hB : ∀ g, B g → g < w.heap.size) :
    Calls Tryz.prog 13 #[enV a a1 a2 a3 c1 c2 c3, enV b b1 b2 b3 d1 d2 d3] w fun en w' => en = .returned (.bool (decide (a = b))) ∧ Upd (fun _ => False) w w' := by
  obtain ⟨W0, hW0⟩ : ∃ W0, W0 = (w.alloc (.cells (en13 a a1 a2 a3 c1 c2 c3) 25 (0, 0))).alloc (.cells (en13 b b1 b2 b3 d1 d2 d3) 25 (0, 0)) := ⟨_, rfl⟩
  have u0 : Upd (fun _ => False) w W0 := by rw [hW0]; exact ((Upd.refl _ _).alloc _).alloc _
  have hba : W0.heap[w.heap.size]? = some (.cells (en13 a a1 a2 a3 c1 c2 c3) 25 (0, 0)) := by rw [hW0, heap_alloc_old (by simp)]; exact heap_alloc_new
  have hbb : W0.heap[w.heap.size + 1]? = some (.cells (en13 b b1 b2 b3 d1 d2 d3) 25 (0, 0)) := by
    have h : (w.alloc (.cells (en13 a a1 a2 a3 c1 c2 c3) 25 (0, 0))).heap.size = w.heap.size + 1 := by simp
    rw [hW0, ← h]; exact heap_alloc_new
  have RA := hid (ha.keep u0); have RB := hid (hb.keep u0); have HA := hid fun g hg => Nat.lt_of_lt_of_le (hA g hg) u0.size; have HB := hid fun g hg => Nat.lt_of_lt_of_le (hB g hg) u0.size
  have hab := And.intro hba hbb
  have U0 := hid u0; have HW0 := hid hW0; have HAB := hid hab
  clear ha hb hA hB u0 hba hbb hab hW0
  obtain ⟨e0, e1, e2, e3, e4, e5, e6, e7, e8, e9, e10, e11, e12⟩ := cells13 HAB.out.1
  obtain ⟨f0, f1, f2, f3, f4, f5, f6, f7, f8, f9, f10, f11, f12⟩ := cells13 HAB.out.2
  by_cases h0 : a.author = b.author
  case neg =>
    have HN := hid (show ¬ a = b from fun h => h0 (by rw [h]))
    have t0 : (a.author != b.author) = true := bne_iff_ne.2 h0
    have s0 : (a.author == b.author) = false := beq_eq_false_iff_ne.2 h0
    clear h0 e0 e1 e2 e3 e4 e5 e6 e7 e8 e9 e10 e11 e12 f0 f1 f2 f3 f4 f5 f6 f7 f8 f9 f10 f11 f12
    unfold enV
    go_enter Tryz.func13, Tryz.ntmps13
    go_wp2_with fail
    go_ret
    have hW := HW0.out
    unfold en13 at hW
    rw [← hW]
    exact same_no HN.out U0.out
  have H0 := hid h0
  have t0 : (a.author != b.author) = false := by rw [h0]; simp
  have s0 : (a.author == b.author) = true := beq_iff_eq.2 h0
  clear h0
  by_cases h1 : a.seq = b.seq
  case neg =>
    have HN := hid (show ¬ a = b from fun h => h1 (by rw [h]))
    have t1 : (a.seq != b.seq) = true := bne_iff_ne.2 h1
    have s1 : (a.seq == b.seq) = false := beq_eq_false_iff_ne.2 h1
    clear h1 e0 e1 e2 e3 e4 e5 e6 e7 e8 e9 e10 e11 e12 f0 f1 f2 f3 f4 f5 f6 f7 f8 f9 f10 f11 f12
    unfold enV
    go_enter Tryz.func13, Tryz.ntmps13
    go_wp2_with fail
    go_ret
    have hW := HW0.out
    unfold en13 at hW
    rw [← hW]
    exact same_no HN.out U0.out
  have H1 := hid h1
  have t1 : (a.seq != b.seq) = false := by rw [h1]; simp
  have s1 : (a.seq == b.seq) = true := beq_iff_eq.2 h1
  clear h1
  by_cases h2 : a.day = b.day
  case neg =>
    have HN := hid (show ¬ a = b from fun h => h2 (by rw [h]))
    have t2 : (a.day != b.day) = true := bne_iff_ne.2 h2
    have s2 : (a.day == b.day) = false := beq_eq_false_iff_ne.2 h2
    clear h2 e0 e1 e2 e3 e4 e5 e6 e7 e8 e9 e10 e11 e12 f0 f1 f2 f3 f4 f5 f6 f7 f8 f9 f10 f11 f12
    unfold enV
    go_enter Tryz.func13, Tryz.ntmps13
    go_wp2_with fail
    go_ret
    have hW := HW0.out
    unfold en13 at hW
    rw [← hW]
    exact same_no HN.out U0.out
  have H2 := hid h2
  have t2 : (a.day != b.day) = false := by rw [h2]; simp
  have s2 : (a.day == b.day) = true := beq_iff_eq.2 h2
  clear h2
  by_cases h3 : a.kind = b.kind
  case neg =>
    have HN := hid (show ¬ a = b from fun h => h3 (by rw [h]))
    have t3 : (a.kind != b.kind) = true := bne_iff_ne.2 h3
    have s3 : (a.kind == b.kind) = false := beq_eq_false_iff_ne.2 h3
    clear h3 e0 e1 e2 e3 e4 e5 e6 e7 e8 e9 e10 e11 e12 f0 f1 f2 f3 f4 f5 f6 f7 f8 f9 f10 f11 f12
    unfold enV
    go_enter Tryz.func13, Tryz.ntmps13
    go_wp2_with fail
    go_ret
    have hW := HW0.out
    unfold en13 at hW
    rw [← hW]
    exact same_no HN.out U0.out
  have H3 := hid h3
  have t3 : (a.kind != b.kind) = false := by rw [h3]; simp
  have s3 : (a.kind == b.kind) = true := beq_iff_eq.2 h3
  clear h3
  by_cases h4 : a.circle = b.circle
  case neg =>
    have HN := hid (show ¬ a = b from fun h => h4 (by rw [h]))
    have t4 : (a.circle != b.circle) = true := bne_iff_ne.2 h4
    have s4 : (a.circle == b.circle) = false := beq_eq_false_iff_ne.2 h4
    clear h4 e0 e1 e2 e3 e4 e5 e6 e7 e8 e9 e10 e11 e12 f0 f1 f2 f3 f4 f5 f6 f7 f8 f9 f10 f11 f12
    unfold enV
    go_enter Tryz.func13, Tryz.ntmps13
    go_wp2_with fail
    go_ret
    have hW := HW0.out
    unfold en13 at hW
    rw [← hW]
    exact same_no HN.out U0.out
  have H4 := hid h4
  have t4 : (a.circle != b.circle) = false := by rw [h4]; simp
  have s4 : (a.circle == b.circle) = true := beq_iff_eq.2 h4
  clear h4
  by_cases h5 : a.who = b.who
  case neg =>
    have HN := hid (show ¬ a = b from fun h => h5 (by rw [h]))
    have t5 : (a.who != b.who) = true := bne_iff_ne.2 h5
    have s5 : (a.who == b.who) = false := beq_eq_false_iff_ne.2 h5
    clear h5 e0 e1 e2 e3 e4 e5 e6 e7 e8 e9 e10 e11 e12 f0 f1 f2 f3 f4 f5 f6 f7 f8 f9 f10 f11 f12
    unfold enV
    go_enter Tryz.func13, Tryz.ntmps13
    go_wp2_with fail
    go_ret
    have hW := HW0.out
    unfold en13 at hW
    rw [← hW]
    exact same_no HN.out U0.out
  have H5 := hid h5
  have t5 : (a.who != b.who) = false := by rw [h5]; simp
  have s5 : (a.who == b.who) = true := beq_iff_eq.2 h5
  clear h5
  by_cases h6 : a.n = b.n
  case neg =>
    have HN := hid (show ¬ a = b from fun h => h6 (by rw [h]))
    have t6 : (a.n != b.n) = true := bne_iff_ne.2 h6
    have s6 : (a.n == b.n) = false := beq_eq_false_iff_ne.2 h6
    clear h6 e0 e1 e2 e3 e4 e5 e6 e7 e8 e9 e10 e11 e12 f0 f1 f2 f3 f4 f5 f6 f7 f8 f9 f10 f11 f12
    unfold enV
    go_enter Tryz.func13, Tryz.ntmps13
    go_wp2_with fail
    go_ret
    have hW := HW0.out
    unfold en13 at hW
    rw [← hW]
    exact same_no HN.out U0.out
  have H6 := hid h6
  have t6 : (a.n != b.n) = false := by rw [h6]; simp
  have s6 : (a.n == b.n) = true := beq_iff_eq.2 h6
  clear h6
  by_cases h7 : a.m = b.m
  case neg =>
    have HN := hid (show ¬ a = b from fun h => h7 (by rw [h]))
    have t7 : (a.m != b.m) = true := bne_iff_ne.2 h7
    have s7 : (a.m == b.m) = false := beq_eq_false_iff_ne.2 h7
    clear h7 e0 e1 e2 e3 e4 e5 e6 e7 e8 e9 e10 e11 e12 f0 f1 f2 f3 f4 f5 f6 f7 f8 f9 f10 f11 f12
    unfold enV
    go_enter Tryz.func13, Tryz.ntmps13
    go_wp2_with fail
    go_ret
    have hW := HW0.out
    unfold en13 at hW
    rw [← hW]
    exact same_no HN.out U0.out
  have H7 := hid h7
  have t7 : (a.m != b.m) = false := by rw [h7]; simp
  have s7 : (a.m == b.m) = true := beq_iff_eq.2 h7
  clear h7
  by_cases h8 : a.ref = b.ref
  case neg =>
    have HN := hid (show ¬ a = b from fun h => h8 (by rw [h]))
    have t8 : (a.ref != b.ref) = true := bne_iff_ne.2 h8
    have s8 : (a.ref == b.ref) = false := beq_eq_false_iff_ne.2 h8
    clear h8 e0 e1 e2 e3 e4 e5 e6 e7 e8 e9 e10 e11 e12 f0 f1 f2 f3 f4 f5 f6 f7 f8 f9 f10 f11 f12
    unfold enV
    go_enter Tryz.func13, Tryz.ntmps13
    go_wp2_with fail
    go_ret
    have hW := HW0.out
    unfold en13 at hW
    rw [← hW]
    exact same_no HN.out U0.out
  have H8 := hid h8
  have t8 : (a.ref != b.ref) = false := by rw [h8]; simp
  have s8 : (a.ref == b.ref) = true := beq_iff_eq.2 h8
  clear h8
  by_cases h9 : a.text = b.text
  case neg =>
    have HN := hid (show ¬ a = b from fun h => h9 (by rw [h]))
    have t9 : (a.text != b.text) = true := bne_iff_ne.2 h9
    have s9 : (a.text == b.text) = false := beq_eq_false_iff_ne.2 h9
    clear h9 e0 e1 e2 e3 e4 e5 e6 e7 e8 e9 e10 e11 e12 f0 f1 f2 f3 f4 f5 f6 f7 f8 f9 f10 f11 f12
    unfold enV
    go_enter Tryz.func13, Tryz.ntmps13
    go_wp2_with fail
    go_ret
    have hW := HW0.out
    unfold en13 at hW
    rw [← hW]
    exact same_no HN.out U0.out
  have H9 := hid h9
  have t9 : (a.text != b.text) = false := by rw [h9]; simp
  have s9 : (a.text == b.text) = true := beq_iff_eq.2 h9
  clear h9
  unfold enV
  go_enter Tryz.func13, Tryz.ntmps13
  
  go_wp2_with fail
  have hW := HW0.out
  unfold en13 at hW
  rw [← hW]
  clear hW HW0
  refine (refInts_any _ _ a.knows b.knows A B _ RA.out.knows RB.out.knows HA.out HB.out).mono ?_
  rintro en w1 ⟨rfl, u⟩
  have U1 := hid u
  by_cases hk : a.knows = b.knows
  case neg =>
    rw [decide_eq_false hk]
    have HN := hid (show ¬ a = b from fun h => hk (by rw [h]))
    clear hk u
    go_wp2_with fail
    go_ret
    exact same_no HN.out (U0.out.trans U1.out)
  rw [decide_eq_true hk]
  have HK := hid hk
  have e10 := cell_kept e10 (u.block _ (World.block_lt_of_cell? _ _ e10) id)
  have f10 := cell_kept f10 (u.block _ (World.block_lt_of_cell? _ _ f10) id)
  have e11 := cell_kept e11 (u.block _ (World.block_lt_of_cell? _ _ e11) id)
  have f11 := cell_kept f11 (u.block _ (World.block_lt_of_cell? _ _ f11) id)
  clear hk u
  go_wp2_with fail
  refine (refInts_any _ _ a.keys b.keys A B _ (RA.out.keep U1.out).keys (RB.out.keep U1.out).keys (fun g hg => Nat.lt_of_lt_of_le (HA.out g hg) U1.out.size) (fun g hg => Nat.lt_of_lt_of_le (HB.out g hg) U1.out.size)).mono ?_
  rintro en w2 ⟨rfl, u⟩
  have U2 := hid (U1.out.trans u)
  by_cases hk : a.keys = b.keys
  case neg =>
    rw [decide_eq_false hk]
    have HN := hid (show ¬ a = b from fun h => hk (by rw [h]))
    clear hk u
    go_wp2_with fail
    go_ret
    exact same_no HN.out (U0.out.trans U2.out)
  rw [decide_eq_true hk]
  have HY := hid hk
  have e11 := cell_kept e11 (u.block _ (World.block_lt_of_cell? _ _ e11) id)
  have f11 := cell_kept f11 (u.block _ (World.block_lt_of_cell? _ _ f11) id)
  clear hk u
  go_wp2_with fail
  refine (refSps_any _ _ a.spans b.spans A B _ (RA.out.keep U2.out).spans (RB.out.keep U2.out).spans (fun g hg => Nat.lt_of_lt_of_le (HA.out g hg) U2.out.size) (fun g hg => Nat.lt_of_lt_of_le (HB.out g hg) U2.out.size)).mono ?_
  rintro en w3 ⟨rfl, u⟩
  have U3 := hid (U2.out.trans u)
  have HF := hid (show decide (a.spans = b.spans) = decide (a = b) from decide_eq_decide.2 ⟨fun h => (en_ext_iff a b).2 ⟨⟨H0.out, H1.out, H2.out, H3.out, H4.out, H5.out⟩, ⟨H6.out, H7.out, H8.out, H9.out⟩, HK.out, HY.out, h⟩, fun h => by rw [h]⟩)
  rw [HF.out]
  clear u
  go_wp2_with fail
  go_ret
  exact ⟨rfl, U0.out.trans U3.out⟩
set_option maxHeartbeats 1000000 in
theorem texts_any (v1 v2 : Value) (l1 l2 : List (List UInt8)) (A1 A2 : Nat → Prop) (w : World) (h1 : kStrs.rep A1 w [v1] l1) (h2 : kStrs.rep A2 w [v2] l2) (hA1 : ∀ b, A1 b → b < w.heap.size) (hA2 : ∀ b, A2 b → b < w.heap.size) :
    Calls Tryz.prog 19 #[v1, v2] w fun e w' => e = .returned (.bool (decide (l1 = l2))) ∧ Upd (fun _ => False) w w' := by
  obtain ⟨a1, cap1, rfl, p1, p2, p3⟩ := slice_open h1
  obtain ⟨a2, cap2, rfl, q1, q2, q3⟩ := slice_open h2
  have p2 : cap1 ≤ 9223372036854775807 := p2
  have q2 : cap2 ≤ 9223372036854775807 := q2
  have H1 := hid p3; have H2 := hid q3; have HA1 := hid hA1; have HA2 := hid hA2
  clear h1 h2 p3 q3 hA1 hA2
  by_cases hlen : l1.length = l2.length
  · have hb : ((l1.length : Int) != l2.length) = false := by rw [hlen]; simp
    have hb2 : (l1.length != l2.length) = false := by rw [hlen]; simp
    have HL := hid hlen
    clear hlen
    go_enter Tryz.func19, Tryz.ntmps19
    go_wp2_with fail
    go_loopg [5] l1.length (fun gg s wr => ∃ k : Nat, k ≤ l1.length ∧ gg = l1.length - k ∧ s = .int .i64 k ∧ (∀ i (h : i < l1.length) (h' : i < l2.length), i < k → l1[i] = l2[i]) ∧ Upd (fun _ => False) w wr)
    case atStart => exact ⟨0, Nat.zero_le _, by omega, rfl, fun i _ _ h => absurd h (Nat.not_lt_zero _), Upd.refl _ _⟩
    case round =>
      obtain ⟨k, hk, hg, rfl, he, u⟩ := hrel
      have UU := hid u; have HG := hid hg; have EQ := hid he
      clear u hg he
      by_cases hlt : k < l1.length
      · obtain ⟨b1, o1, rfl, hb1, hel1⟩ := H1.out (by omega)
        have hlt2 : k < l2.length := by have := HL.out; omega
        obtain ⟨b2, o2, rfl, hb2', hel2⟩ := H2.out (by omega)
        have hb1 := HA1.out _ hb1
        have hb2' := HA2.out _ hb2'
        have m1 := cell_kept (str_cells hel1 hlt) (UU.out.block b1 hb1 id)
        have m2 := cell_kept (str_cells hel2 hlt2) (UU.out.block b2 hb2' id)
        have hlti : (k : Int) < l1.length := by omega
        have hlti2 : (k : Int) < l2.length := by omega
        have hk1 : (k : Int) + 1 ≤ 9223372036854775807 := by omega
        obtain ⟨x, ex⟩ : ∃ x, l1[k] = x := ⟨_, rfl⟩
        obtain ⟨y, ey⟩ : ∃ y, l2[k] = y := ⟨_, rfl⟩
        have HX := hid ex; have HY := hid ey
        rw [ex] at m1
        rw [ey] at m2
        clear hel1 hel2 ex ey
        by_cases hx : x = y
        · have q : (x != y) = false := by rw [hx]; simp
          have q2 : (x == y) = true := beq_iff_eq.2 hx
          have HXY := hid hx
          clear hx
          go_wp2_with fail
          go_quiet (fail)
          go_wp2_with fail
          go_roundg (l1.length - (k + 1))
          case measure => have := HG.out; omega
          case rel =>
            refine ⟨k + 1, by omega, rfl, by go_num, fun i h h' hi => ?_, UU.out.drewN _⟩
            by_cases e : i = k
            · subst e; exact HX.out.trans (HXY.out.trans HY.out.symm)
            · exact EQ.out i h h' (by omega)
        · have hd : (l1 = l2) = False := eq_false fun e => hx (by have h1 := HX.out; have h2 := HY.out; subst e; exact h1.symm.trans h2)
          have HD := hid hd
          have q : (x != y) = true := bne_iff_ne.2 hx
          have q2 : (x == y) = false := beq_eq_false_iff_ne.2 hx
          clear hd hx
          go_wp2_with fail
          go_quiet (fail)
          go_wp2_with fail
          go_ret
          exact ⟨by rw [decide_eq_false (of_eq_false HD.out)]; rfl, UU.out.drewN _⟩
      · have hd : l1 = l2 := List.ext_getElem HL.out fun i h h' => EQ.out i h h' (by omega)
        obtain rfl : k = l1.length := by omega
        have HD := hid hd
        clear hd
        go_wp2_with fail
        go_ret
        exact ⟨by rw [decide_eq_true HD.out]; rfl, UU.out⟩
  · have hb : ((l1.length : Int) != l2.length) = true := by rw [bne_iff_ne]; omega
    have hb2 : (l1.length != l2.length) = true := by rw [bne_iff_ne]; omega
    have hd : ¬ l1 = l2 := fun e => hlen (by rw [e])
    have HD := hid hd
    clear hd hlen
    go_enter Tryz.func19, Tryz.ntmps19
    go_wp2_with fail
    go_ret
    exact ⟨by rw [decide_eq_false HD.out]; rfl, Upd.refl _ _⟩
def usesL (us : List UInt8) (n : Nat) : List (List UInt8) := ((usesT.take n).filter fun p => decide (p.1 ∈ us)).map (·.2)
theorem usesL_yes {us : List UInt8} {n : Nat} (hn : n < 8) (h : (usesT[n]'hn).1 ∈ us) : usesL us (n + 1) = usesL us n ++ [(usesT[n]'hn).2] := by
  unfold usesL
  rw [List.take_succ_eq_append_getElem hn, List.filter_append, List.map_append]
  simp [h]
theorem usesL_no {us : List UInt8} {n : Nat} (hn : n < 8) (h : (usesT[n]'hn).1 ∉ us) : usesL us (n + 1) = usesL us n := by
  unfold usesL
  rw [List.take_succ_eq_append_getElem hn, List.filter_append, List.map_append]
  simp [h]
theorem usesL_len (us : List UInt8) (n : Nat) : (usesL us n).length ≤ 8 := by
  unfold usesL
  rw [List.length_map]
  refine Nat.le_trans (List.length_filter_le _ _) ?_
  rw [List.length_take]
  exact Nat.min_le_right _ _
theorem usesL_short (us : List UInt8) (n : Nat) : ∀ x ∈ usesL us n, x.length ≤ 10000000 := by
  intro x hx
  unfold usesL at hx
  obtain ⟨p, hp, rfl⟩ := List.mem_map.1 hx
  have h1 := List.mem_of_mem_take (List.mem_filter.1 hp).1
  have : ∀ q ∈ usesT, q.2.length ≤ 10000000 := by decide
  exact this p h1
theorem ruses_us (k : Int) : ∃ us : List UInt8, (∀ w, Calls Tryz.prog 69 #[.int .i64 k] w fun e w' => e = .returned (.string ⟨us.toArray⟩) ∧ w = w') ∧ usesL us 8 = usesN k ∧ us.length ≤ 1000 := by
  by_cases hk : 0 ≤ k ∧ k < 21
  · refine ⟨useF k, fun w => ruses_any k hk w, usesP_all hk, ?_⟩
    have : ∀ u ∈ useTab, u.length ≤ 1000 := by decide
    unfold useF
    rw [List.getD_eq_getElem?_getD]
    cases h : useTab[k.toNat]? with
    | none => exact Nat.zero_le _
    | some u => exact this u (List.mem_of_getElem? h)
  · refine ⟨[], fun w => ruses_none k hk w, ?_, Nat.zero_le _⟩
    unfold usesN
    rw [if_neg hk]
    rfl
set_option maxRecDepth 100000 in
set_option maxHeartbeats 4000000 in
theorem rusesW_any (k : Int) (w : World) : Calls Tryz.prog 21 #[.int .i64 k] w (UsesPost k w) := by
  obtain ⟨us, hcall, hall, hul⟩ := ruses_us k
  have HC := hid hcall; have HA := hid hall; have HUL := hid hul
  clear hcall hall hul
  go_enter Tryz.func21, Tryz.ntmps21
  go_wp2_with (go_at_call 69; refine (HC.out _).mono ?_; rintro ex wx ⟨rfl, rfl⟩)
  go_loopg [6, 7] 8 (fun gg s6 s7 wr => ∃ pos : Nat, pos ≤ 8 ∧ gg = 8 - pos ∧ s7 = .int .i64 pos ∧ wr.heap[w.heap.size]? = some (.cells #[.string ⟨#[67, 105, 114, 99, 108, 101]⟩, .string ⟨#[87, 104, 111]⟩, .string ⟨#[78]⟩, .string ⟨#[77]⟩, .string ⟨#[82, 101, 102]⟩, .string ⟨#[75, 101, 121, 115]⟩, .string ⟨#[83, 112, 97, 110, 115]⟩, .string ⟨#[84, 101, 120, 116]⟩] 9 (0, 0)) ∧ wr.ownsRow (w.heap.size + 1) 9 1 s6 (usesL us pos).length ((usesL us pos).map fun x => .string ⟨x.toArray⟩) ∧ Upd (fun _ => False) w wr)
  case atStart => exact ⟨0, Nat.zero_le _, rfl, rfl, heap_alloc_new, World.ownsRow_nil _ _ _ _, (Upd.refl _ _).alloc _⟩
  case round =>
    obtain ⟨pos, hp, hg, rfl, hbl, hown, u⟩ := hrel
    have HG := hid hg; have OW := hid hown
    have hsz := heap_lt hbl
    clear hg hown
    by_cases hlt : pos < 8
    case neg =>
      obtain rfl : pos = 8 := by omega
      have own := OW.out
      rw [HA.out] at own
      have hrep := ownsRow_rep1 (K := (kMap kStr fun l : List UInt8 => ⟨l.toArray⟩)) (A := fun g => w.heap.size ≤ g ∧ g < wr.heap.size) rfl (fun x => .string ⟨x.toArray⟩) own (fun x hx => strRep x (usesL_short us 8 x (by rw [HA.out]; exact hx))) fun g hg => ⟨by have := (own.lt g hg).1; omega, (own.lt g hg).2⟩
      obtain ⟨a, c, rfl, _⟩ := slice_open hrep
      have REP := hid hrep
      have U := hid u
      clear hbl u own hrep OW
      go_wp2_with fail
      go_ret
      exact ⟨a, c, rfl, REP.out, U.out⟩
    have hlti : (pos : Int) < 8 := by omega
    obtain ⟨c, hc⟩ : ∃ c, letters[pos]'hlt = c := ⟨_, rfl⟩
    obtain ⟨nm, hnm⟩ : ∃ x, (usesT[pos]'hlt).2 = x := ⟨_, rfl⟩
    have hut : (usesT[pos]'hlt).1 = c := by
      rw [← hc]
      have : ∀ i (h : i < 8), (usesT[i]'h).1 = letters[i]'h := by decide
      exact this pos hlt
    have hix : ∀ h, (ByteArray.mk #[99, 119, 110, 109, 114, 107, 115, 116])[pos]'h = c := fun h => hc
    have n0 : wr.cell? ⟨w.heap.size, pos, none⟩ = some (.string ⟨nm.toArray⟩) := by
      rw [cell_of_block hbl, ← hnm]
      have : ∀ i (h : i < 8), (#[.string ⟨#[67, 105, 114, 99, 108, 101]⟩, .string ⟨#[87, 104, 111]⟩, .string ⟨#[78]⟩, .string ⟨#[77]⟩, .string ⟨#[82, 101, 102]⟩, .string ⟨#[75, 101, 121, 115]⟩, .string ⟨#[83, 112, 97, 110, 115]⟩, .string ⟨#[84, 101, 120, 116]⟩] : Array Value)[i]? = some (.string ⟨((usesT[i]'h).2).toArray⟩) := by
        intro i h
        have : i = 0 ∨ i = 1 ∨ i = 2 ∨ i = 3 ∨ i = 4 ∨ i = 5 ∨ i = 6 ∨ i = 7 := by omega
        rcases this with rfl | rfl | rfl | rfl | rfl | rfl | rfl | rfl <;> rfl
      exact this pos hlt
    have UU := hid u; have BL := hid hbl
    have hl8 := usesL_len us pos
    by_cases hin : c ∈ us
    case neg =>
      have HIN := hid hin
      have HNX := hid (usesL_no (us := us) hlt (by rw [hut]; exact hin))
      clear hbl u hc hin hut hnm n0
      go_wp2_with (go_at_call 70; refine (rin_any us c _ rfl HUL.out _).mono ?_; rintro ex wx ⟨rfl, rfl⟩; rw [decide_eq_false HIN.out])
      go_roundg (8 - (pos + 1))
      case measure => have := HG.out; omega
      case rel => exact ⟨pos + 1, by omega, rfl, by go_num, BL.out, by rw [HNX.out]; exact OW.out, UU.out⟩
    have HIN := hid hin
    have HNX := hid (usesL_yes (us := us) hlt (by rw [hut]; exact hin))
    rw [hnm] at HNX
    obtain ⟨v', w5, r5, o5, u5, n5⟩ := append_one elemS OW.out #[.string ⟨nm.toArray⟩] rfl (by simp [Value.oneCell']) (by unfold maxLen; omega) (by omega) (by omega) 34 (0, 0)
    have O5 := hid o5
    have BL5 := hid ((u5.block _ hsz (fun e => by have := (OW.out.lt _ e).1; omega)).trans hbl)
    have U5 := hid (u.comp u5 fun i hi e => by have := (OW.out.lt i e).1; omega)
    clear hbl u hc hin hut hnm o5 u5 n5
    go_wp2_with (first | (go_at_call 70; refine (rin_any us c _ rfl HUL.out _).mono ?_; rintro ex wx ⟨rfl, rfl⟩; rw [decide_eq_true HIN.out]) | (at_builtin; refine wpList_append_run rfl _ _ _ _ rfl rfl rfl r5 ?_))
    go_roundg (8 - (pos + 1))
    case measure => have := HG.out; omega
    case rel => exact ⟨pos + 1, by omega, rfl, by go_num, BL5.out, by rw [HNX.out, List.length_append, List.map_append]; exact O5.out, U5.out⟩
end Go.Proofs.YtdcahnkcnbhknaaGreatDoor
