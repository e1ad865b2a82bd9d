/- sms.Part returns what the plain model says. -/
import Derived.Test.YtabnniabofhihaaDoorWrC3
import Derived.Test.YtabnniabofhihaaDoorSmModel
namespace Go.Proofs.YtabnniabofhihaaDoor
open Go.RowKit Go.Deep

theorem results_tmp5 {fn : Func} {a b c d e : Tmp} (h : fn.results = #[.tmp a, .tmp b, .tmp c, .tmp d, .tmp e]) (tmps : Array Value) (P : Program) (w : World) :
    (results fn tmps).run P w = .ok (.tuple #[tmps.getD a undef, tmps.getD b undef, tmps.getD c undef, tmps.getD d undef, tmps.getD e undef]) w := by
  simp [results, h]
def partR (s : Bs) : Value := match partF s with
  | some p => .tuple #[.int .i64 p.id, .int .i64 p.index, .int .i64 p.count, .string ⟨p.bytes.toArray⟩, .int .i64 0]
  | none => .tuple #[.int .i64 0, .int .i64 0, .int .i64 0, .string ⟨#[]⟩, .int .i64 2]
theorem numE_len {n : Int} (h : I64 n) : (numE n).length ≤ 21 := by
  unfold numE
  split
  · exact Nat.zero_le _
  · unfold intE; rw [List.length_append]; have := itoa_len h; simp; omega
set_option maxRecDepth 100000 in
set_option maxHeartbeats 4000000 in
theorem part_any (s : Bs) (w : World) (E : Env w) (hz : 6 ≤ w.heap.size) (hl : s.length ≤ 10000000) :
    Calls Tryd.prog 9 #[.string ⟨s.toArray⟩] w fun e w' => e = .returned (partR s) ∧ Upd (fun _ => False) w w' := by
  have HE := hid E; have HL := hid hl; have HZ := hid hz
  have hpt : partF s = if PtOk s (rawF s) then some (rawF s) else none := rfl
  have hraw : rawF s = ⟨(numF ⟨s, false⟩).1, (numF (numF ⟨s, false⟩).2).1, (numF (numF (numF ⟨s, false⟩).2).2).1, (numF (numF (numF ⟨s, false⟩).2).2).2.rest⟩ := rfl
  have l1 : (numF ⟨s, false⟩).2.rest.length ≤ s.length := Nat.le_trans (numberF_len _ _ _) (Nat.sub_le _ _)
  have l2 := numberF_len 59 0 (numF ⟨s, false⟩).2
  have l3 := numberF_len 59 0 (numF (numF ⟨s, false⟩).2).2
  have i1 := numberF_i64 59 0 ⟨s, false⟩
  have i2 := numberF_i64 59 0 (numF ⟨s, false⟩).2
  have i3 := numberF_i64 59 0 (numF (numF ⟨s, false⟩).2).2
  change I64 (numF ⟨s, false⟩).1 at i1
  change I64 (numF (numF ⟨s, false⟩).2).1 at i2
  change I64 (numF (numF (numF ⟨s, false⟩).2).2).1 at i3
  change (numF (numF ⟨s, false⟩).2).2.rest.length ≤ _ at l2
  change (numF (numF (numF ⟨s, false⟩).2).2).2.rest.length ≤ _ at l3
  obtain ⟨a, ha⟩ : ∃ x, (numF ⟨s, false⟩) = x := ⟨_, rfl⟩
  rw [ha] at l1 l2 l3 i1 i2 i3 hraw
  obtain ⟨b, hb⟩ : ∃ x, numF a.2 = x := ⟨_, rfl⟩
  rw [hb] at l2 l3 i2 i3 hraw
  obtain ⟨c, hc⟩ : ∃ x, numF b.2 = x := ⟨_, rfl⟩
  rw [hc] at l3 i3 hraw
  obtain ⟨n1, r1⟩ := a; obtain ⟨n2, r2⟩ := b; obtain ⟨n3, rest3, bad3⟩ := c
  dsimp only at *
  have L1 := hid (show r1.rest.length ≤ 10000000 by omega); have L2 := hid (show r2.rest.length ≤ 10000000 by omega); have L3 := hid (show rest3.length ≤ 10000000 by omega)
  have HA := hid ha; have HB := hid hb; have HC := hid hc; have I1 := hid i1; have I2 := hid i2; have I3 := hid i3; have HRAW := hid hraw; have HPT := hid hpt
  clear E hl hz l1 l2 l3 i1 i2 i3 ha hb hc hraw hpt
  have no : ¬ PtOk s (rawF s) → partR s = .tuple #[.int .i64 0, .int .i64 0, .int .i64 0, .string ⟨#[]⟩, .int .i64 2] := fun h => by unfold partR; rw [HPT.out, if_neg h]
  have yes : PtOk s (rawF s) → partR s = .tuple #[.int .i64 n1, .int .i64 n2, .int .i64 n3, .string ⟨rest3.toArray⟩, .int .i64 0] := fun h => by unfold partR; rw [HPT.out, if_pos h, HRAW.out]
  have hm := maxMark_eq
  have NO := hid no; have YES := hid yes; have HM := hid hm
  clear no yes hm

  by_cases t1 : n1 ≤ 1073741824
  case neg =>
    have W := hid (show ¬ PtOk s (rawF s) from fun h => by have h1 := h.1; rw [HRAW.out] at h1; dsimp only at h1; exact t1 (by have := HM.out; omega))
    have t1b : decide (n1 ≤ 1073741824) = false := decide_eq_false t1
    go_enter Tryd.func9, Tryd.ntmps9
    go_wp2_with fail
    refine (open_any s w).mono ?_
    rintro e w1 ⟨rfl, hr, u⟩
    have R1 := hid hr; have U1 := hid u; have HB1 := hid (show 6 ≤ w.heap.size from HZ.out)
    clear hr u
    obtain ⟨pb, hpb⟩ : ∃ x, w.heap.size = x := ⟨_, rfl⟩
    have HPB := hid hpb
    rw [hpb]
    replace R1 := hid (hpb ▸ R1.out)
    clear hpb
    go_wp2_with fail
    refine (numR_any pb ⟨s, false⟩ _ (HE.out.keep0 U1.out) R1.out (by have := HZ.out; have := HPB.out; omega) HL.out).mono ?_
    rintro e w2 ⟨rfl, hr, u⟩
    rw [HA.out] at hr ⊢
    have R2 := hid hr; have U2 := hid (U1.out.comp u fun i hi e => by have := HPB.out; omega)
    clear hr u
    go_wp2_with fail
    refine (numR_any pb r1 _ (HE.out.keep0 U2.out) R2.out (by have := HZ.out; have := HPB.out; omega) L1.out).mono ?_
    rintro e w3 ⟨rfl, hr, u⟩
    rw [HB.out] at hr ⊢
    have R3 := hid hr; have U3 := hid (U2.out.comp u fun i hi e => by have := HPB.out; omega)
    clear hr u
    go_wp2_with fail
    refine (numR_any pb r2 _ (HE.out.keep0 U3.out) R3.out (by have := HZ.out; have := HPB.out; omega) L2.out).mono ?_
    rintro e w4 ⟨rfl, hr, u⟩
    rw [HC.out] at hr ⊢
    have R4 := hid hr; have U4 := hid (U3.out.comp u fun i hi e => by have := HPB.out; omega)
    clear hr u
    go_wp2_with fail
    refine (rest_any pb ⟨rest3, bad3⟩ _ R4.out).mono ?_
    rintro e w5 ⟨rfl, hr, u⟩
    have U5 := hid (U4.out.comp u fun i hi e => by have := HPB.out; omega)
    clear hr u
    dsimp only
    go_wp2_with fail
    (try simp only [Exit.inBlock, Exit.then])
    refine bodyPost_ret (results_tmp5 rfl _ _ _) rfl ?_
    exact ⟨by rw [NO.out (W.out)]; rfl, U5.out⟩
  have t1b : decide (n1 ≤ 1073741824) = true := decide_eq_true t1
  by_cases t2 : n2 < n3
  case neg =>
    have W := hid (show ¬ PtOk s (rawF s) from fun h => by have h1 := h.2.1; rw [HRAW.out] at h1; exact t2 h1)
    have t2b : decide (n2 < n3) = false := decide_eq_false t2
    go_enter Tryd.func9, Tryd.ntmps9
    go_wp2_with fail
    refine (open_any s w).mono ?_
    rintro e w1 ⟨rfl, hr, u⟩
    have R1 := hid hr; have U1 := hid u; have HB1 := hid (show 6 ≤ w.heap.size from HZ.out)
    clear hr u
    obtain ⟨pb, hpb⟩ : ∃ x, w.heap.size = x := ⟨_, rfl⟩
    have HPB := hid hpb
    rw [hpb]
    replace R1 := hid (hpb ▸ R1.out)
    clear hpb
    go_wp2_with fail
    refine (numR_any pb ⟨s, false⟩ _ (HE.out.keep0 U1.out) R1.out (by have := HZ.out; have := HPB.out; omega) HL.out).mono ?_
    rintro e w2 ⟨rfl, hr, u⟩
    rw [HA.out] at hr ⊢
    have R2 := hid hr; have U2 := hid (U1.out.comp u fun i hi e => by have := HPB.out; omega)
    clear hr u
    go_wp2_with fail
    refine (numR_any pb r1 _ (HE.out.keep0 U2.out) R2.out (by have := HZ.out; have := HPB.out; omega) L1.out).mono ?_
    rintro e w3 ⟨rfl, hr, u⟩
    rw [HB.out] at hr ⊢
    have R3 := hid hr; have U3 := hid (U2.out.comp u fun i hi e => by have := HPB.out; omega)
    clear hr u
    go_wp2_with fail
    refine (numR_any pb r2 _ (HE.out.keep0 U3.out) R3.out (by have := HZ.out; have := HPB.out; omega) L2.out).mono ?_
    rintro e w4 ⟨rfl, hr, u⟩
    rw [HC.out] at hr ⊢
    have R4 := hid hr; have U4 := hid (U3.out.comp u fun i hi e => by have := HPB.out; omega)
    clear hr u
    go_wp2_with fail
    refine (rest_any pb ⟨rest3, bad3⟩ _ R4.out).mono ?_
    rintro e w5 ⟨rfl, hr, u⟩
    have U5 := hid (U4.out.comp u fun i hi e => by have := HPB.out; omega)
    clear hr u
    dsimp only
    go_wp2_with fail
    (try simp only [Exit.inBlock, Exit.then])
    refine bodyPost_ret (results_tmp5 rfl _ _ _) rfl ?_
    exact ⟨by rw [NO.out (W.out)]; rfl, U5.out⟩
  have t2b : decide (n2 < n3) = true := decide_eq_true t2
  by_cases t3 : n3 ≤ 2500
  case neg =>
    have W := hid (show ¬ PtOk s (rawF s) from fun h => by have h1 := h.2.2.1; rw [HRAW.out] at h1; exact t3 h1)
    have t3b : decide (n3 ≤ 2500) = false := decide_eq_false t3
    go_enter Tryd.func9, Tryd.ntmps9
    go_wp2_with fail
    refine (open_any s w).mono ?_
    rintro e w1 ⟨rfl, hr, u⟩
    have R1 := hid hr; have U1 := hid u; have HB1 := hid (show 6 ≤ w.heap.size from HZ.out)
    clear hr u
    obtain ⟨pb, hpb⟩ : ∃ x, w.heap.size = x := ⟨_, rfl⟩
    have HPB := hid hpb
    rw [hpb]
    replace R1 := hid (hpb ▸ R1.out)
    clear hpb
    go_wp2_with fail
    refine (numR_any pb ⟨s, false⟩ _ (HE.out.keep0 U1.out) R1.out (by have := HZ.out; have := HPB.out; omega) HL.out).mono ?_
    rintro e w2 ⟨rfl, hr, u⟩
    rw [HA.out] at hr ⊢
    have R2 := hid hr; have U2 := hid (U1.out.comp u fun i hi e => by have := HPB.out; omega)
    clear hr u
    go_wp2_with fail
    refine (numR_any pb r1 _ (HE.out.keep0 U2.out) R2.out (by have := HZ.out; have := HPB.out; omega) L1.out).mono ?_
    rintro e w3 ⟨rfl, hr, u⟩
    rw [HB.out] at hr ⊢
    have R3 := hid hr; have U3 := hid (U2.out.comp u fun i hi e => by have := HPB.out; omega)
    clear hr u
    go_wp2_with fail
    refine (numR_any pb r2 _ (HE.out.keep0 U3.out) R3.out (by have := HZ.out; have := HPB.out; omega) L2.out).mono ?_
    rintro e w4 ⟨rfl, hr, u⟩
    rw [HC.out] at hr ⊢
    have R4 := hid hr; have U4 := hid (U3.out.comp u fun i hi e => by have := HPB.out; omega)
    clear hr u
    go_wp2_with fail
    refine (rest_any pb ⟨rest3, bad3⟩ _ R4.out).mono ?_
    rintro e w5 ⟨rfl, hr, u⟩
    have U5 := hid (U4.out.comp u fun i hi e => by have := HPB.out; omega)
    clear hr u
    dsimp only
    go_wp2_with fail
    (try simp only [Exit.inBlock, Exit.then])
    refine bodyPost_ret (results_tmp5 rfl _ _ _) rfl ?_
    exact ⟨by rw [NO.out (W.out)]; rfl, U5.out⟩
  have t3b : decide (n3 ≤ 2500) = true := decide_eq_true t3
  by_cases t4 : s.length ≤ 140
  case neg =>
    have W := hid (show ¬ PtOk s (rawF s) from fun h => t4 h.2.2.2.1)
    have t4b : decide (s.length ≤ 140) = false := decide_eq_false t4
    have t4c : decide ((s.length : Int) ≤ 140) = false := decide_eq_false (by omega)
    go_enter Tryd.func9, Tryd.ntmps9
    go_wp2_with fail
    refine (open_any s w).mono ?_
    rintro e w1 ⟨rfl, hr, u⟩
    have R1 := hid hr; have U1 := hid u; have HB1 := hid (show 6 ≤ w.heap.size from HZ.out)
    clear hr u
    obtain ⟨pb, hpb⟩ : ∃ x, w.heap.size = x := ⟨_, rfl⟩
    have HPB := hid hpb
    rw [hpb]
    replace R1 := hid (hpb ▸ R1.out)
    clear hpb
    go_wp2_with fail
    refine (numR_any pb ⟨s, false⟩ _ (HE.out.keep0 U1.out) R1.out (by have := HZ.out; have := HPB.out; omega) HL.out).mono ?_
    rintro e w2 ⟨rfl, hr, u⟩
    rw [HA.out] at hr ⊢
    have R2 := hid hr; have U2 := hid (U1.out.comp u fun i hi e => by have := HPB.out; omega)
    clear hr u
    go_wp2_with fail
    refine (numR_any pb r1 _ (HE.out.keep0 U2.out) R2.out (by have := HZ.out; have := HPB.out; omega) L1.out).mono ?_
    rintro e w3 ⟨rfl, hr, u⟩
    rw [HB.out] at hr ⊢
    have R3 := hid hr; have U3 := hid (U2.out.comp u fun i hi e => by have := HPB.out; omega)
    clear hr u
    go_wp2_with fail
    refine (numR_any pb r2 _ (HE.out.keep0 U3.out) R3.out (by have := HZ.out; have := HPB.out; omega) L2.out).mono ?_
    rintro e w4 ⟨rfl, hr, u⟩
    rw [HC.out] at hr ⊢
    have R4 := hid hr; have U4 := hid (U3.out.comp u fun i hi e => by have := HPB.out; omega)
    clear hr u
    go_wp2_with fail
    refine (rest_any pb ⟨rest3, bad3⟩ _ R4.out).mono ?_
    rintro e w5 ⟨rfl, hr, u⟩
    have U5 := hid (U4.out.comp u fun i hi e => by have := HPB.out; omega)
    clear hr u
    dsimp only
    go_wp2_with fail
    (try simp only [Exit.inBlock, Exit.then])
    refine bodyPost_ret (results_tmp5 rfl _ _ _) rfl ?_
    exact ⟨by rw [NO.out (W.out)]; rfl, U5.out⟩
  have t4c : (s.length : Int) ≤ 140 := by omega
  by_cases t5 : rest3 = [] ∧ n3 ≠ 1
  case pos =>
    have W := hid (show ¬ PtOk s (rawF s) from fun h => by
      have h1 := h.2.2.2.2.1; rw [HRAW.out] at h1
      rcases h1 with h1 | h1
      · exact h1 t5.1
      · exact t5.2 h1)
    obtain ⟨t5, t6⟩ := t5
    subst t5
    have t6b : (n3 == 1) = false := beq_eq_false_iff_ne.2 t6
    clear NO YES HRAW
    have NO : Hid (¬ PtOk s (rawF s) → partR s = .tuple #[.int .i64 0, .int .i64 0, .int .i64 0, .string ⟨#[]⟩, .int .i64 2]) := hid fun h => by unfold partR; rw [HPT.out, if_neg h]
    go_enter Tryd.func9, Tryd.ntmps9
    go_wp2_with fail
    refine (open_any s w).mono ?_
    rintro e w1 ⟨rfl, hr, u⟩
    have R1 := hid hr; have U1 := hid u; have HB1 := hid (show 6 ≤ w.heap.size from HZ.out)
    clear hr u
    obtain ⟨pb, hpb⟩ : ∃ x, w.heap.size = x := ⟨_, rfl⟩
    have HPB := hid hpb
    rw [hpb]
    replace R1 := hid (hpb ▸ R1.out)
    clear hpb
    go_wp2_with fail
    refine (numR_any pb ⟨s, false⟩ _ (HE.out.keep0 U1.out) R1.out (by have := HZ.out; have := HPB.out; omega) HL.out).mono ?_
    rintro e w2 ⟨rfl, hr, u⟩
    rw [HA.out] at hr ⊢
    have R2 := hid hr; have U2 := hid (U1.out.comp u fun i hi e => by have := HPB.out; omega)
    clear hr u
    go_wp2_with fail
    refine (numR_any pb r1 _ (HE.out.keep0 U2.out) R2.out (by have := HZ.out; have := HPB.out; omega) L1.out).mono ?_
    rintro e w3 ⟨rfl, hr, u⟩
    rw [HB.out] at hr ⊢
    have R3 := hid hr; have U3 := hid (U2.out.comp u fun i hi e => by have := HPB.out; omega)
    clear hr u
    go_wp2_with fail
    refine (numR_any pb r2 _ (HE.out.keep0 U3.out) R3.out (by have := HZ.out; have := HPB.out; omega) L2.out).mono ?_
    rintro e w4 ⟨rfl, hr, u⟩
    rw [HC.out] at hr ⊢
    have R4 := hid hr; have U4 := hid (U3.out.comp u fun i hi e => by have := HPB.out; omega)
    clear hr u
    go_wp2_with fail
    refine (rest_any pb ⟨[], bad3⟩ _ R4.out).mono ?_
    rintro e w5 ⟨rfl, hr, u⟩
    have U5 := hid (U4.out.comp u fun i hi e => by have := HPB.out; omega)
    clear hr u
    dsimp only
    go_wp2_with fail
    (try simp only [Exit.inBlock, Exit.then])
    refine bodyPost_ret (results_tmp5 rfl _ _ _) rfl ?_
    exact ⟨by rw [NO.out (W.out)]; rfl, U5.out⟩
  by_cases t8 : rest3 = []
  case neg =>
    have t8b : (rest3 == []) = false := beq_eq_false_iff_ne.2 t8
    obtain ⟨s2, h2⟩ : ∃ x, numE n1 ++ numE n2 = x := ⟨_, rfl⟩
    obtain ⟨s3, h3⟩ : ∃ x, s2 ++ numE n3 = x := ⟨_, rfl⟩
    obtain ⟨pe, h4⟩ : ∃ x, s3 ++ rest3 = x := ⟨_, rfl⟩
    have HPE := hid (show partE n1 n2 n3 rest3 = pe by unfold partE; rw [h2, h3, h4])
    have m1 := numE_len I1.out
    have m2 := numE_len I2.out
    have m3 := numE_len I3.out
    have l3 := L3.out
    have m4 : s2.length ≤ 42 := by rw [← h2, List.length_append]; omega
    have m5 : s3.length ≤ 63 := by rw [← h3, List.length_append]; omega
    have a1 : ∀ w, (Op.stringOp .add ⟨(numE n1).toArray⟩ ⟨(numE n2).toArray⟩).run Tryd.prog w = .ok (.string ⟨s2.toArray⟩) w := fun w => by rw [add_lists _ _ (by omega), h2]
    have a2 : ∀ w, (Op.stringOp .add ⟨s2.toArray⟩ ⟨(numE n3).toArray⟩).run Tryd.prog w = .ok (.string ⟨s3.toArray⟩) w := fun w => by rw [add_lists _ _ (by omega), h3]
    have a3 : ∀ w, (Op.stringOp .add ⟨s3.toArray⟩ ⟨rest3.toArray⟩).run Tryd.prog w = .ok (.string ⟨pe.toArray⟩) w := fun w => by rw [add_lists _ _ (by omega), h4]
    clear h2 h3 h4 m1 m2 m3 m4 m5 l3
    by_cases t7 : pe = s
    case pos =>
      have W := hid (show PtOk s (rawF s) by rw [HRAW.out]; exact ⟨by have := HM.out; dsimp only; omega, t2, t3, t4, .inl t8, by dsimp only; rw [HPE.out]; exact t7⟩)
      have t7b : (pe == s) = true := beq_iff_eq.2 t7
      clear t7
      go_enter Tryd.func9, Tryd.ntmps9
      go_wp2_with fail
      refine (open_any s w).mono ?_
      rintro e w1 ⟨rfl, hr, u⟩
      have R1 := hid hr; have U1 := hid u; have HB1 := hid (show 6 ≤ w.heap.size from HZ.out)
      clear hr u
      obtain ⟨pb, hpb⟩ : ∃ x, w.heap.size = x := ⟨_, rfl⟩
      have HPB := hid hpb
      rw [hpb]
      replace R1 := hid (hpb ▸ R1.out)
      clear hpb
      go_wp2_with fail
      refine (numR_any pb ⟨s, false⟩ _ (HE.out.keep0 U1.out) R1.out (by have := HZ.out; have := HPB.out; omega) HL.out).mono ?_
      rintro e w2 ⟨rfl, hr, u⟩
      rw [HA.out] at hr ⊢
      have R2 := hid hr; have U2 := hid (U1.out.comp u fun i hi e => by have := HPB.out; omega)
      clear hr u
      go_wp2_with fail
      refine (numR_any pb r1 _ (HE.out.keep0 U2.out) R2.out (by have := HZ.out; have := HPB.out; omega) L1.out).mono ?_
      rintro e w3 ⟨rfl, hr, u⟩
      rw [HB.out] at hr ⊢
      have R3 := hid hr; have U3 := hid (U2.out.comp u fun i hi e => by have := HPB.out; omega)
      clear hr u
      go_wp2_with fail
      refine (numR_any pb r2 _ (HE.out.keep0 U3.out) R3.out (by have := HZ.out; have := HPB.out; omega) L2.out).mono ?_
      rintro e w4 ⟨rfl, hr, u⟩
      rw [HC.out] at hr ⊢
      have R4 := hid hr; have U4 := hid (U3.out.comp u fun i hi e => by have := HPB.out; omega)
      clear hr u
      go_wp2_with fail
      refine (rest_any pb ⟨rest3, bad3⟩ _ R4.out).mono ?_
      rintro e w5 ⟨rfl, hr, u⟩
      have U5 := hid (U4.out.comp u fun i hi e => by have := HPB.out; omega)
      clear hr u
      dsimp only
      go_wp2_with fail
      refine (numE_any _ I1.out _ (HE.out.keep0 U5.out)).mono ?_
      rintro e w6 ⟨rfl, u⟩
      have U6 := hid (U5.out.trans u); clear u
      go_wp2_with fail
      refine (numE_any _ I2.out _ (HE.out.keep0 U6.out)).mono ?_
      rintro e w7 ⟨rfl, u⟩
      have U7 := hid (U6.out.trans u); clear u
      go_wp2_with fail
      refine (numE_any _ I3.out _ (HE.out.keep0 U7.out)).mono ?_
      rintro e w8 ⟨rfl, u⟩
      have U8 := hid (U7.out.trans u); clear u
      go_wp2_with fail
      (try simp only [Exit.inBlock, Exit.then])
      refine bodyPost_ret (results_tmp5 rfl _ _ _) rfl ?_
      exact ⟨by rw [YES.out W.out]; rfl, U8.out⟩
    case neg =>
      have W := hid (show ¬ PtOk s (rawF s) from fun h => by have h1 := h.2.2.2.2.2; rw [HRAW.out] at h1; dsimp only at h1; rw [HPE.out] at h1; exact t7 h1)
      have t7b : (pe == s) = false := beq_eq_false_iff_ne.2 t7
      go_enter Tryd.func9, Tryd.ntmps9
      go_wp2_with fail
      refine (open_any s w).mono ?_
      rintro e w1 ⟨rfl, hr, u⟩
      have R1 := hid hr; have U1 := hid u; have HB1 := hid (show 6 ≤ w.heap.size from HZ.out)
      clear hr u
      obtain ⟨pb, hpb⟩ : ∃ x, w.heap.size = x := ⟨_, rfl⟩
      have HPB := hid hpb
      rw [hpb]
      replace R1 := hid (hpb ▸ R1.out)
      clear hpb
      go_wp2_with fail
      refine (numR_any pb ⟨s, false⟩ _ (HE.out.keep0 U1.out) R1.out (by have := HZ.out; have := HPB.out; omega) HL.out).mono ?_
      rintro e w2 ⟨rfl, hr, u⟩
      rw [HA.out] at hr ⊢
      have R2 := hid hr; have U2 := hid (U1.out.comp u fun i hi e => by have := HPB.out; omega)
      clear hr u
      go_wp2_with fail
      refine (numR_any pb r1 _ (HE.out.keep0 U2.out) R2.out (by have := HZ.out; have := HPB.out; omega) L1.out).mono ?_
      rintro e w3 ⟨rfl, hr, u⟩
      rw [HB.out] at hr ⊢
      have R3 := hid hr; have U3 := hid (U2.out.comp u fun i hi e => by have := HPB.out; omega)
      clear hr u
      go_wp2_with fail
      refine (numR_any pb r2 _ (HE.out.keep0 U3.out) R3.out (by have := HZ.out; have := HPB.out; omega) L2.out).mono ?_
      rintro e w4 ⟨rfl, hr, u⟩
      rw [HC.out] at hr ⊢
      have R4 := hid hr; have U4 := hid (U3.out.comp u fun i hi e => by have := HPB.out; omega)
      clear hr u
      go_wp2_with fail
      refine (rest_any pb ⟨rest3, bad3⟩ _ R4.out).mono ?_
      rintro e w5 ⟨rfl, hr, u⟩
      have U5 := hid (U4.out.comp u fun i hi e => by have := HPB.out; omega)
      clear hr u
      dsimp only
      go_wp2_with fail
      refine (numE_any _ I1.out _ (HE.out.keep0 U5.out)).mono ?_
      rintro e w6 ⟨rfl, u⟩
      have U6 := hid (U5.out.trans u); clear u
      go_wp2_with fail
      refine (numE_any _ I2.out _ (HE.out.keep0 U6.out)).mono ?_
      rintro e w7 ⟨rfl, u⟩
      have U7 := hid (U6.out.trans u); clear u
      go_wp2_with fail
      refine (numE_any _ I3.out _ (HE.out.keep0 U7.out)).mono ?_
      rintro e w8 ⟨rfl, u⟩
      have U8 := hid (U7.out.trans u); clear u
      go_wp2_with fail
      (try simp only [Exit.inBlock, Exit.then])
      refine bodyPost_ret (results_tmp5 rfl _ _ _) rfl ?_
      exact ⟨by rw [NO.out W.out]; rfl, U8.out⟩
  have t9 : n3 = 1 := Classical.byContradiction fun e => t5 ⟨t8, e⟩
  clear t5
  subst t8
  subst t9
  obtain ⟨s2, h2⟩ : ∃ x, numE n1 ++ numE n2 = x := ⟨_, rfl⟩
  obtain ⟨s3, h3⟩ : ∃ x, s2 ++ numE 1 = x := ⟨_, rfl⟩
  obtain ⟨pe, h4⟩ : ∃ x, s3 ++ [] = x := ⟨_, rfl⟩
  have HPE := hid (show partE n1 n2 1 [] = pe by unfold partE; rw [h2, h3, h4])
  have m1 := numE_len I1.out
  have m2 := numE_len I2.out
  have m3 := numE_len I3.out
  have l3 := L3.out
  have m4 : s2.length ≤ 42 := by rw [← h2, List.length_append]; omega
  have m5 : s3.length ≤ 63 := by rw [← h3, List.length_append]; omega
  have a1 : ∀ w, (Op.stringOp .add ⟨(numE n1).toArray⟩ ⟨(numE n2).toArray⟩).run Tryd.prog w = .ok (.string ⟨s2.toArray⟩) w := fun w => by rw [add_lists _ _ (by omega), h2]
  have a2 : ∀ w, (Op.stringOp .add ⟨s2.toArray⟩ ⟨(numE 1).toArray⟩).run Tryd.prog w = .ok (.string ⟨s3.toArray⟩) w := fun w => by rw [add_lists _ _ (by omega), h3]
  have a3 : ∀ w, (Op.stringOp .add ⟨s3.toArray⟩ ⟨#[]⟩).run Tryd.prog w = .ok (.string ⟨pe.toArray⟩) w := fun w => (add_lists s3 [] (by simp; omega) w).trans (by rw [h4])
  clear h2 h3 h4 m1 m2 m3 m4 m5 l3
  by_cases t7 : pe = s
  case pos =>
    have W := hid (show PtOk s (rawF s) by rw [HRAW.out]; exact ⟨by have := HM.out; dsimp only; omega, t2, t3, t4, .inr rfl, by dsimp only; rw [HPE.out]; exact t7⟩)
    have t7b : (pe == s) = true := beq_iff_eq.2 t7
    clear t7
    go_enter Tryd.func9, Tryd.ntmps9
    go_wp2_with fail
    refine (open_any s w).mono ?_
    rintro e w1 ⟨rfl, hr, u⟩
    have R1 := hid hr; have U1 := hid u; have HB1 := hid (show 6 ≤ w.heap.size from HZ.out)
    clear hr u
    obtain ⟨pb, hpb⟩ : ∃ x, w.heap.size = x := ⟨_, rfl⟩
    have HPB := hid hpb
    rw [hpb]
    replace R1 := hid (hpb ▸ R1.out)
    clear hpb
    go_wp2_with fail
    refine (numR_any pb ⟨s, false⟩ _ (HE.out.keep0 U1.out) R1.out (by have := HZ.out; have := HPB.out; omega) HL.out).mono ?_
    rintro e w2 ⟨rfl, hr, u⟩
    rw [HA.out] at hr ⊢
    have R2 := hid hr; have U2 := hid (U1.out.comp u fun i hi e => by have := HPB.out; omega)
    clear hr u
    go_wp2_with fail
    refine (numR_any pb r1 _ (HE.out.keep0 U2.out) R2.out (by have := HZ.out; have := HPB.out; omega) L1.out).mono ?_
    rintro e w3 ⟨rfl, hr, u⟩
    rw [HB.out] at hr ⊢
    have R3 := hid hr; have U3 := hid (U2.out.comp u fun i hi e => by have := HPB.out; omega)
    clear hr u
    go_wp2_with fail
    refine (numR_any pb r2 _ (HE.out.keep0 U3.out) R3.out (by have := HZ.out; have := HPB.out; omega) L2.out).mono ?_
    rintro e w4 ⟨rfl, hr, u⟩
    rw [HC.out] at hr ⊢
    have R4 := hid hr; have U4 := hid (U3.out.comp u fun i hi e => by have := HPB.out; omega)
    clear hr u
    go_wp2_with fail
    refine (rest_any pb ⟨[], bad3⟩ _ R4.out).mono ?_
    rintro e w5 ⟨rfl, hr, u⟩
    have U5 := hid (U4.out.comp u fun i hi e => by have := HPB.out; omega)
    clear hr u
    dsimp only
    go_wp2_with fail
    refine (numE_any _ I1.out _ (HE.out.keep0 U5.out)).mono ?_
    rintro e w6 ⟨rfl, u⟩
    have U6 := hid (U5.out.trans u); clear u
    go_wp2_with fail
    refine (numE_any _ I2.out _ (HE.out.keep0 U6.out)).mono ?_
    rintro e w7 ⟨rfl, u⟩
    have U7 := hid (U6.out.trans u); clear u
    go_wp2_with fail
    refine (numE_any _ I3.out _ (HE.out.keep0 U7.out)).mono ?_
    rintro e w8 ⟨rfl, u⟩
    have U8 := hid (U7.out.trans u); clear u
    go_wp2_with fail
    (try simp only [Exit.inBlock, Exit.then])
    refine bodyPost_ret (results_tmp5 rfl _ _ _) rfl ?_
    exact ⟨by rw [YES.out W.out]; rfl, U8.out⟩
  case neg =>
    have W := hid (show ¬ PtOk s (rawF s) from fun h => by have h1 := h.2.2.2.2.2; rw [HRAW.out] at h1; dsimp only at h1; rw [HPE.out] at h1; exact t7 h1)
    have t7b : (pe == s) = false := beq_eq_false_iff_ne.2 t7
    go_enter Tryd.func9, Tryd.ntmps9
    go_wp2_with fail
    refine (open_any s w).mono ?_
    rintro e w1 ⟨rfl, hr, u⟩
    have R1 := hid hr; have U1 := hid u; have HB1 := hid (show 6 ≤ w.heap.size from HZ.out)
    clear hr u
    obtain ⟨pb, hpb⟩ : ∃ x, w.heap.size = x := ⟨_, rfl⟩
    have HPB := hid hpb
    rw [hpb]
    replace R1 := hid (hpb ▸ R1.out)
    clear hpb
    go_wp2_with fail
    refine (numR_any pb ⟨s, false⟩ _ (HE.out.keep0 U1.out) R1.out (by have := HZ.out; have := HPB.out; omega) HL.out).mono ?_
    rintro e w2 ⟨rfl, hr, u⟩
    rw [HA.out] at hr ⊢
    have R2 := hid hr; have U2 := hid (U1.out.comp u fun i hi e => by have := HPB.out; omega)
    clear hr u
    go_wp2_with fail
    refine (numR_any pb r1 _ (HE.out.keep0 U2.out) R2.out (by have := HZ.out; have := HPB.out; omega) L1.out).mono ?_
    rintro e w3 ⟨rfl, hr, u⟩
    rw [HB.out] at hr ⊢
    have R3 := hid hr; have U3 := hid (U2.out.comp u fun i hi e => by have := HPB.out; omega)
    clear hr u
    go_wp2_with fail
    refine (numR_any pb r2 _ (HE.out.keep0 U3.out) R3.out (by have := HZ.out; have := HPB.out; omega) L2.out).mono ?_
    rintro e w4 ⟨rfl, hr, u⟩
    rw [HC.out] at hr ⊢
    have R4 := hid hr; have U4 := hid (U3.out.comp u fun i hi e => by have := HPB.out; omega)
    clear hr u
    go_wp2_with fail
    refine (rest_any pb ⟨[], bad3⟩ _ R4.out).mono ?_
    rintro e w5 ⟨rfl, hr, u⟩
    have U5 := hid (U4.out.comp u fun i hi e => by have := HPB.out; omega)
    clear hr u
    dsimp only
    go_wp2_with fail
    refine (numE_any _ I1.out _ (HE.out.keep0 U5.out)).mono ?_
    rintro e w6 ⟨rfl, u⟩
    have U6 := hid (U5.out.trans u); clear u
    go_wp2_with fail
    refine (numE_any _ I2.out _ (HE.out.keep0 U6.out)).mono ?_
    rintro e w7 ⟨rfl, u⟩
    have U7 := hid (U6.out.trans u); clear u
    go_wp2_with fail
    refine (numE_any _ I3.out _ (HE.out.keep0 U7.out)).mono ?_
    rintro e w8 ⟨rfl, u⟩
    have U8 := hid (U7.out.trans u); clear u
    go_wp2_with fail
    (try simp only [Exit.inBlock, Exit.then])
    refine bodyPost_ret (results_tmp5 rfl _ _ _) rfl ?_
    exact ⟨by rw [NO.out W.out]; rfl, U8.out⟩

end Go.Proofs.YtabnniabofhihaaDoor
