/- Walks: EntrySpans. -/
import Derived.Test.YtdcahnkcnbhknaaGreatDoorEnLaw
import Derived.Test.YtdcahnkcnbhknaaGreatDoorEnRfE
namespace Go.Proofs.YtdcahnkcnbhknaaGreatDoor
open Go.RowKit Go.Deep

set_option maxRecDepth 100000 in
set_option maxHeartbeats 16000000 in
theorem spans_walk (v0 : Value) (a : List Sp) (v1 : Value) (b : List Sp) (m n : Int) (w : World) (E : Env w) (hu : UsesIn w) (hz : 6 ≤ w.heap.size) (h0 : kSps.rep (· < w.heap.size) w [v0] a) (h1 : kSps.rep (· < w.heap.size) w [v1] b) (hn : (Lit.int .i64 n).wf = true) :
    Calls Tryz.prog 6 #[v0, v1, .int .i64 m, .int .i64 n] w fun e w' => e = .returned (.bool true) ∧ Upd (fun _ => False) w w' := by
  have HE := hid E; have HU := hid hu; have HZ := hid hz; have H0 := hid h0; have H1 := hid h1; have HN := hid (wfi hn)
  obtain ⟨aa, ca, rfl, _, _, _⟩ := slice_open h0
  obtain ⟨ab, cb, rfl, _, _, _⟩ := slice_open h1
  clear E hu hz h0 h1 hn
  by_cases la : a.length ≤ 30
  case neg =>
    go_enter Tryz.func6, Tryz.ntmps6
    go_wp2_with fail
    refine (small_any _ HE.out HU.out HZ.out).mono ?_
    rintro en x0 ⟨rfl, u⟩
    have UC := hid u
    have RA := hid (rep_keep H0.out u); have RB := hid (rep_keep H1.out u)
    clear u
    go_wp2_with fail
    refine (light_any aa ca a _).mono ?_
    rintro en x1 ⟨rfl, hx⟩
    subst hx
    rw [decide_eq_false la]
    go_wp2_with fail
    go_ret
    exact ⟨rfl, UC.out⟩
  by_cases lb : b.length ≤ 30
  case neg =>
    go_enter Tryz.func6, Tryz.ntmps6
    go_wp2_with fail
    refine (small_any _ HE.out HU.out HZ.out).mono ?_
    rintro en x0 ⟨rfl, u⟩
    have UC := hid u
    have RA := hid (rep_keep H0.out u); have RB := hid (rep_keep H1.out u)
    clear u
    go_wp2_with fail
    refine (light_any aa ca a _).mono ?_
    rintro en x1 ⟨rfl, hx⟩
    subst hx
    rw [decide_eq_true la]
    go_wp2_with fail
    refine (light_any ab cb b _).mono ?_
    rintro en x2 ⟨rfl, hx⟩
    subst hx
    rw [decide_eq_false lb]
    go_wp2_with fail
    go_ret
    exact ⟨rfl, UC.out⟩
  obtain ⟨bn, hbn⟩ : ∃ x, decide (nrmP a) = x := ⟨_, rfl⟩
  obtain ⟨bh, hbh⟩ : ∃ x, decide (HasM a m n) = x := ⟨_, rfl⟩
  obtain ⟨cn, hcn⟩ : ∃ x, countF a = x := ⟨_, rfl⟩
  obtain ⟨tf, htf⟩ : ∃ x, (takeC a n).1 = x := ⟨_, rfl⟩
  obtain ⟨tr, htr⟩ : ∃ x, (takeC a n).2 = x := ⟨_, rfl⟩
  have HT1 := hid (take_nrm a n).1; have HT2 := hid (take_nrm a n).2
  have BN := hid hbn; have BH := hid hbh; have CN := hid hcn; have TF := hid htf; have TR := hid htr
  have q1 : (bn == bn) = true := beq_self_eq_true _
  have q2 : (bh == bh) = true := beq_self_eq_true _
  have q3 : (cn == cn) = true := beq_self_eq_true _
  clear hbn hbh hcn htf htr
  go_enter Tryz.func6, Tryz.ntmps6
  go_wp2_with fail
  refine (small_any _ HE.out HU.out HZ.out).mono ?_
  rintro en x0 ⟨rfl, u⟩
  have UC := hid u
  have RA := hid (rep_keep H0.out u); have RB := hid (rep_keep H1.out u)
  clear u
  go_wp2_with fail
  refine (light_any aa ca a _).mono ?_
  rintro en x1 ⟨rfl, hx⟩
  subst hx
  rw [decide_eq_true la]
  go_wp2_with fail
  refine (light_any ab cb b _).mono ?_
  rintro en x2 ⟨rfl, hx⟩
  subst hx
  rw [decide_eq_true lb]
  go_wp2_with fail
  refine (take_any _ _ a n _ RA.out (by omega) HN.out).mono ?_
  rintro en x3 hp
  obtain ⟨f1, r1, fc1, rc1, rfl, repf, repr, u⟩ := take_post HT1.out HT2.out hp
  rw [TF.out] at repf ⊢
  rw [TR.out] at repr ⊢
  replace RA := hid (rep_keep RA.out u)
  replace RB := hid (rep_keep RB.out u)
  replace UC := hid (UC.out.trans u)
  clear u
  have RF1 := hid repf; have RG1 := hid repr
  clear hp repf repr
  go_wp2_with fail
  refine (rtake_any _ _ a n _ RA.out (by omega) HN.out).mono ?_
  rintro en x4 hp
  obtain ⟨f2, r2, fc2, rc2, rfl, repf, repr, u⟩ := take_post HT1.out HT2.out hp
  rw [TF.out] at repf ⊢
  rw [TR.out] at repr ⊢
  replace RA := hid (rep_keep RA.out u)
  replace RB := hid (rep_keep RB.out u)
  replace RF1 := hid (rep_keep RF1.out u)
  replace RG1 := hid (rep_keep RG1.out u)
  replace UC := hid (UC.out.trans u)
  clear u
  have RF2 := hid repf; have RG2 := hid repr
  clear hp repf repr
  go_wp2_with fail
  refine (nrm_any _ _ a _ RA.out).mono ?_
  rintro en x5 ⟨rfl, u⟩
  rw [BN.out]
  replace RA := hid (rep_keep RA.out u)
  replace RB := hid (rep_keep RB.out u)
  replace RF1 := hid (rep_keep RF1.out u)
  replace RG1 := hid (rep_keep RG1.out u)
  replace RF2 := hid (rep_keep RF2.out u)
  replace RG2 := hid (rep_keep RG2.out u)
  replace UC := hid (UC.out.trans u)
  clear u
  go_wp2_with fail
  refine (rnrm_any _ _ a _ RA.out).mono ?_
  rintro en x6 ⟨rfl, u⟩
  rw [BN.out]
  replace RA := hid (rep_keep RA.out u)
  replace RB := hid (rep_keep RB.out u)
  replace RF1 := hid (rep_keep RF1.out u)
  replace RG1 := hid (rep_keep RG1.out u)
  replace RF2 := hid (rep_keep RF2.out u)
  replace RG2 := hid (rep_keep RG2.out u)
  replace UC := hid (UC.out.trans u)
  clear u
  go_wp2_with fail
  refine (norm_any _ _ a _ RA.out (by omega)).mono ?_
  rintro en x7 hp
  obtain ⟨aRX, cRX, rfl, rep, u⟩ := sps_post (nrmN a) hp
  replace RA := hid (rep_keep RA.out u)
  replace RB := hid (rep_keep RB.out u)
  replace RF1 := hid (rep_keep RF1.out u)
  replace RG1 := hid (rep_keep RG1.out u)
  replace RF2 := hid (rep_keep RF2.out u)
  replace RG2 := hid (rep_keep RG2.out u)
  replace UC := hid (UC.out.trans u)
  clear u
  have RX := hid rep
  clear hp rep
  go_wp2_with fail
  refine (rnorm_any _ _ a _ RA.out (by omega)).mono ?_
  rintro en x8 hp
  obtain ⟨aRY, cRY, rfl, rep, u⟩ := sps_post (nrmN a) hp
  replace RA := hid (rep_keep RA.out u)
  replace RB := hid (rep_keep RB.out u)
  replace RF1 := hid (rep_keep RF1.out u)
  replace RG1 := hid (rep_keep RG1.out u)
  replace RF2 := hid (rep_keep RF2.out u)
  replace RG2 := hid (rep_keep RG2.out u)
  replace RX := hid (rep_keep RX.out u)
  replace UC := hid (UC.out.trans u)
  clear u
  have RY := hid rep
  clear hp rep
  go_wp2_with fail
  refine (refSps_any _ _ (normF a) (normF a) _ _ _ RX.out RY.out (fun _ h => h) (fun _ h => h)).mono ?_
  rintro en x9 ⟨rfl, u⟩
  rw [decide_eq_true (Eq.refl (normF a))]
  replace RA := hid (rep_keep RA.out u)
  replace RB := hid (rep_keep RB.out u)
  replace RF1 := hid (rep_keep RF1.out u)
  replace RG1 := hid (rep_keep RG1.out u)
  replace RF2 := hid (rep_keep RF2.out u)
  replace RG2 := hid (rep_keep RG2.out u)
  replace RX := hid (rep_keep RX.out u)
  replace RY := hid (rep_keep RY.out u)
  replace UC := hid (UC.out.trans u)
  clear u
  clear RX RY
  go_wp2_with fail
  refine (count_any _ _ a _ RA.out (by omega)).mono ?_
  rintro en x10 ⟨rfl, u⟩
  rw [CN.out]
  replace RA := hid (rep_keep RA.out u)
  replace RB := hid (rep_keep RB.out u)
  replace RF1 := hid (rep_keep RF1.out u)
  replace RG1 := hid (rep_keep RG1.out u)
  replace RF2 := hid (rep_keep RF2.out u)
  replace RG2 := hid (rep_keep RG2.out u)
  replace UC := hid (UC.out.trans u)
  clear u
  go_wp2_with fail
  refine (rcount_any _ _ a _ RA.out (by omega)).mono ?_
  rintro en x11 ⟨rfl, u⟩
  rw [CN.out]
  replace RA := hid (rep_keep RA.out u)
  replace RB := hid (rep_keep RB.out u)
  replace RF1 := hid (rep_keep RF1.out u)
  replace RG1 := hid (rep_keep RG1.out u)
  replace RF2 := hid (rep_keep RF2.out u)
  replace RG2 := hid (rep_keep RG2.out u)
  replace UC := hid (UC.out.trans u)
  clear u
  go_wp2_with fail
  refine (has_any _ _ a m n _ RA.out).mono ?_
  rintro en x12 ⟨rfl, u⟩
  rw [BH.out]
  replace RA := hid (rep_keep RA.out u)
  replace RB := hid (rep_keep RB.out u)
  replace RF1 := hid (rep_keep RF1.out u)
  replace RG1 := hid (rep_keep RG1.out u)
  replace RF2 := hid (rep_keep RF2.out u)
  replace RG2 := hid (rep_keep RG2.out u)
  replace UC := hid (UC.out.trans u)
  clear u
  go_wp2_with fail
  refine (rhas_any _ _ a m n _ RA.out).mono ?_
  rintro en x13 ⟨rfl, u⟩
  rw [BH.out]
  replace RA := hid (rep_keep RA.out u)
  replace RB := hid (rep_keep RB.out u)
  replace RF1 := hid (rep_keep RF1.out u)
  replace RG1 := hid (rep_keep RG1.out u)
  replace RF2 := hid (rep_keep RF2.out u)
  replace RG2 := hid (rep_keep RG2.out u)
  replace UC := hid (UC.out.trans u)
  clear u
  go_wp2_with fail
  refine (union_any _ aa ab ca cb a b _ RA.out RB.out (by omega) (by omega)).mono ?_
  rintro en x14 hp
  obtain ⟨aRX, cRX, rfl, rep, u⟩ := sps_post (nrmU a b) hp
  replace RA := hid (rep_keep RA.out u)
  replace RB := hid (rep_keep RB.out u)
  replace RF1 := hid (rep_keep RF1.out u)
  replace RG1 := hid (rep_keep RG1.out u)
  replace RF2 := hid (rep_keep RF2.out u)
  replace RG2 := hid (rep_keep RG2.out u)
  replace UC := hid (UC.out.trans u)
  clear u
  have RX := hid rep
  clear hp rep
  go_wp2_with fail
  refine (runion_any aa ab ca cb a b _ RA.out RB.out (by omega) (by omega)).mono ?_
  rintro en x15 hp
  obtain ⟨aRY, cRY, rfl, rep, u⟩ := sps_post (nrmU a b) hp
  replace RA := hid (rep_keep RA.out u)
  replace RB := hid (rep_keep RB.out u)
  replace RF1 := hid (rep_keep RF1.out u)
  replace RG1 := hid (rep_keep RG1.out u)
  replace RF2 := hid (rep_keep RF2.out u)
  replace RG2 := hid (rep_keep RG2.out u)
  replace RX := hid (rep_keep RX.out u)
  replace UC := hid (UC.out.trans u)
  clear u
  have RY := hid rep
  clear hp rep
  go_wp2_with fail
  refine (refSps_any _ _ (unionF a b) (unionF a b) _ _ _ RX.out RY.out (fun _ h => h) (fun _ h => h)).mono ?_
  rintro en x16 ⟨rfl, u⟩
  rw [decide_eq_true (Eq.refl (unionF a b))]
  replace RA := hid (rep_keep RA.out u)
  replace RB := hid (rep_keep RB.out u)
  replace RF1 := hid (rep_keep RF1.out u)
  replace RG1 := hid (rep_keep RG1.out u)
  replace RF2 := hid (rep_keep RF2.out u)
  replace RG2 := hid (rep_keep RG2.out u)
  replace RX := hid (rep_keep RX.out u)
  replace RY := hid (rep_keep RY.out u)
  replace UC := hid (UC.out.trans u)
  clear u
  clear RX RY
  go_wp2_with fail
  refine (common_any _ _ _ a b _ RA.out RB.out (by omega) (by omega)).mono ?_
  rintro en x17 hp
  obtain ⟨aRX, cRX, rfl, rep, u⟩ := sps_post (nrmC a b) hp
  replace RA := hid (rep_keep RA.out u)
  replace RB := hid (rep_keep RB.out u)
  replace RF1 := hid (rep_keep RF1.out u)
  replace RG1 := hid (rep_keep RG1.out u)
  replace RF2 := hid (rep_keep RF2.out u)
  replace RG2 := hid (rep_keep RG2.out u)
  replace UC := hid (UC.out.trans u)
  clear u
  have RX := hid rep
  clear hp rep
  go_wp2_with fail
  refine (rcommon_any _ _ a b _ RA.out RB.out (by omega) (by omega)).mono ?_
  rintro en x18 hp
  obtain ⟨aRY, cRY, rfl, rep, u⟩ := sps_post (nrmC a b) hp
  replace RA := hid (rep_keep RA.out u)
  replace RB := hid (rep_keep RB.out u)
  replace RF1 := hid (rep_keep RF1.out u)
  replace RG1 := hid (rep_keep RG1.out u)
  replace RF2 := hid (rep_keep RF2.out u)
  replace RG2 := hid (rep_keep RG2.out u)
  replace RX := hid (rep_keep RX.out u)
  replace UC := hid (UC.out.trans u)
  clear u
  have RY := hid rep
  clear hp rep
  go_wp2_with fail
  refine (refSps_any _ _ (commonF a b) (commonF a b) _ _ _ RX.out RY.out (fun _ h => h) (fun _ h => h)).mono ?_
  rintro en x19 ⟨rfl, u⟩
  rw [decide_eq_true (Eq.refl (commonF a b))]
  replace RA := hid (rep_keep RA.out u)
  replace RB := hid (rep_keep RB.out u)
  replace RF1 := hid (rep_keep RF1.out u)
  replace RG1 := hid (rep_keep RG1.out u)
  replace RF2 := hid (rep_keep RF2.out u)
  replace RG2 := hid (rep_keep RG2.out u)
  replace RX := hid (rep_keep RX.out u)
  replace RY := hid (rep_keep RY.out u)
  replace UC := hid (UC.out.trans u)
  clear u
  clear RX RY
  go_wp2_with fail
  refine (minus_any _ _ _ a b _ RA.out RB.out (by omega) (by omega)).mono ?_
  rintro en x20 hp
  obtain ⟨aRX, cRX, rfl, rep, u⟩ := sps_post (nrmM a b) hp
  replace RA := hid (rep_keep RA.out u)
  replace RB := hid (rep_keep RB.out u)
  replace RF1 := hid (rep_keep RF1.out u)
  replace RG1 := hid (rep_keep RG1.out u)
  replace RF2 := hid (rep_keep RF2.out u)
  replace RG2 := hid (rep_keep RG2.out u)
  replace UC := hid (UC.out.trans u)
  clear u
  have RX := hid rep
  clear hp rep
  go_wp2_with fail
  refine (rminus_any _ _ _ a b _ RA.out RB.out (by omega) (by omega)).mono ?_
  rintro en x21 hp
  obtain ⟨aRY, cRY, rfl, rep, u⟩ := sps_post (nrmM a b) hp
  replace RA := hid (rep_keep RA.out u)
  replace RB := hid (rep_keep RB.out u)
  replace RF1 := hid (rep_keep RF1.out u)
  replace RG1 := hid (rep_keep RG1.out u)
  replace RF2 := hid (rep_keep RF2.out u)
  replace RG2 := hid (rep_keep RG2.out u)
  replace RX := hid (rep_keep RX.out u)
  replace UC := hid (UC.out.trans u)
  clear u
  have RY := hid rep
  clear hp rep
  go_wp2_with fail
  refine (refSps_any _ _ (minusF a b) (minusF a b) _ _ _ RX.out RY.out (fun _ h => h) (fun _ h => h)).mono ?_
  rintro en x22 ⟨rfl, u⟩
  rw [decide_eq_true (Eq.refl (minusF a b))]
  replace RA := hid (rep_keep RA.out u)
  replace RB := hid (rep_keep RB.out u)
  replace RF1 := hid (rep_keep RF1.out u)
  replace RG1 := hid (rep_keep RG1.out u)
  replace RF2 := hid (rep_keep RF2.out u)
  replace RG2 := hid (rep_keep RG2.out u)
  replace RX := hid (rep_keep RX.out u)
  replace RY := hid (rep_keep RY.out u)
  replace UC := hid (UC.out.trans u)
  clear u
  clear RX RY
  go_wp2_with fail
  refine (refSps_any _ _ (tf) (tf) _ _ _ RF1.out RF2.out (fun _ h => h) (fun _ h => h)).mono ?_
  rintro en x23 ⟨rfl, u⟩
  rw [decide_eq_true (Eq.refl (tf))]
  replace RA := hid (rep_keep RA.out u)
  replace RB := hid (rep_keep RB.out u)
  replace RF1 := hid (rep_keep RF1.out u)
  replace RG1 := hid (rep_keep RG1.out u)
  replace RF2 := hid (rep_keep RF2.out u)
  replace RG2 := hid (rep_keep RG2.out u)
  replace UC := hid (UC.out.trans u)
  clear u
  clear RF1 RF2
  go_wp2_with fail
  refine (refSps_any _ _ (tr) (tr) _ _ _ RG1.out RG2.out (fun _ h => h) (fun _ h => h)).mono ?_
  rintro en x24 ⟨rfl, u⟩
  rw [decide_eq_true (Eq.refl (tr))]
  replace RA := hid (rep_keep RA.out u)
  replace RB := hid (rep_keep RB.out u)
  replace RG1 := hid (rep_keep RG1.out u)
  replace RG2 := hid (rep_keep RG2.out u)
  replace UC := hid (UC.out.trans u)
  clear u
  clear RG1 RG2
  go_wp2_with fail
  go_ret
  exact ⟨rfl, UC.out⟩
theorem spans_card (v0 : Value) (a : List Sp) (v1 : Value) (b : List Sp) (m n : Int) (w : World) (E : Env w) (hu : UsesIn w) (hz : 6 ≤ w.heap.size) (h0 : kSps.rep (· < w.heap.size) w [v0] a) (h1 : kSps.rep (· < w.heap.size) w [v1] b) (_ : (Lit.int .i64 m).wf = true) (hn : (Lit.int .i64 n).wf = true) :
    Calls Tryz.prog 6 #[v0, v1, .int .i64 m, .int .i64 n] w fun e w' => e = .returned (.bool true) ∧ Below w.heap.size w w' :=
  (spans_walk v0 a v1 b m n w E hu hz h0 h1 hn).mono fun _ _ h => ⟨h.1, h.2.below (Nat.le_refl _) fun _ h => h.elim⟩
end Go.Proofs.YtdcahnkcnbhknaaGreatDoor
