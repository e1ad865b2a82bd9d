/- Walks: EntryNorms. -/
import Derived.Test.YtdcahnkcnbhknaaGreatDoorEnLaw
namespace Go.Proofs.YtdcahnkcnbhknaaGreatDoor
open Go.RowKit Go.Deep

theorem count_bound (l : List Sp) : 0 ≤ countF l ∧ countF l ≤ l.length * 1048576 := by
  have h := sum_range (norm_spec l).1.ok (normF l).length
  rw [List.take_length] at h
  have h2 := norm_len l
  unfold countF
  omega
theorem nil_len {l : List Sp} (h : l = []) : ((l.length : Int) == 0) = true ∧ (l.length == 0) = true := by rw [h]; exact ⟨rfl, rfl⟩
theorem cons_len {l : List Sp} (h : ¬ l = []) : ((l.length : Int) == 0) = false ∧ (l.length == 0) = false := by
  have : l.length ≠ 0 := fun e => h (List.length_eq_zero_iff.1 e)
  exact ⟨beq_eq_false_iff_ne.2 (by omega), beq_eq_false_iff_ne.2 this⟩
set_option maxRecDepth 100000 in
set_option maxHeartbeats 16000000 in
theorem norms_walk (v0 : Value) (a : List Sp) (v1 : Value) (b : List Sp) (n : Int) (w : World) (E : Env w) (hu : UsesIn w) (hz : 6 ≤ w.heap.size) (h0 : kSps.rep (· < w.heap.size) w [v0] a) (h1 : kSps.rep (· < w.heap.size) w [v1] b) (hn : (Lit.int .i64 n).wf = true) :
    Calls Tryz.prog 8 #[v0, v1, .int .i64 n] w fun e w' => e = .returned (.bool true) ∧ Upd (fun _ => False) w w' := by
  have HE := hid E; have HU := hid hu; have HZ := hid hz; have H0 := hid h0; have H1 := hid h1; have HN := hid (wfi hn)
  obtain ⟨aa, ca, rfl, _, _, _⟩ := slice_open h0
  obtain ⟨ab, cb, rfl, _, _, _⟩ := slice_open h1
  clear E hu hz h0 h1 hn
  by_cases la : a.length ≤ 30
  case neg =>
    go_enter Tryz.func8, Tryz.ntmps8
    go_wp2_with fail
    refine (small_any _ HE.out HU.out HZ.out).mono ?_
    rintro en x0 ⟨rfl, u⟩
    have UC := hid u
    have RA := hid (rep_keep H0.out u); have RB := hid (rep_keep H1.out u)
    clear u
    go_wp2_with fail
    refine (light_any aa ca a _).mono ?_
    rintro en x1 ⟨rfl, hx⟩
    subst hx
    rw [decide_eq_false la]
    go_wp2_with fail
    go_ret
    exact ⟨rfl, UC.out⟩
  by_cases lb : b.length ≤ 30
  case neg =>
    go_enter Tryz.func8, Tryz.ntmps8
    go_wp2_with fail
    refine (small_any _ HE.out HU.out HZ.out).mono ?_
    rintro en x0 ⟨rfl, u⟩
    have UC := hid u
    have RA := hid (rep_keep H0.out u); have RB := hid (rep_keep H1.out u)
    clear u
    go_wp2_with fail
    refine (light_any aa ca a _).mono ?_
    rintro en x1 ⟨rfl, hx⟩
    subst hx
    rw [decide_eq_true la]
    go_wp2_with fail
    refine (light_any ab cb b _).mono ?_
    rintro en x2 ⟨rfl, hx⟩
    subst hx
    rw [decide_eq_false lb]
    go_wp2_with fail
    go_ret
    exact ⟨rfl, UC.out⟩
  obtain ⟨na, hna⟩ : ∃ x, countF a = x := ⟨_, rfl⟩
  obtain ⟨nb, hnb⟩ : ∃ x, countF b = x := ⟨_, rfl⟩
  obtain ⟨nu, hnu⟩ : ∃ x, countF (unionF a b) = x := ⟨_, rfl⟩
  obtain ⟨nc, hnc⟩ : ∃ x, countF (commonF a b) = x := ⟨_, rfl⟩
  have b1 := count_bound a; have b2 := count_bound b; have b3 := (count_bound (unionF a b)).1; have b4 := (count_bound (commonF a b)).1
  have hsum := count_union a b
  rw [hna] at b1; rw [hnb] at b2; rw [hnu] at b3; rw [hnc] at b4
  rw [hna, hnb, hnu, hnc] at hsum
  have sm : (nu + nc != na + nb) = false := by rw [hsum]; simp
  have o1 : 0 ≤ nu + nc := by omega
  have o2 : nu + nc ≤ 1000000000 := by omega
  have o3 : 0 ≤ na + nb := by omega
  have o4 : na + nb ≤ 1000000000 := by omega
  have HA := hid hna; have HB := hid hnb; have HNU := hid hnu; have HNC := hid hnc
  have luu := union_len a b
  have lcc : (commonF a b).length ≤ 900 := by
    have h := norm_len (commonL (normF a) (normF b))
    have h2 := common_list_len (normF a) (normF b)
    have h3 := Nat.mul_le_mul (Nat.le_trans (norm_len a) la) (Nat.le_trans (norm_len b) lb)
    unfold commonF
    omega
  have lnn := norm_len a
  clear hna hnb hnu hnc
  go_enter Tryz.func8, Tryz.ntmps8
  go_wp2_with fail
  refine (small_any _ HE.out HU.out HZ.out).mono ?_
  rintro en x0 ⟨rfl, u⟩
  have UC := hid u
  have RA := hid (rep_keep H0.out u); have RB := hid (rep_keep H1.out u)
  clear u
  go_wp2_with fail
  refine (light_any aa ca a _).mono ?_
  rintro en x1 ⟨rfl, hx⟩
  subst hx
  rw [decide_eq_true la]
  go_wp2_with fail
  refine (light_any ab cb b _).mono ?_
  rintro en x2 ⟨rfl, hx⟩
  subst hx
  rw [decide_eq_true lb]
  go_wp2_with fail
  refine (norm_any _ _ a _ RA.out (by omega)).mono ?_
  rintro en x3 hp
  obtain ⟨aRX, cRX, rfl, rep, u⟩ := sps_post (nrmN a) hp
  replace RA := hid (rep_keep RA.out u)
  replace RB := hid (rep_keep RB.out u)
  replace UC := hid (UC.out.trans u)
  clear u
  have RX := hid rep
  clear hp rep
  go_wp2_with fail
  refine (union_any _ aa ab ca cb a b _ RA.out RB.out (by omega) (by omega)).mono ?_
  rintro en x4 hp
  obtain ⟨aRU, cRU, rfl, rep, u⟩ := sps_post (nrmU a b) hp
  replace RA := hid (rep_keep RA.out u)
  replace RB := hid (rep_keep RB.out u)
  replace RX := hid (rep_keep RX.out u)
  replace UC := hid (UC.out.trans u)
  clear u
  have RU := hid rep
  clear hp rep
  go_wp2_with fail
  refine (common_any _ _ _ a b _ RA.out RB.out (by omega) (by omega)).mono ?_
  rintro en x5 hp
  obtain ⟨aRC, cRC, rfl, rep, u⟩ := sps_post (nrmC a b) hp
  replace RA := hid (rep_keep RA.out u)
  replace RB := hid (rep_keep RB.out u)
  replace RX := hid (rep_keep RX.out u)
  replace RU := hid (rep_keep RU.out u)
  replace UC := hid (UC.out.trans u)
  clear u
  have RC := hid rep
  clear hp rep
  go_wp2_with fail
  refine (norm_any _ _ (normF a) _ RX.out (by omega)).mono ?_
  rintro en x6 hp
  obtain ⟨aRY, cRY, rfl, rep, u⟩ := sps_post (nrmN _) hp
  replace RA := hid (rep_keep RA.out u)
  replace RB := hid (rep_keep RB.out u)
  replace RX := hid (rep_keep RX.out u)
  replace RU := hid (rep_keep RU.out u)
  replace RC := hid (rep_keep RC.out u)
  replace UC := hid (UC.out.trans u)
  clear u
  have RY := hid rep
  clear hp rep
  go_wp2_with fail
  refine (refSps_any _ _ (normF (normF a)) (normF a) _ _ _ RY.out RX.out (fun _ h => h) (fun _ h => h)).mono ?_
  rintro en x7 ⟨rfl, u⟩
  rw [decide_eq_true (norm_norm a)]
  replace RA := hid (rep_keep RA.out u)
  replace RB := hid (rep_keep RB.out u)
  replace RX := hid (rep_keep RX.out u)
  replace RU := hid (rep_keep RU.out u)
  replace RC := hid (rep_keep RC.out u)
  replace RY := hid (rep_keep RY.out u)
  replace UC := hid (UC.out.trans u)
  clear u
  clear RY
  go_wp2_with fail
  refine (union_any _ ab aa cb ca b a _ RB.out RA.out (by omega) (by omega)).mono ?_
  rintro en x8 hp
  obtain ⟨aRY, cRY, rfl, rep, u⟩ := sps_post (nrmU b a) hp
  replace RA := hid (rep_keep RA.out u)
  replace RB := hid (rep_keep RB.out u)
  replace RX := hid (rep_keep RX.out u)
  replace RU := hid (rep_keep RU.out u)
  replace RC := hid (rep_keep RC.out u)
  replace UC := hid (UC.out.trans u)
  clear u
  have RY := hid rep
  clear hp rep
  go_wp2_with fail
  refine (refSps_any _ _ (unionF a b) (unionF b a) _ _ _ RU.out RY.out (fun _ h => h) (fun _ h => h)).mono ?_
  rintro en x9 ⟨rfl, u⟩
  rw [decide_eq_true (union_comm a b)]
  replace RA := hid (rep_keep RA.out u)
  replace RB := hid (rep_keep RB.out u)
  replace RX := hid (rep_keep RX.out u)
  replace RU := hid (rep_keep RU.out u)
  replace RC := hid (rep_keep RC.out u)
  replace RY := hid (rep_keep RY.out u)
  replace UC := hid (UC.out.trans u)
  clear u
  clear RY
  go_wp2_with fail
  refine (common_any _ _ _ b a _ RB.out RA.out (by omega) (by omega)).mono ?_
  rintro en x10 hp
  obtain ⟨aRY, cRY, rfl, rep, u⟩ := sps_post (nrmC b a) hp
  replace RA := hid (rep_keep RA.out u)
  replace RB := hid (rep_keep RB.out u)
  replace RX := hid (rep_keep RX.out u)
  replace RU := hid (rep_keep RU.out u)
  replace RC := hid (rep_keep RC.out u)
  replace UC := hid (UC.out.trans u)
  clear u
  have RY := hid rep
  clear hp rep
  go_wp2_with fail
  refine (refSps_any _ _ (commonF a b) (commonF b a) _ _ _ RC.out RY.out (fun _ h => h) (fun _ h => h)).mono ?_
  rintro en x11 ⟨rfl, u⟩
  rw [decide_eq_true (common_comm a b)]
  replace RA := hid (rep_keep RA.out u)
  replace RB := hid (rep_keep RB.out u)
  replace RX := hid (rep_keep RX.out u)
  replace RU := hid (rep_keep RU.out u)
  replace RC := hid (rep_keep RC.out u)
  replace RY := hid (rep_keep RY.out u)
  replace UC := hid (UC.out.trans u)
  clear u
  clear RY
  go_wp2_with fail
  refine (count_any _ _ (unionF a b) _ RU.out (by omega)).mono ?_
  rintro en x12 ⟨rfl, u⟩
  rw [HNU.out]
  replace RA := hid (rep_keep RA.out u)
  replace RB := hid (rep_keep RB.out u)
  replace RX := hid (rep_keep RX.out u)
  replace RU := hid (rep_keep RU.out u)
  replace RC := hid (rep_keep RC.out u)
  replace UC := hid (UC.out.trans u)
  clear u
  go_wp2_with fail
  refine (count_any _ _ (commonF a b) _ RC.out (by omega)).mono ?_
  rintro en x13 ⟨rfl, u⟩
  rw [HNC.out]
  replace RA := hid (rep_keep RA.out u)
  replace RB := hid (rep_keep RB.out u)
  replace RX := hid (rep_keep RX.out u)
  replace RU := hid (rep_keep RU.out u)
  replace RC := hid (rep_keep RC.out u)
  replace UC := hid (UC.out.trans u)
  clear u
  go_wp2_with fail
  refine (count_any _ _ (a) _ RA.out (by omega)).mono ?_
  rintro en x14 ⟨rfl, u⟩
  rw [HA.out]
  replace RA := hid (rep_keep RA.out u)
  replace RB := hid (rep_keep RB.out u)
  replace RX := hid (rep_keep RX.out u)
  replace RU := hid (rep_keep RU.out u)
  replace RC := hid (rep_keep RC.out u)
  replace UC := hid (UC.out.trans u)
  clear u
  go_wp2_with fail
  refine (count_any _ _ (b) _ RB.out (by omega)).mono ?_
  rintro en x15 ⟨rfl, u⟩
  rw [HB.out]
  replace RA := hid (rep_keep RA.out u)
  replace RB := hid (rep_keep RB.out u)
  replace RX := hid (rep_keep RX.out u)
  replace RU := hid (rep_keep RU.out u)
  replace RC := hid (rep_keep RC.out u)
  replace UC := hid (UC.out.trans u)
  clear u
  clear RU RC
  go_wp2_with fail
  refine (norm_any _ _ b _ RB.out (by omega)).mono ?_
  rintro en x16 hp
  obtain ⟨aRY, cRY, rfl, rep, u⟩ := sps_post (nrmN b) hp
  replace RA := hid (rep_keep RA.out u)
  replace RB := hid (rep_keep RB.out u)
  replace RX := hid (rep_keep RX.out u)
  replace UC := hid (UC.out.trans u)
  clear u
  have RY := hid rep
  clear hp rep
  obtain ⟨sa, hsa⟩ : ∃ x, decide (normF a = normF b) = x := ⟨_, rfl⟩
  have SA := hid hsa
  clear hsa
  go_wp2_with fail
  refine (refSps_any _ _ (normF a) (normF b) _ _ _ RX.out RY.out (fun _ h => h) (fun _ h => h)).mono ?_
  rintro en x17 ⟨rfl, u⟩
  rw [SA.out]
  replace RA := hid (rep_keep RA.out u)
  replace RB := hid (rep_keep RB.out u)
  replace RX := hid (rep_keep RX.out u)
  replace RY := hid (rep_keep RY.out u)
  replace UC := hid (UC.out.trans u)
  clear u
  clear RY
  go_upto_region 10 with (fail)
  go_cut [95] (fun s wx => s = .bool false ∧ Upd (fun _ => False) x17 wx)
  case first =>
    have UD := hid (Upd.refl (fun _ => False) x17)
    by_cases hm1 : minusF a b = []
    case neg =>
      obtain rfl : sa = false := by rw [← SA.out]; exact decide_eq_false fun h => hm1 ((minus_both a b).2 h).1
      go_wp2_with fail
      refine (minus_any _ _ _ a b _ RA.out RB.out (by omega) (by omega)).mono ?_
      rintro en x18 hp
      obtain ⟨am, cm, rfl, rep, u⟩ := sps_post (nrmM a b) hp
      clear hp rep
      have t1a := (cons_len hm1).1; have t2a := (cons_len hm1).2
      replace RA := hid (rep_keep RA.out u)
      replace RB := hid (rep_keep RB.out u)
      replace RX := hid (rep_keep RX.out u)
      replace UC := hid (UC.out.trans u)
      replace UD := hid (UD.out.trans u)
      clear u
      by_cases hna : nrmP a
      case pos =>
        go_wp2_with fail
        refine (nrm_any _ _ a _ RA.out).mono ?_
        rintro en x19 ⟨rfl, u⟩
        rw [decide_eq_true hna]
        replace RA := hid (rep_keep RA.out u)
        replace RB := hid (rep_keep RB.out u)
        replace RX := hid (rep_keep RX.out u)
        replace UC := hid (UC.out.trans u)
        replace UD := hid (UD.out.trans u)
        clear u
        go_wp2_with fail
        refine (refSps_any _ _ a (normF a) _ _ _ RA.out RX.out (fun _ h => h) (fun _ h => h)).mono ?_
        rintro en x20 ⟨rfl, u⟩
        rw [decide_eq_true (nrmP_norm hna).symm]
        replace RA := hid (rep_keep RA.out u)
        replace RB := hid (rep_keep RB.out u)
        replace RX := hid (rep_keep RX.out u)
        replace UC := hid (UC.out.trans u)
        replace UD := hid (UD.out.trans u)
        clear u
        clear hna
        go_wp2_with fail
        go_meet
        case rel => exact ⟨rfl, UD.out⟩
      case neg =>
        go_wp2_with fail
        refine (nrm_any _ _ a _ RA.out).mono ?_
        rintro en x19 ⟨rfl, u⟩
        rw [decide_eq_false hna]
        replace RA := hid (rep_keep RA.out u)
        replace RB := hid (rep_keep RB.out u)
        replace RX := hid (rep_keep RX.out u)
        replace UC := hid (UC.out.trans u)
        replace UD := hid (UD.out.trans u)
        clear u
        clear hna
        go_wp2_with fail
        go_meet
        case rel => exact ⟨rfl, UD.out⟩
    by_cases hm2 : minusF b a = []
    case neg =>
      obtain rfl : sa = false := by rw [← SA.out]; exact decide_eq_false fun h => hm2 ((minus_both a b).2 h).2
      go_wp2_with fail
      refine (minus_any _ _ _ a b _ RA.out RB.out (by omega) (by omega)).mono ?_
      rintro en x18 hp
      obtain ⟨am, cm, rfl, rep, u⟩ := sps_post (nrmM a b) hp
      clear hp rep
      have t1a := (nil_len hm1).1; have t2a := (nil_len hm1).2
      replace RA := hid (rep_keep RA.out u)
      replace RB := hid (rep_keep RB.out u)
      replace RX := hid (rep_keep RX.out u)
      replace UC := hid (UC.out.trans u)
      replace UD := hid (UD.out.trans u)
      clear u
      go_wp2_with fail
      refine (minus_any _ _ _ b a _ RB.out RA.out (by omega) (by omega)).mono ?_
      rintro en x19 hp
      obtain ⟨am, cm, rfl, rep, u⟩ := sps_post (nrmM b a) hp
      clear hp rep
      have t1b := (cons_len hm2).1; have t2b := (cons_len hm2).2
      replace RA := hid (rep_keep RA.out u)
      replace RB := hid (rep_keep RB.out u)
      replace RX := hid (rep_keep RX.out u)
      replace UC := hid (UC.out.trans u)
      replace UD := hid (UD.out.trans u)
      clear u
      by_cases hna : nrmP a
      case pos =>
        go_wp2_with fail
        refine (nrm_any _ _ a _ RA.out).mono ?_
        rintro en x20 ⟨rfl, u⟩
        rw [decide_eq_true hna]
        replace RA := hid (rep_keep RA.out u)
        replace RB := hid (rep_keep RB.out u)
        replace RX := hid (rep_keep RX.out u)
        replace UC := hid (UC.out.trans u)
        replace UD := hid (UD.out.trans u)
        clear u
        go_wp2_with fail
        refine (refSps_any _ _ a (normF a) _ _ _ RA.out RX.out (fun _ h => h) (fun _ h => h)).mono ?_
        rintro en x21 ⟨rfl, u⟩
        rw [decide_eq_true (nrmP_norm hna).symm]
        replace RA := hid (rep_keep RA.out u)
        replace RB := hid (rep_keep RB.out u)
        replace RX := hid (rep_keep RX.out u)
        replace UC := hid (UC.out.trans u)
        replace UD := hid (UD.out.trans u)
        clear u
        clear hna
        go_wp2_with fail
        go_meet
        case rel => exact ⟨rfl, UD.out⟩
      case neg =>
        go_wp2_with fail
        refine (nrm_any _ _ a _ RA.out).mono ?_
        rintro en x20 ⟨rfl, u⟩
        rw [decide_eq_false hna]
        replace RA := hid (rep_keep RA.out u)
        replace RB := hid (rep_keep RB.out u)
        replace RX := hid (rep_keep RX.out u)
        replace UC := hid (UC.out.trans u)
        replace UD := hid (UD.out.trans u)
        clear u
        clear hna
        go_wp2_with fail
        go_meet
        case rel => exact ⟨rfl, UD.out⟩
    obtain rfl : sa = true := by rw [← SA.out]; exact decide_eq_true ((minus_both a b).1 ⟨hm1, hm2⟩)
    go_wp2_with fail
    refine (minus_any _ _ _ a b _ RA.out RB.out (by omega) (by omega)).mono ?_
    rintro en x18 hp
    obtain ⟨am, cm, rfl, rep, u⟩ := sps_post (nrmM a b) hp
    clear hp rep
    have t1a := (nil_len hm1).1; have t2a := (nil_len hm1).2
    replace RA := hid (rep_keep RA.out u)
    replace RB := hid (rep_keep RB.out u)
    replace RX := hid (rep_keep RX.out u)
    replace UC := hid (UC.out.trans u)
    replace UD := hid (UD.out.trans u)
    clear u
    go_wp2_with fail
    refine (minus_any _ _ _ b a _ RB.out RA.out (by omega) (by omega)).mono ?_
    rintro en x19 hp
    obtain ⟨am, cm, rfl, rep, u⟩ := sps_post (nrmM b a) hp
    clear hp rep
    have t1b := (nil_len hm2).1; have t2b := (nil_len hm2).2
    replace RA := hid (rep_keep RA.out u)
    replace RB := hid (rep_keep RB.out u)
    replace RX := hid (rep_keep RX.out u)
    replace UC := hid (UC.out.trans u)
    replace UD := hid (UD.out.trans u)
    clear u
    by_cases hna : nrmP a
    case pos =>
      go_wp2_with fail
      refine (nrm_any _ _ a _ RA.out).mono ?_
      rintro en x20 ⟨rfl, u⟩
      rw [decide_eq_true hna]
      replace RA := hid (rep_keep RA.out u)
      replace RB := hid (rep_keep RB.out u)
      replace RX := hid (rep_keep RX.out u)
      replace UC := hid (UC.out.trans u)
      replace UD := hid (UD.out.trans u)
      clear u
      go_wp2_with fail
      refine (refSps_any _ _ a (normF a) _ _ _ RA.out RX.out (fun _ h => h) (fun _ h => h)).mono ?_
      rintro en x21 ⟨rfl, u⟩
      rw [decide_eq_true (nrmP_norm hna).symm]
      replace RA := hid (rep_keep RA.out u)
      replace RB := hid (rep_keep RB.out u)
      replace RX := hid (rep_keep RX.out u)
      replace UC := hid (UC.out.trans u)
      replace UD := hid (UD.out.trans u)
      clear u
      clear hna
      go_wp2_with fail
      go_meet
      case rel => exact ⟨rfl, UD.out⟩
    case neg =>
      go_wp2_with fail
      refine (nrm_any _ _ a _ RA.out).mono ?_
      rintro en x20 ⟨rfl, u⟩
      rw [decide_eq_false hna]
      replace RA := hid (rep_keep RA.out u)
      replace RB := hid (rep_keep RB.out u)
      replace RX := hid (rep_keep RX.out u)
      replace UC := hid (UC.out.trans u)
      replace UD := hid (UD.out.trans u)
      clear u
      clear hna
      go_wp2_with fail
      go_meet
      case rel => exact ⟨rfl, UD.out⟩
  case rest =>
    obtain ⟨rfl, u⟩ := hcut
    clear SA
    replace RA := hid (rep_keep RA.out u)
    replace RB := hid (rep_keep RB.out u)
    replace RX := hid (rep_keep RX.out u)
    replace UC := hid (UC.out.trans u)
    clear u
    have HT1 := hid (take_nrm a n).1; have HT2 := hid (take_nrm a n).2
    have TC := hid (take_count a n); have TU := hid (take_union a n); have TA := hid (take_apart a n); have TO := hid (fun (x y : Sp) (hx : x ∈ (takeC a n).1) (hy : y ∈ (takeC a n).2) => take_order a n hx hy)
    have l1 : (takeC a n).1.length ≤ 30 := by
      have h := norm_len (takeP (normF a) n).1
      have h2 := takeP_len (normF a) n
      unfold takeC
      dsimp only
      omega
    have l2 : (takeC a n).2.length ≤ 30 := by
      have h := norm_len (takeP (normF a) n).2
      have h2 := takeP_len (normF a) n
      unfold takeC
      dsimp only
      omega
    go_wp2_with fail
    refine (take_any _ _ a n _ RA.out (by omega) HN.out).mono ?_
    rintro en xt hp
    obtain ⟨f, r, fc, rc, rfl, repf, repr, u⟩ := take_post HT1.out HT2.out hp
    obtain ⟨tf, htf⟩ : ∃ x, (takeC a n).1 = x := ⟨_, rfl⟩
    obtain ⟨tr, htr⟩ : ∃ x, (takeC a n).2 = x := ⟨_, rfl⟩
    rw [htf] at TC HT1 repf l1
    rw [htr] at HT2 repr l2
    rw [htf, htr] at TU TA ⊢
    have TO := hid (show ∀ (x y : Sp), x ∈ tf → y ∈ tr → x.mark < y.mark ∨ (x.mark = y.mark ∧ x.to ≤ y.fr) from fun x y hx hy => TO.out x y (by rw [htf]; exact hx) (by rw [htr]; exact hy))
    have RF := hid repf; have RG := hid repr
    replace RA := hid (rep_keep RA.out u)
    replace RB := hid (rep_keep RB.out u)
    replace RX := hid (rep_keep RX.out u)
    replace UC := hid (UC.out.trans u)
    clear hp u htf htr repf repr
    go_wp2_with fail
    refine (count_any _ _ a _ RA.out (by omega)).mono ?_
    rintro en x20 ⟨rfl, u⟩
    rw [HA.out]
    replace RA := hid (rep_keep RA.out u)
    replace RB := hid (rep_keep RB.out u)
    replace RX := hid (rep_keep RX.out u)
    replace RF := hid (rep_keep RF.out u)
    replace RG := hid (rep_keep RG.out u)
    replace UC := hid (UC.out.trans u)
    clear u
    have TC2 := hid (show countF tf = max 0 (min n na) by rw [TC.out, HA.out])
    obtain ⟨mn, hmn⟩ : ∃ x, max 0 (min n na) = x := ⟨_, rfl⟩
    have HMN := hid hmn
    have e1 : (mn != mn) = false := by simp
    rw [hmn] at TC2
    clear TC
    go_wp2_with fail
    refine (count_any _ _ tf _ RF.out (by omega)).mono ?_
    rintro en x21 ⟨rfl, u⟩
    rw [TC2.out]
    replace RA := hid (rep_keep RA.out u)
    replace RB := hid (rep_keep RB.out u)
    replace RX := hid (rep_keep RX.out u)
    replace RF := hid (rep_keep RF.out u)
    replace RG := hid (rep_keep RG.out u)
    replace UC := hid (UC.out.trans u)
    clear u
    go_wp2_with fail
    refine (union_any _ f r fc rc tf tr _ RF.out RG.out (by omega) (by omega)).mono ?_
    rintro en x22 hp
    obtain ⟨aRY, cRY, rfl, rep, u⟩ := sps_post (nrmU tf tr) hp
    replace RA := hid (rep_keep RA.out u)
    replace RB := hid (rep_keep RB.out u)
    replace RX := hid (rep_keep RX.out u)
    replace RF := hid (rep_keep RF.out u)
    replace RG := hid (rep_keep RG.out u)
    replace UC := hid (UC.out.trans u)
    clear u
    have RY := hid rep
    clear hp rep
    go_wp2_with fail
    refine (refSps_any _ _ (unionF tf tr) (normF a) _ _ _ RY.out RX.out (fun _ h => h) (fun _ h => h)).mono ?_
    rintro en x23 ⟨rfl, u⟩
    rw [decide_eq_true TU.out]
    replace RA := hid (rep_keep RA.out u)
    replace RB := hid (rep_keep RB.out u)
    replace RX := hid (rep_keep RX.out u)
    replace RF := hid (rep_keep RF.out u)
    replace RG := hid (rep_keep RG.out u)
    replace RY := hid (rep_keep RY.out u)
    replace UC := hid (UC.out.trans u)
    clear u
    clear RY
    go_wp2_with fail
    refine (common_any _ _ _ tf tr _ RF.out RG.out (by omega) (by omega)).mono ?_
    rintro en x24 hp
    obtain ⟨aRY, cRY, rfl, rep, u⟩ := sps_post (nrmC tf tr) hp
    rw [TA.out]
    clear hp rep
    replace RA := hid (rep_keep RA.out u)
    replace RB := hid (rep_keep RB.out u)
    replace RX := hid (rep_keep RX.out u)
    replace RF := hid (rep_keep RF.out u)
    replace RG := hid (rep_keep RG.out u)
    replace UC := hid (UC.out.trans u)
    clear u
    go_wp2_with fail
    refine (nrm_any _ _ tf _ RF.out).mono ?_
    rintro en x25 ⟨rfl, u⟩
    rw [decide_eq_true ((nrmP_iff tf).2 HT1.out)]
    replace RA := hid (rep_keep RA.out u)
    replace RB := hid (rep_keep RB.out u)
    replace RX := hid (rep_keep RX.out u)
    replace RF := hid (rep_keep RF.out u)
    replace RG := hid (rep_keep RG.out u)
    replace UC := hid (UC.out.trans u)
    clear u
    go_wp2_with fail
    refine (nrm_any _ _ tr _ RG.out).mono ?_
    rintro en x26 ⟨rfl, u⟩
    rw [decide_eq_true ((nrmP_iff tr).2 HT2.out)]
    replace RA := hid (rep_keep RA.out u)
    replace RB := hid (rep_keep RB.out u)
    replace RX := hid (rep_keep RX.out u)
    replace RF := hid (rep_keep RF.out u)
    replace RG := hid (rep_keep RG.out u)
    replace UC := hid (UC.out.trans u)
    clear u
    by_cases hf0 : tf = []
    case pos =>
      have t1 := (nil_len hf0).1; have t2 := (nil_len hf0).2
      clear hf0
      go_wp2_with fail
      go_ret
      exact ⟨rfl, UC.out⟩
    by_cases hr0 : tr = []
    case pos =>
      have t1 := (cons_len hf0).1; have t2 := (cons_len hf0).2
      have t3 := (nil_len hr0).1; have t4 := (nil_len hr0).2
      clear hf0 hr0
      go_wp2_with fail
      go_ret
      exact ⟨rfl, UC.out⟩
    have t1 := (cons_len hf0).1; have t2 := (cons_len hf0).2
    have t3 := (cons_len hr0).1; have t4 := (cons_len hr0).2
    have pf : 0 < tf.length := List.length_pos_iff.2 hf0
    have pr : 0 < tr.length := List.length_pos_iff.2 hr0
    obtain ⟨bf, of, rfl, hbf, helf⟩ := slice_at RF.out pf
    obtain ⟨br, or, rfl, hbr, helr⟩ := slice_at RG.out pr
    obtain ⟨j, hj⟩ : ∃ j, tf.length = j + 1 := ⟨tf.length - 1, by omega⟩
    have hjl : j < tf.length := by omega
    obtain ⟨_, f0, f1, f2⟩ := sp_cells helf hjl
    obtain ⟨_, r0, r1, r2⟩ := sp_cells helr pr
    rw [Nat.zero_mul, Nat.add_zero] at r0 r1 r2
    have gs2 : (tf.length : Int) - 1 = (j : Int) := by omega
    have gs : IntKind.i64.wrap ((tf.length : Int) - 1) = (j : Int) := by rw [gs2]; exact IntWalk.i64_in _ (by omega)
    have gsw : wrap64 ((tf.length : Int) - 1) = (j : Int) := by rw [gs2]; exact IntWalk.wrap64_in _ (by omega)
    have hjli : (j : Int) < tf.length := by omega
    have pri : (0 : Int) < tr.length := by omega
    have HOR := hid (TO.out _ _ (List.getElem_mem hjl) (List.getElem_mem pr))
    obtain ⟨x, hx⟩ : ∃ x, tf[j] = x := ⟨_, rfl⟩
    obtain ⟨y, hy⟩ : ∃ y, tr[0] = y := ⟨_, rfl⟩
    rw [hx] at f0 f1 f2; rw [hy] at r0 r1 r2; rw [hx, hy] at HOR
    clear helf helr hf0 hr0 hx hy
    obtain ⟨xz, hxz⟩ : ∃ z, z = x26.alloc (.cells #[.int .i64 x.mark, .int .i64 x.fr, .int .i64 x.to] 39 (0, 0)) := ⟨_, rfl⟩
    have hb : xz.heap[x26.heap.size]? = some (.cells #[.int .i64 x.mark, .int .i64 x.fr, .int .i64 x.to] 39 (0, 0)) := by rw [hxz]; exact heap_alloc_new
    have uz : Upd (fun _ => False) x26 xz := by rw [hxz]; exact (Upd.refl _ _).alloc _
    obtain ⟨z0, z1, z2⟩ := cells_s hb
    have q0 := cell_kept r0 (uz.block br hbr id)
    have q1 := cell_kept r1 (uz.block br hbr id)
    have HXZ := hid hxz; have UZ := hid (UC.out.trans uz)
    clear hb uz hxz
    go_upto_region 19 with (fail)
    rw [← HXZ.out]
    clear f0 f1 f2 r0 r1 r2 HXZ
    by_cases hm : x.mark < y.mark
    case pos =>
      have t5 : decide (x.mark < y.mark) = true := decide_eq_true hm
      go_quiet (fail)
      go_wp2_with fail
      go_ret
      exact ⟨rfl, UZ.out.drewN _⟩
    have t5 : decide (x.mark < y.mark) = false := decide_eq_false hm
    obtain ⟨hq, hle⟩ := HOR.out.resolve_left hm
    have t6 : (x.mark == y.mark) = true := beq_iff_eq.2 hq
    have t7 : decide (x.to ≤ y.fr) = true := decide_eq_true hle
    go_quiet (fail)
    go_wp2_with fail
    go_ret
    exact ⟨rfl, UZ.out.drewN _⟩
theorem norms_card (v0 : Value) (a : List Sp) (v1 : Value) (b : List Sp) (n : Int) (w : World) (E : Env w) (hu : UsesIn w) (hz : 6 ≤ w.heap.size) (h0 : kSps.rep (· < w.heap.size) w [v0] a) (h1 : kSps.rep (· < w.heap.size) w [v1] b) (hn : (Lit.int .i64 n).wf = true) :
    Calls Tryz.prog 8 #[v0, v1, .int .i64 n] w fun e w' => e = .returned (.bool true) ∧ Below w.heap.size w w' :=
  (norms_walk v0 a v1 b n w E hu hz h0 h1 hn).mono fun _ _ h => ⟨h.1, h.2.below (Nat.le_refl _) fun _ h => h.elim⟩
end Go.Proofs.YtdcahnkcnbhknaaGreatDoor
