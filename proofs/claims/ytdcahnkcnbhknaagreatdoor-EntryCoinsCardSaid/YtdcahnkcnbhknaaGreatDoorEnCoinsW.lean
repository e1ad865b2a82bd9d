/- Walks: EntryCoins. -/
import Derived.Test.YtdcahnkcnbhknaaGreatDoorEnLaw
namespace Go.Proofs.YtdcahnkcnbhknaaGreatDoor
open Go.RowKit Go.Deep

set_option maxRecDepth 100000 in
set_option maxHeartbeats 16000000 in
theorem coins_walk (v0 : Value) (a : List Sp) (v1 : Value) (b : List Sp) (m n : Int) (w : World) (E : Env w) (hu : UsesIn w) (hz : 6 ≤ w.heap.size) (h0 : kSps.rep (· < w.heap.size) w [v0] a) (h1 : kSps.rep (· < w.heap.size) w [v1] b) :
    Calls Tryz.prog 7 #[v0, v1, .int .i64 m, .int .i64 n] w fun e w' => e = .returned (.bool true) ∧ Upd (fun _ => False) w w' := by
  have HE := hid E; have HU := hid hu; have HZ := hid hz; have H0 := hid h0; have H1 := hid h1
  obtain ⟨aa, ca, rfl, _, _, _⟩ := slice_open h0
  obtain ⟨ab, cb, rfl, _, _, _⟩ := slice_open h1
  clear E hu hz h0 h1
  by_cases la : a.length ≤ 30
  case neg =>
    go_enter Tryz.func7, Tryz.ntmps7
    go_wp2_with fail
    refine (small_any _ HE.out HU.out HZ.out).mono ?_
    rintro en x0 ⟨rfl, u⟩
    have UC := hid u
    have RA := hid (rep_keep H0.out u); have RB := hid (rep_keep H1.out u)
    clear u
    go_wp2_with fail
    refine (light_any aa ca a _).mono ?_
    rintro en x1 ⟨rfl, hx⟩
    subst hx
    rw [decide_eq_false la]
    go_wp2_with fail
    go_ret
    exact ⟨rfl, UC.out⟩
  by_cases lb : b.length ≤ 30
  case neg =>
    go_enter Tryz.func7, Tryz.ntmps7
    go_wp2_with fail
    refine (small_any _ HE.out HU.out HZ.out).mono ?_
    rintro en x0 ⟨rfl, u⟩
    have UC := hid u
    have RA := hid (rep_keep H0.out u); have RB := hid (rep_keep H1.out u)
    clear u
    go_wp2_with fail
    refine (light_any aa ca a _).mono ?_
    rintro en x1 ⟨rfl, hx⟩
    subst hx
    rw [decide_eq_true la]
    go_wp2_with fail
    refine (light_any ab cb b _).mono ?_
    rintro en x2 ⟨rfl, hx⟩
    subst hx
    rw [decide_eq_false lb]
    go_wp2_with fail
    go_ret
    exact ⟨rfl, UC.out⟩
  by_cases hi : HasM a m n
  case pos =>
    by_cases hs : HasM b m n
    case pos =>
      go_enter Tryz.func7, Tryz.ntmps7
      go_wp2_with fail
      refine (small_any _ HE.out HU.out HZ.out).mono ?_
      rintro en x0 ⟨rfl, u⟩
      have UC := hid u
      have RA := hid (rep_keep H0.out u); have RB := hid (rep_keep H1.out u)
      clear u
      go_wp2_with fail
      refine (light_any aa ca a _).mono ?_
      rintro en x1 ⟨rfl, hx⟩
      subst hx
      rw [decide_eq_true la]
      go_wp2_with fail
      refine (light_any ab cb b _).mono ?_
      rintro en x2 ⟨rfl, hx⟩
      subst hx
      rw [decide_eq_true lb]
      go_wp2_with fail
      refine (has_any _ _ a m n _ RA.out).mono ?_
      rintro en x3 ⟨rfl, u⟩
      rw [decide_eq_true (hi)]
      replace RA := hid (rep_keep RA.out u)
      replace RB := hid (rep_keep RB.out u)
      replace UC := hid (UC.out.trans u)
      clear u
      go_wp2_with fail
      refine (has_any _ _ b m n _ RB.out).mono ?_
      rintro en x4 ⟨rfl, u⟩
      rw [decide_eq_true (hs)]
      replace RA := hid (rep_keep RA.out u)
      replace RB := hid (rep_keep RB.out u)
      replace UC := hid (UC.out.trans u)
      clear u
      go_wp2_with fail
      refine (union_any _ aa ab ca cb a b _ RA.out RB.out (by omega) (by omega)).mono ?_
      rintro en x5 hp
      obtain ⟨aRU, cRU, rfl, rep, u⟩ := sps_post (nrmU a b) hp
      replace RA := hid (rep_keep RA.out u)
      replace RB := hid (rep_keep RB.out u)
      replace UC := hid (UC.out.trans u)
      clear u
      have RU := hid rep
      clear hp rep
      go_wp2_with fail
      refine (common_any _ _ _ a b _ RA.out RB.out (by omega) (by omega)).mono ?_
      rintro en x6 hp
      obtain ⟨aRC, cRC, rfl, rep, u⟩ := sps_post (nrmC a b) hp
      replace RA := hid (rep_keep RA.out u)
      replace RB := hid (rep_keep RB.out u)
      replace RU := hid (rep_keep RU.out u)
      replace UC := hid (UC.out.trans u)
      clear u
      have RC := hid rep
      clear hp rep
      go_wp2_with fail
      refine (minus_any _ _ _ a b _ RA.out RB.out (by omega) (by omega)).mono ?_
      rintro en x7 hp
      obtain ⟨aRD, cRD, rfl, rep, u⟩ := sps_post (nrmM a b) hp
      replace RA := hid (rep_keep RA.out u)
      replace RB := hid (rep_keep RB.out u)
      replace RU := hid (rep_keep RU.out u)
      replace RC := hid (rep_keep RC.out u)
      replace UC := hid (UC.out.trans u)
      clear u
      have RD := hid rep
      clear hp rep
      go_wp2_with fail
      refine (norm_any _ _ a _ RA.out (by omega)).mono ?_
      rintro en x8 hp
      obtain ⟨aRX, cRX, rfl, rep, u⟩ := sps_post (nrmN a) hp
      replace RA := hid (rep_keep RA.out u)
      replace RB := hid (rep_keep RB.out u)
      replace RU := hid (rep_keep RU.out u)
      replace RC := hid (rep_keep RC.out u)
      replace RD := hid (rep_keep RD.out u)
      replace UC := hid (UC.out.trans u)
      clear u
      have RX := hid rep
      clear hp rep
      go_wp2_with fail
      refine (nrm_any _ _ (unionF a b) _ RU.out).mono ?_
      rintro en x9 ⟨rfl, u⟩
      rw [decide_eq_true (nrm_results a b).1]
      replace RA := hid (rep_keep RA.out u)
      replace RB := hid (rep_keep RB.out u)
      replace RU := hid (rep_keep RU.out u)
      replace RC := hid (rep_keep RC.out u)
      replace RD := hid (rep_keep RD.out u)
      replace RX := hid (rep_keep RX.out u)
      replace UC := hid (UC.out.trans u)
      clear u
      go_wp2_with fail
      refine (nrm_any _ _ (commonF a b) _ RC.out).mono ?_
      rintro en x10 ⟨rfl, u⟩
      rw [decide_eq_true (nrm_results a b).2.1]
      replace RA := hid (rep_keep RA.out u)
      replace RB := hid (rep_keep RB.out u)
      replace RU := hid (rep_keep RU.out u)
      replace RC := hid (rep_keep RC.out u)
      replace RD := hid (rep_keep RD.out u)
      replace RX := hid (rep_keep RX.out u)
      replace UC := hid (UC.out.trans u)
      clear u
      go_wp2_with fail
      refine (nrm_any _ _ (minusF a b) _ RD.out).mono ?_
      rintro en x11 ⟨rfl, u⟩
      rw [decide_eq_true (nrm_results a b).2.2.1]
      replace RA := hid (rep_keep RA.out u)
      replace RB := hid (rep_keep RB.out u)
      replace RU := hid (rep_keep RU.out u)
      replace RC := hid (rep_keep RC.out u)
      replace RD := hid (rep_keep RD.out u)
      replace RX := hid (rep_keep RX.out u)
      replace UC := hid (UC.out.trans u)
      clear u
      go_wp2_with fail
      refine (nrm_any _ _ (normF a) _ RX.out).mono ?_
      rintro en x12 ⟨rfl, u⟩
      rw [decide_eq_true (nrm_results a b).2.2.2]
      replace RA := hid (rep_keep RA.out u)
      replace RB := hid (rep_keep RB.out u)
      replace RU := hid (rep_keep RU.out u)
      replace RC := hid (rep_keep RC.out u)
      replace RD := hid (rep_keep RD.out u)
      replace RX := hid (rep_keep RX.out u)
      replace UC := hid (UC.out.trans u)
      clear u
      go_wp2_with fail
      refine (has_any _ _ (unionF a b) m n _ RU.out).mono ?_
      rintro en x13 ⟨rfl, u⟩
      rw [decide_eq_decide.2 (hasM_union a b m n)]
      rw [decide_eq_true (.inl hi)]
      replace RA := hid (rep_keep RA.out u)
      replace RB := hid (rep_keep RB.out u)
      replace RU := hid (rep_keep RU.out u)
      replace RC := hid (rep_keep RC.out u)
      replace RD := hid (rep_keep RD.out u)
      replace RX := hid (rep_keep RX.out u)
      replace UC := hid (UC.out.trans u)
      clear u
      go_wp2_with fail
      refine (has_any _ _ (commonF a b) m n _ RC.out).mono ?_
      rintro en x14 ⟨rfl, u⟩
      rw [decide_eq_decide.2 (hasM_common a b m n)]
      rw [decide_eq_true (⟨hi, hs⟩)]
      replace RA := hid (rep_keep RA.out u)
      replace RB := hid (rep_keep RB.out u)
      replace RU := hid (rep_keep RU.out u)
      replace RC := hid (rep_keep RC.out u)
      replace RD := hid (rep_keep RD.out u)
      replace RX := hid (rep_keep RX.out u)
      replace UC := hid (UC.out.trans u)
      clear u
      go_wp2_with fail
      refine (has_any _ _ (minusF a b) m n _ RD.out).mono ?_
      rintro en x15 ⟨rfl, u⟩
      rw [decide_eq_decide.2 (hasM_minus a b m n)]
      rw [decide_eq_false (fun h => h.2 hs)]
      replace RA := hid (rep_keep RA.out u)
      replace RB := hid (rep_keep RB.out u)
      replace RU := hid (rep_keep RU.out u)
      replace RC := hid (rep_keep RC.out u)
      replace RD := hid (rep_keep RD.out u)
      replace RX := hid (rep_keep RX.out u)
      replace UC := hid (UC.out.trans u)
      clear u
      go_wp2_with fail
      refine (has_any _ _ (normF a) m n _ RX.out).mono ?_
      rintro en x16 ⟨rfl, u⟩
      rw [decide_eq_decide.2 (hasM_norm a m n)]
      rw [decide_eq_true (hi)]
      replace RA := hid (rep_keep RA.out u)
      replace RB := hid (rep_keep RB.out u)
      replace RU := hid (rep_keep RU.out u)
      replace RC := hid (rep_keep RC.out u)
      replace RD := hid (rep_keep RD.out u)
      replace RX := hid (rep_keep RX.out u)
      replace UC := hid (UC.out.trans u)
      clear u
      go_wp2_with fail
      go_ret
      exact ⟨rfl, UC.out⟩
    case neg =>
      go_enter Tryz.func7, Tryz.ntmps7
      go_wp2_with fail
      refine (small_any _ HE.out HU.out HZ.out).mono ?_
      rintro en x0 ⟨rfl, u⟩
      have UC := hid u
      have RA := hid (rep_keep H0.out u); have RB := hid (rep_keep H1.out u)
      clear u
      go_wp2_with fail
      refine (light_any aa ca a _).mono ?_
      rintro en x1 ⟨rfl, hx⟩
      subst hx
      rw [decide_eq_true la]
      go_wp2_with fail
      refine (light_any ab cb b _).mono ?_
      rintro en x2 ⟨rfl, hx⟩
      subst hx
      rw [decide_eq_true lb]
      go_wp2_with fail
      refine (has_any _ _ a m n _ RA.out).mono ?_
      rintro en x3 ⟨rfl, u⟩
      rw [decide_eq_true (hi)]
      replace RA := hid (rep_keep RA.out u)
      replace RB := hid (rep_keep RB.out u)
      replace UC := hid (UC.out.trans u)
      clear u
      go_wp2_with fail
      refine (has_any _ _ b m n _ RB.out).mono ?_
      rintro en x4 ⟨rfl, u⟩
      rw [decide_eq_false (hs)]
      replace RA := hid (rep_keep RA.out u)
      replace RB := hid (rep_keep RB.out u)
      replace UC := hid (UC.out.trans u)
      clear u
      go_wp2_with fail
      refine (union_any _ aa ab ca cb a b _ RA.out RB.out (by omega) (by omega)).mono ?_
      rintro en x5 hp
      obtain ⟨aRU, cRU, rfl, rep, u⟩ := sps_post (nrmU a b) hp
      replace RA := hid (rep_keep RA.out u)
      replace RB := hid (rep_keep RB.out u)
      replace UC := hid (UC.out.trans u)
      clear u
      have RU := hid rep
      clear hp rep
      go_wp2_with fail
      refine (common_any _ _ _ a b _ RA.out RB.out (by omega) (by omega)).mono ?_
      rintro en x6 hp
      obtain ⟨aRC, cRC, rfl, rep, u⟩ := sps_post (nrmC a b) hp
      replace RA := hid (rep_keep RA.out u)
      replace RB := hid (rep_keep RB.out u)
      replace RU := hid (rep_keep RU.out u)
      replace UC := hid (UC.out.trans u)
      clear u
      have RC := hid rep
      clear hp rep
      go_wp2_with fail
      refine (minus_any _ _ _ a b _ RA.out RB.out (by omega) (by omega)).mono ?_
      rintro en x7 hp
      obtain ⟨aRD, cRD, rfl, rep, u⟩ := sps_post (nrmM a b) hp
      replace RA := hid (rep_keep RA.out u)
      replace RB := hid (rep_keep RB.out u)
      replace RU := hid (rep_keep RU.out u)
      replace RC := hid (rep_keep RC.out u)
      replace UC := hid (UC.out.trans u)
      clear u
      have RD := hid rep
      clear hp rep
      go_wp2_with fail
      refine (norm_any _ _ a _ RA.out (by omega)).mono ?_
      rintro en x8 hp
      obtain ⟨aRX, cRX, rfl, rep, u⟩ := sps_post (nrmN a) hp
      replace RA := hid (rep_keep RA.out u)
      replace RB := hid (rep_keep RB.out u)
      replace RU := hid (rep_keep RU.out u)
      replace RC := hid (rep_keep RC.out u)
      replace RD := hid (rep_keep RD.out u)
      replace UC := hid (UC.out.trans u)
      clear u
      have RX := hid rep
      clear hp rep
      go_wp2_with fail
      refine (nrm_any _ _ (unionF a b) _ RU.out).mono ?_
      rintro en x9 ⟨rfl, u⟩
      rw [decide_eq_true (nrm_results a b).1]
      replace RA := hid (rep_keep RA.out u)
      replace RB := hid (rep_keep RB.out u)
      replace RU := hid (rep_keep RU.out u)
      replace RC := hid (rep_keep RC.out u)
      replace RD := hid (rep_keep RD.out u)
      replace RX := hid (rep_keep RX.out u)
      replace UC := hid (UC.out.trans u)
      clear u
      go_wp2_with fail
      refine (nrm_any _ _ (commonF a b) _ RC.out).mono ?_
      rintro en x10 ⟨rfl, u⟩
      rw [decide_eq_true (nrm_results a b).2.1]
      replace RA := hid (rep_keep RA.out u)
      replace RB := hid (rep_keep RB.out u)
      replace RU := hid (rep_keep RU.out u)
      replace RC := hid (rep_keep RC.out u)
      replace RD := hid (rep_keep RD.out u)
      replace RX := hid (rep_keep RX.out u)
      replace UC := hid (UC.out.trans u)
      clear u
      go_wp2_with fail
      refine (nrm_any _ _ (minusF a b) _ RD.out).mono ?_
      rintro en x11 ⟨rfl, u⟩
      rw [decide_eq_true (nrm_results a b).2.2.1]
      replace RA := hid (rep_keep RA.out u)
      replace RB := hid (rep_keep RB.out u)
      replace RU := hid (rep_keep RU.out u)
      replace RC := hid (rep_keep RC.out u)
      replace RD := hid (rep_keep RD.out u)
      replace RX := hid (rep_keep RX.out u)
      replace UC := hid (UC.out.trans u)
      clear u
      go_wp2_with fail
      refine (nrm_any _ _ (normF a) _ RX.out).mono ?_
      rintro en x12 ⟨rfl, u⟩
      rw [decide_eq_true (nrm_results a b).2.2.2]
      replace RA := hid (rep_keep RA.out u)
      replace RB := hid (rep_keep RB.out u)
      replace RU := hid (rep_keep RU.out u)
      replace RC := hid (rep_keep RC.out u)
      replace RD := hid (rep_keep RD.out u)
      replace RX := hid (rep_keep RX.out u)
      replace UC := hid (UC.out.trans u)
      clear u
      go_wp2_with fail
      refine (has_any _ _ (unionF a b) m n _ RU.out).mono ?_
      rintro en x13 ⟨rfl, u⟩
      rw [decide_eq_decide.2 (hasM_union a b m n)]
      rw [decide_eq_true (.inl hi)]
      replace RA := hid (rep_keep RA.out u)
      replace RB := hid (rep_keep RB.out u)
      replace RU := hid (rep_keep RU.out u)
      replace RC := hid (rep_keep RC.out u)
      replace RD := hid (rep_keep RD.out u)
      replace RX := hid (rep_keep RX.out u)
      replace UC := hid (UC.out.trans u)
      clear u
      go_wp2_with fail
      refine (has_any _ _ (commonF a b) m n _ RC.out).mono ?_
      rintro en x14 ⟨rfl, u⟩
      rw [decide_eq_decide.2 (hasM_common a b m n)]
      rw [decide_eq_false (fun h => hs h.2)]
      replace RA := hid (rep_keep RA.out u)
      replace RB := hid (rep_keep RB.out u)
      replace RU := hid (rep_keep RU.out u)
      replace RC := hid (rep_keep RC.out u)
      replace RD := hid (rep_keep RD.out u)
      replace RX := hid (rep_keep RX.out u)
      replace UC := hid (UC.out.trans u)
      clear u
      go_wp2_with fail
      refine (has_any _ _ (minusF a b) m n _ RD.out).mono ?_
      rintro en x15 ⟨rfl, u⟩
      rw [decide_eq_decide.2 (hasM_minus a b m n)]
      rw [decide_eq_true (⟨hi, hs⟩)]
      replace RA := hid (rep_keep RA.out u)
      replace RB := hid (rep_keep RB.out u)
      replace RU := hid (rep_keep RU.out u)
      replace RC := hid (rep_keep RC.out u)
      replace RD := hid (rep_keep RD.out u)
      replace RX := hid (rep_keep RX.out u)
      replace UC := hid (UC.out.trans u)
      clear u
      go_wp2_with fail
      refine (has_any _ _ (normF a) m n _ RX.out).mono ?_
      rintro en x16 ⟨rfl, u⟩
      rw [decide_eq_decide.2 (hasM_norm a m n)]
      rw [decide_eq_true (hi)]
      replace RA := hid (rep_keep RA.out u)
      replace RB := hid (rep_keep RB.out u)
      replace RU := hid (rep_keep RU.out u)
      replace RC := hid (rep_keep RC.out u)
      replace RD := hid (rep_keep RD.out u)
      replace RX := hid (rep_keep RX.out u)
      replace UC := hid (UC.out.trans u)
      clear u
      go_wp2_with fail
      go_ret
      exact ⟨rfl, UC.out⟩
  case neg =>
    by_cases hs : HasM b m n
    case pos =>
      go_enter Tryz.func7, Tryz.ntmps7
      go_wp2_with fail
      refine (small_any _ HE.out HU.out HZ.out).mono ?_
      rintro en x0 ⟨rfl, u⟩
      have UC := hid u
      have RA := hid (rep_keep H0.out u); have RB := hid (rep_keep H1.out u)
      clear u
      go_wp2_with fail
      refine (light_any aa ca a _).mono ?_
      rintro en x1 ⟨rfl, hx⟩
      subst hx
      rw [decide_eq_true la]
      go_wp2_with fail
      refine (light_any ab cb b _).mono ?_
      rintro en x2 ⟨rfl, hx⟩
      subst hx
      rw [decide_eq_true lb]
      go_wp2_with fail
      refine (has_any _ _ a m n _ RA.out).mono ?_
      rintro en x3 ⟨rfl, u⟩
      rw [decide_eq_false (hi)]
      replace RA := hid (rep_keep RA.out u)
      replace RB := hid (rep_keep RB.out u)
      replace UC := hid (UC.out.trans u)
      clear u
      go_wp2_with fail
      refine (has_any _ _ b m n _ RB.out).mono ?_
      rintro en x4 ⟨rfl, u⟩
      rw [decide_eq_true (hs)]
      replace RA := hid (rep_keep RA.out u)
      replace RB := hid (rep_keep RB.out u)
      replace UC := hid (UC.out.trans u)
      clear u
      go_wp2_with fail
      refine (union_any _ aa ab ca cb a b _ RA.out RB.out (by omega) (by omega)).mono ?_
      rintro en x5 hp
      obtain ⟨aRU, cRU, rfl, rep, u⟩ := sps_post (nrmU a b) hp
      replace RA := hid (rep_keep RA.out u)
      replace RB := hid (rep_keep RB.out u)
      replace UC := hid (UC.out.trans u)
      clear u
      have RU := hid rep
      clear hp rep
      go_wp2_with fail
      refine (common_any _ _ _ a b _ RA.out RB.out (by omega) (by omega)).mono ?_
      rintro en x6 hp
      obtain ⟨aRC, cRC, rfl, rep, u⟩ := sps_post (nrmC a b) hp
      replace RA := hid (rep_keep RA.out u)
      replace RB := hid (rep_keep RB.out u)
      replace RU := hid (rep_keep RU.out u)
      replace UC := hid (UC.out.trans u)
      clear u
      have RC := hid rep
      clear hp rep
      go_wp2_with fail
      refine (minus_any _ _ _ a b _ RA.out RB.out (by omega) (by omega)).mono ?_
      rintro en x7 hp
      obtain ⟨aRD, cRD, rfl, rep, u⟩ := sps_post (nrmM a b) hp
      replace RA := hid (rep_keep RA.out u)
      replace RB := hid (rep_keep RB.out u)
      replace RU := hid (rep_keep RU.out u)
      replace RC := hid (rep_keep RC.out u)
      replace UC := hid (UC.out.trans u)
      clear u
      have RD := hid rep
      clear hp rep
      go_wp2_with fail
      refine (norm_any _ _ a _ RA.out (by omega)).mono ?_
      rintro en x8 hp
      obtain ⟨aRX, cRX, rfl, rep, u⟩ := sps_post (nrmN a) hp
      replace RA := hid (rep_keep RA.out u)
      replace RB := hid (rep_keep RB.out u)
      replace RU := hid (rep_keep RU.out u)
      replace RC := hid (rep_keep RC.out u)
      replace RD := hid (rep_keep RD.out u)
      replace UC := hid (UC.out.trans u)
      clear u
      have RX := hid rep
      clear hp rep
      go_wp2_with fail
      refine (nrm_any _ _ (unionF a b) _ RU.out).mono ?_
      rintro en x9 ⟨rfl, u⟩
      rw [decide_eq_true (nrm_results a b).1]
      replace RA := hid (rep_keep RA.out u)
      replace RB := hid (rep_keep RB.out u)
      replace RU := hid (rep_keep RU.out u)
      replace RC := hid (rep_keep RC.out u)
      replace RD := hid (rep_keep RD.out u)
      replace RX := hid (rep_keep RX.out u)
      replace UC := hid (UC.out.trans u)
      clear u
      go_wp2_with fail
      refine (nrm_any _ _ (commonF a b) _ RC.out).mono ?_
      rintro en x10 ⟨rfl, u⟩
      rw [decide_eq_true (nrm_results a b).2.1]
      replace RA := hid (rep_keep RA.out u)
      replace RB := hid (rep_keep RB.out u)
      replace RU := hid (rep_keep RU.out u)
      replace RC := hid (rep_keep RC.out u)
      replace RD := hid (rep_keep RD.out u)
      replace RX := hid (rep_keep RX.out u)
      replace UC := hid (UC.out.trans u)
      clear u
      go_wp2_with fail
      refine (nrm_any _ _ (minusF a b) _ RD.out).mono ?_
      rintro en x11 ⟨rfl, u⟩
      rw [decide_eq_true (nrm_results a b).2.2.1]
      replace RA := hid (rep_keep RA.out u)
      replace RB := hid (rep_keep RB.out u)
      replace RU := hid (rep_keep RU.out u)
      replace RC := hid (rep_keep RC.out u)
      replace RD := hid (rep_keep RD.out u)
      replace RX := hid (rep_keep RX.out u)
      replace UC := hid (UC.out.trans u)
      clear u
      go_wp2_with fail
      refine (nrm_any _ _ (normF a) _ RX.out).mono ?_
      rintro en x12 ⟨rfl, u⟩
      rw [decide_eq_true (nrm_results a b).2.2.2]
      replace RA := hid (rep_keep RA.out u)
      replace RB := hid (rep_keep RB.out u)
      replace RU := hid (rep_keep RU.out u)
      replace RC := hid (rep_keep RC.out u)
      replace RD := hid (rep_keep RD.out u)
      replace RX := hid (rep_keep RX.out u)
      replace UC := hid (UC.out.trans u)
      clear u
      go_wp2_with fail
      refine (has_any _ _ (unionF a b) m n _ RU.out).mono ?_
      rintro en x13 ⟨rfl, u⟩
      rw [decide_eq_decide.2 (hasM_union a b m n)]
      rw [decide_eq_true (.inr hs)]
      replace RA := hid (rep_keep RA.out u)
      replace RB := hid (rep_keep RB.out u)
      replace RU := hid (rep_keep RU.out u)
      replace RC := hid (rep_keep RC.out u)
      replace RD := hid (rep_keep RD.out u)
      replace RX := hid (rep_keep RX.out u)
      replace UC := hid (UC.out.trans u)
      clear u
      go_wp2_with fail
      refine (has_any _ _ (commonF a b) m n _ RC.out).mono ?_
      rintro en x14 ⟨rfl, u⟩
      rw [decide_eq_decide.2 (hasM_common a b m n)]
      rw [decide_eq_false (fun h => hi h.1)]
      replace RA := hid (rep_keep RA.out u)
      replace RB := hid (rep_keep RB.out u)
      replace RU := hid (rep_keep RU.out u)
      replace RC := hid (rep_keep RC.out u)
      replace RD := hid (rep_keep RD.out u)
      replace RX := hid (rep_keep RX.out u)
      replace UC := hid (UC.out.trans u)
      clear u
      go_wp2_with fail
      refine (has_any _ _ (minusF a b) m n _ RD.out).mono ?_
      rintro en x15 ⟨rfl, u⟩
      rw [decide_eq_decide.2 (hasM_minus a b m n)]
      rw [decide_eq_false (fun h => hi h.1)]
      replace RA := hid (rep_keep RA.out u)
      replace RB := hid (rep_keep RB.out u)
      replace RU := hid (rep_keep RU.out u)
      replace RC := hid (rep_keep RC.out u)
      replace RD := hid (rep_keep RD.out u)
      replace RX := hid (rep_keep RX.out u)
      replace UC := hid (UC.out.trans u)
      clear u
      go_wp2_with fail
      refine (has_any _ _ (normF a) m n _ RX.out).mono ?_
      rintro en x16 ⟨rfl, u⟩
      rw [decide_eq_decide.2 (hasM_norm a m n)]
      rw [decide_eq_false (hi)]
      replace RA := hid (rep_keep RA.out u)
      replace RB := hid (rep_keep RB.out u)
      replace RU := hid (rep_keep RU.out u)
      replace RC := hid (rep_keep RC.out u)
      replace RD := hid (rep_keep RD.out u)
      replace RX := hid (rep_keep RX.out u)
      replace UC := hid (UC.out.trans u)
      clear u
      go_wp2_with fail
      go_ret
      exact ⟨rfl, UC.out⟩
    case neg =>
      go_enter Tryz.func7, Tryz.ntmps7
      go_wp2_with fail
      refine (small_any _ HE.out HU.out HZ.out).mono ?_
      rintro en x0 ⟨rfl, u⟩
      have UC := hid u
      have RA := hid (rep_keep H0.out u); have RB := hid (rep_keep H1.out u)
      clear u
      go_wp2_with fail
      refine (light_any aa ca a _).mono ?_
      rintro en x1 ⟨rfl, hx⟩
      subst hx
      rw [decide_eq_true la]
      go_wp2_with fail
      refine (light_any ab cb b _).mono ?_
      rintro en x2 ⟨rfl, hx⟩
      subst hx
      rw [decide_eq_true lb]
      go_wp2_with fail
      refine (has_any _ _ a m n _ RA.out).mono ?_
      rintro en x3 ⟨rfl, u⟩
      rw [decide_eq_false (hi)]
      replace RA := hid (rep_keep RA.out u)
      replace RB := hid (rep_keep RB.out u)
      replace UC := hid (UC.out.trans u)
      clear u
      go_wp2_with fail
      refine (has_any _ _ b m n _ RB.out).mono ?_
      rintro en x4 ⟨rfl, u⟩
      rw [decide_eq_false (hs)]
      replace RA := hid (rep_keep RA.out u)
      replace RB := hid (rep_keep RB.out u)
      replace UC := hid (UC.out.trans u)
      clear u
      go_wp2_with fail
      refine (union_any _ aa ab ca cb a b _ RA.out RB.out (by omega) (by omega)).mono ?_
      rintro en x5 hp
      obtain ⟨aRU, cRU, rfl, rep, u⟩ := sps_post (nrmU a b) hp
      replace RA := hid (rep_keep RA.out u)
      replace RB := hid (rep_keep RB.out u)
      replace UC := hid (UC.out.trans u)
      clear u
      have RU := hid rep
      clear hp rep
      go_wp2_with fail
      refine (common_any _ _ _ a b _ RA.out RB.out (by omega) (by omega)).mono ?_
      rintro en x6 hp
      obtain ⟨aRC, cRC, rfl, rep, u⟩ := sps_post (nrmC a b) hp
      replace RA := hid (rep_keep RA.out u)
      replace RB := hid (rep_keep RB.out u)
      replace RU := hid (rep_keep RU.out u)
      replace UC := hid (UC.out.trans u)
      clear u
      have RC := hid rep
      clear hp rep
      go_wp2_with fail
      refine (minus_any _ _ _ a b _ RA.out RB.out (by omega) (by omega)).mono ?_
      rintro en x7 hp
      obtain ⟨aRD, cRD, rfl, rep, u⟩ := sps_post (nrmM a b) hp
      replace RA := hid (rep_keep RA.out u)
      replace RB := hid (rep_keep RB.out u)
      replace RU := hid (rep_keep RU.out u)
      replace RC := hid (rep_keep RC.out u)
      replace UC := hid (UC.out.trans u)
      clear u
      have RD := hid rep
      clear hp rep
      go_wp2_with fail
      refine (norm_any _ _ a _ RA.out (by omega)).mono ?_
      rintro en x8 hp
      obtain ⟨aRX, cRX, rfl, rep, u⟩ := sps_post (nrmN a) hp
      replace RA := hid (rep_keep RA.out u)
      replace RB := hid (rep_keep RB.out u)
      replace RU := hid (rep_keep RU.out u)
      replace RC := hid (rep_keep RC.out u)
      replace RD := hid (rep_keep RD.out u)
      replace UC := hid (UC.out.trans u)
      clear u
      have RX := hid rep
      clear hp rep
      go_wp2_with fail
      refine (nrm_any _ _ (unionF a b) _ RU.out).mono ?_
      rintro en x9 ⟨rfl, u⟩
      rw [decide_eq_true (nrm_results a b).1]
      replace RA := hid (rep_keep RA.out u)
      replace RB := hid (rep_keep RB.out u)
      replace RU := hid (rep_keep RU.out u)
      replace RC := hid (rep_keep RC.out u)
      replace RD := hid (rep_keep RD.out u)
      replace RX := hid (rep_keep RX.out u)
      replace UC := hid (UC.out.trans u)
      clear u
      go_wp2_with fail
      refine (nrm_any _ _ (commonF a b) _ RC.out).mono ?_
      rintro en x10 ⟨rfl, u⟩
      rw [decide_eq_true (nrm_results a b).2.1]
      replace RA := hid (rep_keep RA.out u)
      replace RB := hid (rep_keep RB.out u)
      replace RU := hid (rep_keep RU.out u)
      replace RC := hid (rep_keep RC.out u)
      replace RD := hid (rep_keep RD.out u)
      replace RX := hid (rep_keep RX.out u)
      replace UC := hid (UC.out.trans u)
      clear u
      go_wp2_with fail
      refine (nrm_any _ _ (minusF a b) _ RD.out).mono ?_
      rintro en x11 ⟨rfl, u⟩
      rw [decide_eq_true (nrm_results a b).2.2.1]
      replace RA := hid (rep_keep RA.out u)
      replace RB := hid (rep_keep RB.out u)
      replace RU := hid (rep_keep RU.out u)
      replace RC := hid (rep_keep RC.out u)
      replace RD := hid (rep_keep RD.out u)
      replace RX := hid (rep_keep RX.out u)
      replace UC := hid (UC.out.trans u)
      clear u
      go_wp2_with fail
      refine (nrm_any _ _ (normF a) _ RX.out).mono ?_
      rintro en x12 ⟨rfl, u⟩
      rw [decide_eq_true (nrm_results a b).2.2.2]
      replace RA := hid (rep_keep RA.out u)
      replace RB := hid (rep_keep RB.out u)
      replace RU := hid (rep_keep RU.out u)
      replace RC := hid (rep_keep RC.out u)
      replace RD := hid (rep_keep RD.out u)
      replace RX := hid (rep_keep RX.out u)
      replace UC := hid (UC.out.trans u)
      clear u
      go_wp2_with fail
      refine (has_any _ _ (unionF a b) m n _ RU.out).mono ?_
      rintro en x13 ⟨rfl, u⟩
      rw [decide_eq_decide.2 (hasM_union a b m n)]
      rw [decide_eq_false (fun h => h.elim hi hs)]
      replace RA := hid (rep_keep RA.out u)
      replace RB := hid (rep_keep RB.out u)
      replace RU := hid (rep_keep RU.out u)
      replace RC := hid (rep_keep RC.out u)
      replace RD := hid (rep_keep RD.out u)
      replace RX := hid (rep_keep RX.out u)
      replace UC := hid (UC.out.trans u)
      clear u
      go_wp2_with fail
      refine (has_any _ _ (commonF a b) m n _ RC.out).mono ?_
      rintro en x14 ⟨rfl, u⟩
      rw [decide_eq_decide.2 (hasM_common a b m n)]
      rw [decide_eq_false (fun h => hi h.1)]
      replace RA := hid (rep_keep RA.out u)
      replace RB := hid (rep_keep RB.out u)
      replace RU := hid (rep_keep RU.out u)
      replace RC := hid (rep_keep RC.out u)
      replace RD := hid (rep_keep RD.out u)
      replace RX := hid (rep_keep RX.out u)
      replace UC := hid (UC.out.trans u)
      clear u
      go_wp2_with fail
      refine (has_any _ _ (minusF a b) m n _ RD.out).mono ?_
      rintro en x15 ⟨rfl, u⟩
      rw [decide_eq_decide.2 (hasM_minus a b m n)]
      rw [decide_eq_false (fun h => hi h.1)]
      replace RA := hid (rep_keep RA.out u)
      replace RB := hid (rep_keep RB.out u)
      replace RU := hid (rep_keep RU.out u)
      replace RC := hid (rep_keep RC.out u)
      replace RD := hid (rep_keep RD.out u)
      replace RX := hid (rep_keep RX.out u)
      replace UC := hid (UC.out.trans u)
      clear u
      go_wp2_with fail
      refine (has_any _ _ (normF a) m n _ RX.out).mono ?_
      rintro en x16 ⟨rfl, u⟩
      rw [decide_eq_decide.2 (hasM_norm a m n)]
      rw [decide_eq_false (hi)]
      replace RA := hid (rep_keep RA.out u)
      replace RB := hid (rep_keep RB.out u)
      replace RU := hid (rep_keep RU.out u)
      replace RC := hid (rep_keep RC.out u)
      replace RD := hid (rep_keep RD.out u)
      replace RX := hid (rep_keep RX.out u)
      replace UC := hid (UC.out.trans u)
      clear u
      go_wp2_with fail
      go_ret
      exact ⟨rfl, UC.out⟩
theorem coins_card (v0 : Value) (a : List Sp) (v1 : Value) (b : List Sp) (m n : Int) (w : World) (E : Env w) (hu : UsesIn w) (hz : 6 ≤ w.heap.size) (h0 : kSps.rep (· < w.heap.size) w [v0] a) (h1 : kSps.rep (· < w.heap.size) w [v1] b) (_ : (Lit.int .i64 m).wf = true) (_ : (Lit.int .i64 n).wf = true) :
    Calls Tryz.prog 7 #[v0, v1, .int .i64 m, .int .i64 n] w fun e w' => e = .returned (.bool true) ∧ Below w.heap.size w w' :=
  (coins_walk v0 a v1 b m n w E hu hz h0 h1).mono fun _ _ h => ⟨h.1, h.2.below (Nat.le_refl _) fun _ h => h.elim⟩
end Go.Proofs.YtdcahnkcnbhknaaGreatDoor
