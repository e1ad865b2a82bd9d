/- Walks: two histories with the same entries say the same (alike). -/
import Derived.Test.YtalhmpggpjbeaaaGreatDoorJ18
import Derived.Test.YtalhmpggpjbeaaaGreatDoorJ13
namespace Go.Proofs.YtalhmpggpjbeaaaGreatDoor
open Go.RowKit Go.Deep

theorem ints_index {g o n cap k : Nat} (hk : k < n) (hn : n ≤ cap) (hc : cap ≤ 9223372036854775807) (w : World) : (Instr.indexAt 31 (.slice (some ⟨g, o, none⟩) n cap) (.int .i64 k)).run Tryz.prog w = .ok (.pointer (some ⟨g, o + k, none⟩)) w := by
  have hki : (k : Int) < n := by omega
  unfold Instr.indexAt
  go_simp
theorem mark_i64 {R : Rg} {hs : Hs} (H : His rdF R hs) (hR : R.length ≤ 60) : ∀ x ∈ marksF hs, I64 x := fun x hx => by have := marks_small H hx; unfold I64; omega
theorem past_i64 {R : Rg} {hs : Hs} (H : His rdF R hs) (hR : R.length ≤ 60) (m : Int) : ∀ x ∈ pastF hs m, I64 x := fun x hx => by
  rw [mem_past H] at hx
  obtain ⟨i, _, hi, _⟩ := hx
  have := his_mark H (m := x) (by rw [hi]; rfl)
  unfold I64; omega
theorem heads_i64 {R : Rg} {hs : Hs} (H : His rdF R hs) (hR : R.length ≤ 60) : ∀ x ∈ headsF hs, I64 x := fun x hx => by
  rw [mem_heads H] at hx
  have := his_mark H hx.1
  unfold I64; omega
theorem sorted_i64 {R : Rg} {hs : Hs} (H : His rdF R hs) (hR : R.length ≤ 60) (ms : List Int) : ∀ x ∈ sortedF hs ms, I64 x := fun x hx => by
  have := his_mark H (((sorted_ok H ms).2 x).1 hx).2
  unfold I64; omega
theorem down_i64 {R : Rg} {hs : Hs} (H : His rdF R hs) (hR : R.length ≤ 60) (ms : List Int) : ∀ x ∈ downL hs ms, I64 x := fun x hx => by
  unfold downL at hx
  rw [mem_marksP H] at hx
  obtain ⟨i, hi, _⟩ := hx
  have := his_mark H (m := x) (by rw [hi]; rfl)
  unfold I64; omega
set_option maxRecDepth 100000 in
set_option maxHeartbeats 8000000 in
theorem alike_any {O O2 : Nat → Prop} {b r b2 r2 : Nat} {hs h2 : Hs} {R : Rg} {w : World} (h : IsHis w O b r hs) (k : IsHis w O2 b2 r2 h2) (H : His rdF R hs) (K : His rdF R h2) (hR : R.length ≤ 60) (hsame : SameM hs h2) :
    Calls Tryz.prog 25 #[.pointer (some ⟨b, 0, none⟩), .pointer (some ⟨b2, 0, none⟩)] w fun e w' => e = .returned (.bool true) ∧ Upd (fun _ => False) w w' := by
  have HA := hid h; have HB := hid k; have PA := hid H; have PB := hid K; have HR := hid hR
  have EM := hid (hsame.marks H K); have EL := hid (hsame.len H K); have EH := hid (hsame.heads H K); have ES := hid (hsame.sorted H K (marksF hs)); have EV := hid (fun m => hsame.level H K m); have EP := hid (fun m => hsame.past H K m)
  have hlen : hs.length ≤ 60 := Nat.le_trans H.len hR
  have HLN := hid hlen
  clear h k H K hR hsame
  go_enter Tryz.func25, Tryz.ntmps25
  go_wp2_with fail
  refine (hmarks_any HA.out).mono ?_
  rintro en w1 ⟨v, rfl, ho, u⟩
  have OM := hid ho; have UC := hid u
  obtain ⟨am, cm, rfl, hm1, hm2⟩ := own_slice ho
  have hm2 : cm ≤ 9223372036854775807 := hm2
  rw [marksF_len] at hm1 ⊢
  have OM : Hid (w1.ownsRow w.heap.size 3 1 (.slice am hs.length cm) (marksF hs).length ((marksF hs).map fun x => .int .i64 x)) := by have := OM.out; rw [marksF_len] at this ⊢; exact hid this
  replace HA := hid (HA.out.keep u)
  replace HB := hid (HB.out.keep u)
  clear ho u
  go_wp2_with fail
  refine (hsame_any HA.out HB.out PA.out PB.out (Nat.le_trans HR.out (by decide))).mono ?_
  rintro en y ⟨rfl, u⟩
  rw [decide_eq_true EM.out]
  replace OM := hid (ownsRow_upd OM.out u fun _ _ => id)
  replace HA := hid (HA.out.keep u)
  replace HB := hid (HB.out.keep u)
  replace UC := hid (UC.out.trans u)
  clear u
  go_wp2_with fail
  refine (hsame_any HB.out HA.out PB.out PA.out (Nat.le_trans HR.out (by decide))).mono ?_
  rintro en y ⟨rfl, u⟩
  rw [decide_eq_true EM.out.symm]
  replace OM := hid (ownsRow_upd OM.out u fun _ _ => id)
  replace HA := hid (HA.out.keep u)
  replace HB := hid (HB.out.keep u)
  replace UC := hid (UC.out.trans u)
  clear u
  go_wp2_with fail
  refine (hlen_any HA.out).mono ?_
  rintro en y ⟨rfl, rfl⟩
  go_wp2_with fail
  refine (hlen_any HB.out).mono ?_
  rintro en y ⟨rfl, rfl⟩
  rw [← EL.out]
  go_wp2_with fail
  refine (hmarks_any HB.out).mono ?_
  rintro en y2 ⟨v2, rfl, o2, u⟩
  replace OM := hid (ownsRow_upd OM.out u fun _ _ => id)
  replace HA := hid (HA.out.keep u)
  replace HB := hid (HB.out.keep u)
  replace UC := hid (UC.out.trans u)
  have Q2 := hid o2
  clear o2 u
  go_wp2_with fail
  refine (ints8_any _ _ (marksF hs) (marksF h2) _ _ _ (ints_rep (l := marksF hs) (by have := OM.out; exact this) (mark_i64 PA.out HR.out)) (ints_rep Q2.out (mark_i64 PB.out HR.out)) (fun _ q => q.2) (fun _ q => q.2)).mono ?_
  rintro en y3 ⟨rfl, u⟩
  rw [decide_eq_true EM.out]
  replace OM := hid (ownsRow_upd OM.out u fun _ _ => id)
  replace HA := hid (HA.out.keep u)
  replace HB := hid (HB.out.keep u)
  replace UC := hid (UC.out.trans u)
  clear u Q2
  go_wp2_with fail
  refine (hheads_any HA.out).mono ?_
  rintro en y1 ⟨v1, rfl, o1, u⟩
  replace OM := hid (ownsRow_upd OM.out u fun _ _ => id)
  replace HA := hid (HA.out.keep u)
  replace HB := hid (HB.out.keep u)
  replace UC := hid (UC.out.trans u)
  have Q1 := hid o1
  clear o1 u
  go_wp2_with fail
  refine (hheads_any HB.out).mono ?_
  rintro en y2 ⟨v2, rfl, o2, u⟩
  replace OM := hid (ownsRow_upd OM.out u fun _ _ => id)
  replace HA := hid (HA.out.keep u)
  replace HB := hid (HB.out.keep u)
  replace UC := hid (UC.out.trans u)
  replace Q1 := hid (ownsRow_upd Q1.out u fun _ _ => id)
  have Q2 := hid o2
  clear o2 u
  go_wp2_with fail
  refine (ints8_any _ _ (headsF hs) (headsF h2) _ _ _ (ints_rep Q1.out (heads_i64 PA.out HR.out)) (ints_rep Q2.out (heads_i64 PB.out HR.out)) (fun _ q => q.2) (fun _ q => q.2)).mono ?_
  rintro en y3 ⟨rfl, u⟩
  rw [decide_eq_true EH.out]
  replace OM := hid (ownsRow_upd OM.out u fun _ _ => id)
  replace HA := hid (HA.out.keep u)
  replace HB := hid (HB.out.keep u)
  replace UC := hid (UC.out.trans u)
  clear u Q1 Q2
  go_wp2_with fail
  refine (hsorted_any HA.out PA.out HR.out _ _ (marksF hs) (ints_rep OM.out (mark_i64 PA.out HR.out))).mono ?_
  rintro en y1 ⟨v1, rfl, o1, u⟩
  replace OM := hid (ownsRow_upd OM.out u fun _ _ => id)
  replace HA := hid (HA.out.keep u)
  replace HB := hid (HB.out.keep u)
  replace UC := hid (UC.out.trans u)
  have Q1 := hid o1
  clear o1 u
  go_wp2_with fail
  refine (hsorted_any HB.out PB.out HR.out _ _ (marksF hs) (ints_rep OM.out (mark_i64 PA.out HR.out))).mono ?_
  rintro en y2 ⟨v2, rfl, o2, u⟩
  replace OM := hid (ownsRow_upd OM.out u fun _ _ => id)
  replace HA := hid (HA.out.keep u)
  replace HB := hid (HB.out.keep u)
  replace UC := hid (UC.out.trans u)
  replace Q1 := hid (ownsRow_upd Q1.out u fun _ _ => id)
  have Q2 := hid o2
  clear o2 u
  go_wp2_with fail
  refine (ints8_any _ _ (sortedF hs (marksF hs)) (sortedF h2 (marksF hs)) _ _ _ (ints_rep Q1.out (sorted_i64 PA.out HR.out _)) (ints_rep Q2.out (sorted_i64 PB.out HR.out _)) (fun _ q => q.2) (fun _ q => q.2)).mono ?_
  rintro en y3 ⟨rfl, u⟩
  rw [decide_eq_true ES.out]
  replace OM := hid (ownsRow_upd OM.out u fun _ _ => id)
  replace HA := hid (HA.out.keep u)
  replace HB := hid (HB.out.keep u)
  replace UC := hid (UC.out.trans u)
  clear u Q1 Q2
  go_wp2_with fail
  have START := hid (show ∃ y, y = y3 ∧ True from ⟨y3, rfl, trivial⟩)
  go_loopg [6] hs.length (fun gg s6 wr => ∃ k : Nat, k ≤ hs.length ∧ gg = hs.length - k ∧ s6 = .int .i64 k ∧ wr.ownsRow w.heap.size 3 1 (.slice am hs.length cm) (marksF hs).length ((marksF hs).map fun x => .int .i64 x) ∧ IsHis wr O b r hs ∧ IsHis wr O2 b2 r2 h2 ∧ Upd (fun _ => False) w wr)
  case atStart => exact ⟨0, Nat.zero_le _, rfl, rfl, OM.out, HA.out, HB.out, UC.out⟩
  case round =>
    obtain ⟨k, hk, hg, rfl, q1, q2, q3, u⟩ := hrel
    clear OM HA HB UC START
    have OM := hid q1; have HA := hid q2; have HB := hid q3; have UC := hid u; have HG := hid hg
    clear q1 q2 q3 u hg
    by_cases hlt : k < hs.length
    case neg =>
      have hlti : ¬ (k : Int) < hs.length := by omega
      go_wp2_with fail
      go_ret
      exact ⟨rfl, UC.out⟩
    have hlti : (k : Int) < hs.length := by omega
    have hk1 : (k : Int) + 1 ≤ 1000 := by omega
    have hml : k < (marksF hs).length := by rw [marksF_len]; exact hlt
    obtain ⟨m, hme⟩ : ∃ m, (marksF hs)[k] = m := ⟨_, rfl⟩
    have MW := hid (show (Lit.int .i64 m).wf = true from iwf (by have := mark_i64 PA.out HR.out _ (List.getElem_mem hml); rw [hme] at this; exact this))
    obtain ⟨ag, co, eq0, _, _, hop⟩ := slice_open (ints_rep OM.out (mark_i64 PA.out HR.out))
    obtain ⟨g, o, ea, hgA, hel⟩ := hop (Nat.lt_of_le_of_lt (Nat.zero_le _) hml)
    injection eq0 with e1 e2 e3
    subst ea
    subst e1
    have m0 := int_cells hel hml
    rw [hme] at m0
    have hgw := hgA.2
    have KEEP := hid (fun (y : World) (u : Upd (fun _ => False) wr y) => (show y.cell? ⟨g, o + k, none⟩ = some (.int .i64 m) from cell_kept m0 (u.block g hgw id)))
    clear hop hel hgA e2 e3 hme
    go_upto_region 7 with (fail)
    refine wp_region_g (fun w' => w'.cell? ⟨g, o + k, none⟩ = some (.int .i64 m)) 26 (by kernel_rfl) ?_
    obtain ⟨wd, hwd⟩ : ∃ wd, wr.drew = wd := ⟨_, rfl⟩
    have ud : Upd (fun _ => False) wr wd := by rw [← hwd]; exact (Upd.refl _ _).drew
    have hS := KEEP.out wd ud
    have UD := hid ud
    replace HA := hid (HA.out.keep ud); replace HB := hid (HB.out.keep ud)
    rw [hwd]
    clear hwd ud m0
    refine g_take0 (i := 0) rfl (by kernel_rfl) (by kernel_rfl) (by kernel_rfl) (by decide) (fun _ _ _ h => h) (yields_move (by kernel_rfl) _ rfl rfl) (fun _ => hS) ?_
    (try simp only [List.getElem_toArray, List.getElem_cons_zero, List.getElem_cons_succ])
    (try go_frame)
    refine g_take0 (i := 1) rfl (by kernel_rfl) (by kernel_rfl) (by kernel_rfl) (by decide) (fun _ _ _ h => h) (yields_move (by kernel_rfl) _ rfl rfl) (fun _ => hS) ?_
    (try simp only [List.getElem_toArray, List.getElem_cons_zero, List.getElem_cons_succ])
    (try go_frame)
    refine g_take0 (i := 2) rfl (by kernel_rfl) (by kernel_rfl) (by kernel_rfl) (by decide) (fun _ _ _ h => h) (yields_move (by kernel_rfl) _ rfl rfl) (fun _ => hS) ?_
    (try simp only [List.getElem_toArray, List.getElem_cons_zero, List.getElem_cons_succ])
    (try go_frame)
    refine g_take0 (i := 3) rfl (by kernel_rfl) (by kernel_rfl) (by kernel_rfl) (by decide) (fun _ _ _ h => h) (yields_index (by kernel_rfl) _ _ _ rfl rfl rfl (fun w _ => ints_index hlt hm1 hm2 w)) (fun _ => hS) ?_
    (try simp only [List.getElem_toArray, List.getElem_cons_zero, List.getElem_cons_succ])
    (try go_frame)
    refine g_takeP [26, 13, 12, 5] (i := 4) rfl (by kernel_rfl) (by kernel_rfl) (by kernel_rfl) (by kernel_rfl) (fun _ _ _ h => h) (yields_load (by kernel_rfl) _ _ rfl rfl (fun w hw => intl_load hw)) hS ?_
    (try simp only [List.getElem_toArray, List.getElem_cons_zero, List.getElem_cons_succ])
    (try go_frame)
    refine g_take0 (i := 6) rfl (by kernel_rfl) (by kernel_rfl) (by kernel_rfl) (by decide) (fun _ _ _ h => h) (yields_move (by kernel_rfl) _ rfl rfl) (fun _ => hS) ?_
    (try simp only [List.getElem_toArray, List.getElem_cons_zero, List.getElem_cons_succ])
    (try go_frame)
    refine g_take0 (i := 7) rfl (by kernel_rfl) (by kernel_rfl) (by kernel_rfl) (by decide) (fun _ _ _ h => h) (yields_move (by kernel_rfl) _ rfl rfl) (fun _ => hS) ?_
    (try simp only [List.getElem_toArray, List.getElem_cons_zero, List.getElem_cons_succ])
    (try go_frame)
    refine g_take0 (i := 8) rfl (by kernel_rfl) (by kernel_rfl) (by kernel_rfl) (by decide) (fun _ _ _ h => h) (yields_move (by kernel_rfl) _ rfl rfl) (fun _ => hS) ?_
    (try simp only [List.getElem_toArray, List.getElem_cons_zero, List.getElem_cons_succ])
    (try go_frame)
    refine g_take0 (i := 9) rfl (by kernel_rfl) (by kernel_rfl) (by kernel_rfl) (by decide) (fun _ _ _ h => h) (yields_index (by kernel_rfl) _ _ _ rfl rfl rfl (fun w _ => ints_index hlt hm1 hm2 w)) (fun _ => hS) ?_
    (try simp only [List.getElem_toArray, List.getElem_cons_zero, List.getElem_cons_succ])
    (try go_frame)
    refine g_takeP [26, 13, 12, 11] (i := 10) rfl (by kernel_rfl) (by kernel_rfl) (by kernel_rfl) (by kernel_rfl) (fun _ _ _ h => h) (yields_load (by kernel_rfl) _ _ rfl rfl (fun w hw => intl_load hw)) hS ?_
    (try simp only [List.getElem_toArray, List.getElem_cons_zero, List.getElem_cons_succ])
    (try go_frame)
    refine g_op (i := 5) (by kernel_rfl) rfl ?_
    go_wp2_with fail
    refine (hlevel_any HA.out m MW.out).mono ?_
    rintro en yy ⟨rfl, rfl⟩
    go_wp2_with fail
    first | (with_reducible refine And.intro (fun _ => hS) ?_) | (with_reducible refine And.intro (by first | assumption | (intro _; assumption)) ?_) | skip
    (try simp only [List.getElem_toArray, List.getElem_cons_zero, List.getElem_cons_succ])
    (try go_frame)
    refine g_op (i := 11) (by kernel_rfl) rfl ?_
    go_wp2_with fail
    refine (hlevel_any HB.out m MW.out).mono ?_
    rintro en yy ⟨rfl, rfl⟩
    rw [← EV.out m]
    go_wp2_with fail
    first | (with_reducible refine And.intro (fun _ => hS) ?_) | (with_reducible refine And.intro (by first | assumption | (intro _; assumption)) ?_) | skip
    (try simp only [List.getElem_toArray, List.getElem_cons_zero, List.getElem_cons_succ])
    (try go_frame)
    refine g_op (i := 12) (by kernel_rfl) rfl ?_
    go_wp2_with fail
    first | (with_reducible refine And.intro (fun _ => hS) ?_) | (with_reducible refine And.intro (by first | assumption | (intro _; assumption)) ?_) | skip
    (try simp only [List.getElem_toArray, List.getElem_cons_zero, List.getElem_cons_succ])
    (try go_frame)
    refine g_op (i := 13) (by kernel_rfl) rfl ?_
    go_wp2_with fail
    first | (with_reducible refine And.intro (fun _ => hS) ?_) | (with_reducible refine And.intro (by first | assumption | (intro _; assumption)) ?_) | skip
    (try simp only [List.getElem_toArray, List.getElem_cons_zero, List.getElem_cons_succ])
    (try go_frame)
    refine g_take0 (i := 14) rfl (by kernel_rfl) (by kernel_rfl) (by kernel_rfl) (by decide) (fun _ _ _ h => h) (yields_move (by kernel_rfl) _ rfl rfl) (fun _ => hS) ?_
    (try simp only [List.getElem_toArray, List.getElem_cons_zero, List.getElem_cons_succ])
    (try go_frame)
    refine g_take0 (i := 15) rfl (by kernel_rfl) (by kernel_rfl) (by kernel_rfl) (by decide) (fun _ _ _ h => h) (yields_move (by kernel_rfl) _ rfl rfl) (fun _ => hS) ?_
    (try simp only [List.getElem_toArray, List.getElem_cons_zero, List.getElem_cons_succ])
    (try go_frame)
    refine g_take0 (i := 16) rfl (by kernel_rfl) (by kernel_rfl) (by kernel_rfl) (by decide) (fun _ _ _ h => h) (yields_move (by kernel_rfl) _ rfl rfl) (fun _ => hS) ?_
    (try simp only [List.getElem_toArray, List.getElem_cons_zero, List.getElem_cons_succ])
    (try go_frame)
    refine g_take0 (i := 17) rfl (by kernel_rfl) (by kernel_rfl) (by kernel_rfl) (by decide) (fun _ _ _ h => h) (yields_index (by kernel_rfl) _ _ _ rfl rfl rfl (fun w _ => ints_index hlt hm1 hm2 w)) (fun _ => hS) ?_
    (try simp only [List.getElem_toArray, List.getElem_cons_zero, List.getElem_cons_succ])
    (try go_frame)
    refine g_takeP [26, 19] (i := 18) rfl (by kernel_rfl) (by kernel_rfl) (by kernel_rfl) (by kernel_rfl) (fun _ _ _ h => h) (yields_load (by kernel_rfl) _ _ rfl rfl (fun w hw => intl_load hw)) hS ?_
    (try simp only [List.getElem_toArray, List.getElem_cons_zero, List.getElem_cons_succ])
    (try go_frame)
    refine g_take0 (i := 20) rfl (by kernel_rfl) (by kernel_rfl) (by kernel_rfl) (by decide) (fun _ _ _ h => h) (yields_move (by kernel_rfl) _ rfl rfl) (fun _ => hS) ?_
    (try simp only [List.getElem_toArray, List.getElem_cons_zero, List.getElem_cons_succ])
    (try go_frame)
    refine g_take0 (i := 21) rfl (by kernel_rfl) (by kernel_rfl) (by kernel_rfl) (by decide) (fun _ _ _ h => h) (yields_move (by kernel_rfl) _ rfl rfl) (fun _ => hS) ?_
    (try simp only [List.getElem_toArray, List.getElem_cons_zero, List.getElem_cons_succ])
    (try go_frame)
    refine g_take0 (i := 22) rfl (by kernel_rfl) (by kernel_rfl) (by kernel_rfl) (by decide) (fun _ _ _ h => h) (yields_move (by kernel_rfl) _ rfl rfl) (fun _ => hS) ?_
    (try simp only [List.getElem_toArray, List.getElem_cons_zero, List.getElem_cons_succ])
    (try go_frame)
    refine g_take0 (i := 23) rfl (by kernel_rfl) (by kernel_rfl) (by kernel_rfl) (by decide) (fun _ _ _ h => h) (yields_index (by kernel_rfl) _ _ _ rfl rfl rfl (fun w _ => ints_index hlt hm1 hm2 w)) (fun _ => hS) ?_
    (try simp only [List.getElem_toArray, List.getElem_cons_zero, List.getElem_cons_succ])
    (try go_frame)
    refine g_takeP [26, 25] (i := 24) rfl (by kernel_rfl) (by kernel_rfl) (by kernel_rfl) (by kernel_rfl) (fun _ _ _ h => h) (yields_load (by kernel_rfl) _ _ rfl rfl (fun w hw => intl_load hw)) hS ?_
    (try simp only [List.getElem_toArray, List.getElem_cons_zero, List.getElem_cons_succ])
    (try go_frame)
    refine g_want (i := 19) (by kernel_rfl) rfl (by kernel_rfl) ?_
    go_wp2_with fail
    refine (hpast_any HA.out m MW.out).mono ?_
    rintro en y1 ⟨v1, rfl, ow, u⟩
    have Q1 := hid ow
    have UE := hid (UD.out.trans u)
    have V1 := hid u
    clear UD
    have UD := UE
    clear UE
    have hS1 := KEEP.out y1 UD.out
    replace HA := hid (HA.out.keep u); replace HB := hid (HB.out.keep u)
    clear ow u
    go_wp2_with fail
    first | (with_reducible refine And.intro (fun _ => hS1) ?_) | (with_reducible refine And.intro (by first | assumption | (intro _; assumption)) ?_) | skip
    (try simp only [List.getElem_toArray, List.getElem_cons_zero, List.getElem_cons_succ])
    (try go_frame)
    refine g_want (i := 25) (by kernel_rfl) rfl (by kernel_rfl) ?_
    go_wp2_with fail
    refine (hpast_any HB.out m MW.out).mono ?_
    rintro en y2 ⟨v2, rfl, ow, u⟩
    have Q2 := hid ow
    have UE := hid (UD.out.trans u)
    have V2 := hid u
    clear UD
    have UD := UE
    clear UE
    have hS2 := KEEP.out y2 UD.out
    replace HA := hid (HA.out.keep u); replace HB := hid (HB.out.keep u)
    clear ow u
    go_wp2_with fail
    first | (with_reducible refine And.intro (fun _ => hS2) ?_) | (with_reducible refine And.intro (by first | assumption | (intro _; assumption)) ?_) | skip
    (try simp only [List.getElem_toArray, List.getElem_cons_zero, List.getElem_cons_succ])
    (try go_frame)
    refine g_want (i := 26) (by kernel_rfl) rfl (by kernel_rfl) ?_
    go_wp2_with fail
    refine (ints8_any _ _ (pastF hs m) (pastF h2 m) _ _ _ (ints_rep (ownsRow_upd Q1.out V2.out fun _ _ => id) (past_i64 PA.out HR.out m)) (ints_rep Q2.out (past_i64 PB.out HR.out m)) (fun _ q => q.2) (fun _ q => q.2)).mono ?_
    rintro en y3 ⟨rfl, u⟩
    rw [decide_eq_true (EP.out m)]
    have UE := hid (UD.out.trans u)
    replace HA := hid (HA.out.keep u); replace HB := hid (HB.out.keep u)
    clear u UD
    go_wp2_with fail
    first | (with_reducible refine And.intro (fun h => absurd h (by simp)) ?_) | skip
    (try simp only [List.getElem_toArray, List.getElem_cons_zero, List.getElem_cons_succ])
    (try go_frame)
    refine g_op (i := 27) (by kernel_rfl) rfl ?_
    go_wp2_with fail
    first | (with_reducible refine And.intro (fun h => absurd h (by simp)) ?_) | skip
    (try simp only [List.getElem_toArray, List.getElem_cons_zero, List.getElem_cons_succ])
    (try go_frame)
    refine g_op (i := 28) (by kernel_rfl) rfl ?_
    go_wp2_with fail
    first | (with_reducible refine And.intro (fun h => absurd h (by simp)) ?_) | skip
    (try simp only [List.getElem_toArray, List.getElem_cons_zero, List.getElem_cons_succ])
    (try go_frame)
    refine g_done (by kernel_rfl) ?_
    go_wp2_with fail
    go_roundg (hs.length - (k + 1))
    case measure => have := HG.out; omega
    case rel => exact ⟨k + 1, by omega, rfl, by go_num, ownsRow_upd OM.out UE.out fun _ _ => id, HA.out, HB.out, UC.out.trans UE.out⟩
end Go.Proofs.YtalhmpggpjbeaaaGreatDoor
