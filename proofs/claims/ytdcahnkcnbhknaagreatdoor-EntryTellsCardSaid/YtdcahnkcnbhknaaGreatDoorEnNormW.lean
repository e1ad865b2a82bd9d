/- Walks: Norm, the loop. -/
import Derived.Test.YtdcahnkcnbhknaaGreatDoorEnNorm
import Derived.Test.YtdcahnkcnbhknaaGreatDoorEnSrt
namespace Go.Proofs.YtdcahnkcnbhknaaGreatDoor
open Go.RowKit Go.Deep

/-- Where the spans in their order lie when the loop begins. -/
def RowIn (w : World) (v : Value) (r : List Sp) : Prop := ∃ a c, v = .slice a r.length c ∧ (0 < r.length → ∃ g rest, a = some ⟨g, 0, none⟩ ∧ SpBlk w g r rest)
set_option maxRecDepth 100000 in
set_option maxHeartbeats 16000000 in
theorem norm_any (A : Nat → Prop) (v : Value) (l : List Sp) (w : World) (hl : kSps.rep A w [v] l) (hlen : l.length ≤ 100000) :
    Calls Tryz.prog 29 #[v] w (SpsPost (normF l) w) := by
  obtain ⟨a, c, rfl, _, _, _⟩ := slice_open hl
  have HL := hid hl
  clear hl
  go_enter Tryz.func29, Tryz.ntmps29
  go_wp2_with fail
  refine (clone_any A a c l w HL.out (by omega)).mono ?_
  rintro e w1 ⟨v1, rfl, hown, u⟩
  have U := hid u
  clear u
  -- the right spans, by their first coins
  rcases own_blk hown with ⟨rfl, h0⟩ | ⟨g, cap, rest, rfl, hbg, hc1, hc2, hrl, hb⟩
  · have H0 := hid h0
    clear hown h0
    go_wp2_with fail
    refine (del_none _ _ _ _).mono ?_
    rintro e w2 ⟨rfl, rfl⟩
    go_wp2_with fail
    refine (sort_none _ _ _ _).mono ?_
    rintro e w3 ⟨rfl, rfl⟩
    go_wp2_with fail
    go_loopg [4, 6, 7, 15] 0 (fun gg s4 _ _ s15 wr => s4 = .slice none 0 0 ∧ s15 = .int .i64 0 ∧ w1 = wr)
    case atStart => exact ⟨rfl, rfl, rfl⟩
    case round =>
      obtain ⟨rfl, rfl, rfl⟩ := hrel
      go_wp2_with fail
      go_ret
      rw [H0.out, norm_same Nrm.nil]
      exact ⟨.slice none 0 0, rfl, World.ownsRow_nil _ _ _ _, U.out⟩
  · have HB := hid hb
    have hgw1 := hb.lt
    unfold maxLen at hc2
    clear hown hb
    go_wp2_with fail
    refine (del_any g cap l rest w1 HB.out (by omega) hc1 hc2).mono ?_
    rintro e w2 ⟨rfl, ⟨rest2, hr2, hb2⟩, u2⟩
    have hgw2 := hb2.lt
    have HB2 := hid hb2
    have U2 := hid (U.out.comp u2 fun i hi e => by omega)
    have hokl : (okL l).length ≤ l.length := List.length_filter_le _ _
    clear hb2 u2 hr2
    go_wp2_with fail
    refine (sort_any g cap (okL l) rest2 w2 HB2.out (fun s hs => by unfold okL at hs; exact of_decide_eq_true (List.mem_filter.1 hs).2) (by omega)).mono ?_
    rintro e w3 ⟨rfl, ⟨r, hp, hs, hb3⟩, u3⟩
    have hgw3 := hb3.lt
    have HM := hid (norm_of hp hs)
    have hrl : (okL l).length = r.length := hp.length_eq.symm
    have HB3 := hid hb3
    have hw3 : w.heap.size ≤ w3.heap.size := Nat.le_trans U2.out.size u3.size
    have U3 := hid (U2.out.comp u3 fun i hi e => by omega)
    have hrlen : r.length ≤ 100000 := by omega
    rw [hrl]
    clear hb3 u3 hp hs hrl
    go_wp2_with fail
    go_loopg [4, 6, 7, 15] r.length (fun gg s4 _ _ s15 wr => ∃ (k : Nat) (O : List Sp), k ≤ r.length ∧ gg = r.length - k ∧ s15 = .int .i64 k ∧ wr.ownsRow w3.heap.size 39 3 s4 O.length (flatS O) ∧ O.length ≤ k ∧ mergeTo O (r.drop k) = mergeTo [] r ∧ Upd (fun _ => False) w3 wr)
    case atStart => exact ⟨0, [], Nat.zero_le _, rfl, rfl, World.ownsRow_nil _ _ _ _, Nat.le_refl _, rfl, Upd.refl _ _⟩
    case round =>
      obtain ⟨k, O, hk, hg, rfl, hown, hO, hmt, u⟩ := hrel
      have HG := hid hg; have OWN := hid hown; have MT := hid hmt; have UU := hid u
      clear hg hmt u
      by_cases hlt : k < r.length
      case neg =>
        obtain rfl : k = r.length := by omega
        clear hown
        go_wp2_with fail
        go_ret
        have hO2 : O = normF l := by have := MT.out; rw [List.drop_length] at this; rw [← HM.out, ← this]; rfl
        subst hO2
        exact ⟨u4, rfl, ⟨OWN.out.1, by
          rcases OWN.out.2 with h | ⟨g, cap, cur, h1, h2, h3⟩
          · exact .inl h
          · exact .inr ⟨g, cap, cur, h1, by omega, h3⟩⟩, U3.out.trans UU.out⟩
      -- a round
      have hlti : (k : Int) < r.length := by omega
      have hk1 : (k : Int) + 1 ≤ 100001 := by omega
      obtain ⟨m0, m1, m2⟩ := HB3.out.cell hlt
      have m0 := cell_kept m0 (UU.out.block g hgw3 id)
      have m1 := cell_kept m1 (UU.out.block g hgw3 id)
      have m2 := cell_kept m2 (UU.out.block g hgw3 id)
      obtain ⟨x, hx⟩ : ∃ x, r[k] = x := ⟨_, rfl⟩
      rw [hx] at m0 m1 m2
      have MT2 := hid (show mergeTo O (x :: r.drop (k + 1)) = mergeTo [] r by rw [← MT.out, ← hx, ← List.drop_eq_getElem_cons hlt])
      clear hx
      obtain ⟨W1, hW1⟩ : ∃ W1, W1 = wr.alloc (.cells #[.int .i64 x.mark, .int .i64 x.fr, .int .i64 x.to] 39 (0, 0)) := ⟨_, rfl⟩
      have hb1 : W1.heap[wr.heap.size]? = some (.cells #[.int .i64 x.mark, .int .i64 x.fr, .int .i64 x.to] 39 (0, 0)) := by rw [hW1]; exact heap_alloc_new
      have u1 : Upd (fun _ => False) wr W1 := by rw [hW1]; exact (Upd.refl _ _).alloc _
      have c0 : W1.cell? ⟨wr.heap.size, 0, none⟩ = some (.int .i64 x.mark) := by rw [cell_of_block hb1]; rfl
      have c1 : W1.cell? ⟨wr.heap.size, 1, none⟩ = some (.int .i64 x.fr) := by rw [cell_of_block hb1]; rfl
      have c2 : W1.cell? ⟨wr.heap.size, 2, none⟩ = some (.int .i64 x.to) := by rw [cell_of_block hb1]; rfl
      have HW1 := hid hW1; have U0 := hid u1
      have hgwr : g < wr.heap.size := Nat.lt_of_lt_of_le hgw3 UU.out.size
      clear hW1 hb1 u1 MT
      obtain ⟨n, hn⟩ : ∃ n, O.length = n := ⟨_, rfl⟩
      have HN := hid hn
      have hnk : n ≤ k := by omega
      rcases Nat.eq_zero_or_pos n with hn0 | hnp
      · obtain ⟨a4, c4, rfl⟩ : ∃ a4 c4, u4 = .slice a4 0 c4 := by
          rcases ownsRow_fits hown with ⟨h, _⟩ | ⟨b', c', h, _⟩
          · exact ⟨_, _, h⟩
          · rw [hn, hn0] at h; exact ⟨_, _, h⟩
        have HO0 := hid (List.length_eq_zero_iff.1 (hn.trans hn0))
        subst hn0
        clear hown hn
        go_wp2_with fail
        rw [← HW1.out]
        have ec0 := fun p : UW W1 => p.cell c0
        have ec1 := fun p : UW W1 => p.cell c1
        have ec2 := fun p : UW W1 => p.cell c2
        refine region_upd (by kernel_rfl) (by kernel_rfl) ?_
        repeat (go_big_quiet_step (fail))
        refine wpQuiet_nil ?_
        intro w4 hw1
        obtain ⟨pw, hpw⟩ := hw1
        have uq : Upd (fun _ => False) W1 w4 := by rw [hpw]; exact pw.u
        have U4 := hid uq
        clear hpw pw ec0 ec1 ec2
        have b0 : w4.cell? ⟨wr.heap.size, 0, none⟩ = _ := UW.cell c0 ⟨w4, uq⟩
        have b1 : w4.cell? ⟨wr.heap.size, 1, none⟩ = _ := UW.cell c1 ⟨w4, uq⟩
        have b2 : w4.cell? ⟨wr.heap.size, 2, none⟩ = _ := UW.cell c2 ⟨w4, uq⟩
        have own3 := OWN.out
        rw [HN.out] at own3
        have own4 := (ownsRow_upd own3 U0.out fun _ _ => id)
        have own5 := ownsRow_upd own4 uq fun _ _ => id
        obtain ⟨v', w5, r5, o5, u5, n5⟩ := append_one elemSp own5 #[.int .i64 x.mark, .int .i64 x.fr, .int .i64 x.to] rfl (by simp [Value.oneCell']) (by unfold maxLen; omega) (by omega) (Nat.le_trans (Nat.le_trans UU.out.size U0.out.size) uq.size) 23 (0, 0)
        have hlt5 := own5.lt
        have U5 := hid (((UU.out.trans U0.out).trans uq).comp u5 fun i hi e => by have := (hlt5 i e).1; omega)
        have O5 := hid o5
        clear own3 own4 own5 o5 u5 n5 hlt5 uq
        go_wp2_with (at_builtin; refine wpList_append_run rfl _ _ _ _ rfl rfl rfl r5 ?_)
        go_roundg (r.length - (k + 1))
        case measure => have := HG.out; omega
        case rel =>
          refine ⟨k + 1, O ++ [x], by omega, rfl, by go_num, ?_, by rw [List.length_append, List.length_singleton]; omega, ?_, U5.out⟩
          · rw [List.length_append, List.length_singleton, flatS_append, HN.out]; exact O5.out
          · rw [← MT2.out]; exact (show mergeTo O (x :: r.drop (k + 1)) = mergeTo (O ++ [x]) (r.drop (k + 1)) by rw [HO0.out]; exact merge_first _ _).symm
      · obtain ⟨m, hm⟩ : ∃ m, n = m + 1 := ⟨n - 1, by omega⟩
        have hmO : m < O.length := by omega
        rcases own_blk hown with ⟨_, h0⟩ | ⟨q, cp, ro, rfl, hbq, hcp, hcm, hrq, hbo⟩
        · rw [h0] at hmO; exact absurd hmO (Nat.not_lt_zero _)
        obtain ⟨d0, d1, d2⟩ := hbo.cell hmO
        have hqw := hbo.lt
        obtain ⟨y, hy⟩ : ∃ y, O[m] = y := ⟨_, rfl⟩
        rw [hy] at d0 d1 d2
        have d0 := cell_kept d0 (U0.out.block q hqw id)
        have d1 := cell_kept d1 (U0.out.block q hqw id)
        have d2 := cell_kept d2 (U0.out.block q hqw id)
        have hO1 : O.length = m + 1 := by omega
        have HIT := hid (fun h : y.mark = x.mark ∧ x.fr ≤ y.to => merge_hit (r := r.drop (k + 1)) hO1 hy h)
        have MISS := hid (fun h : ¬ (y.mark = x.mark ∧ x.fr ≤ y.to) => merge_miss (r := r.drop (k + 1)) hO1 hy h)
        have BO := hid hbo; have HY := hid hy; have HRQ := hid hrq; have HCM := hid hcm; have HMO := hid hmO
        have gs2 : (n : Int) - 1 = (m : Int) := by omega
        have gs : IntKind.i64.wrap ((n : Int) - 1) = (m : Int) := by rw [gs2]; exact IntWalk.i64_in _ (by omega)
        have hmn : (m : Int) < (n : Int) := by omega
        have hmn2 : m < n := by omega
        rw [hn] at hcp hO1 ⊢
        clear hown hbo hrq hcm hn hO1 hnp
        have HM1 := hid hm; clear hm
        by_cases h1 : y.mark = x.mark
        · have t1 : (y.mark == x.mark) = true := beq_iff_eq.2 h1
          by_cases h2 : x.fr ≤ y.to
          · have t2 : decide (x.fr ≤ y.to) = true := decide_eq_true h2
            have MT3 := hid (MT2.out.symm.trans (HIT.out ⟨h1, h2⟩))
            clear h1
            go_wp2_with fail
            rw [← HW1.out]
            have ec0 := fun p : UW W1 => p.cell c0
            have ec1 := fun p : UW W1 => p.cell c1
            have ec2 := fun p : UW W1 => p.cell c2
            have ed0 := fun p : UW W1 => p.cell d0
            have ed2 := fun p : UW W1 => p.cell d2
            refine region_upd (by kernel_rfl) (by kernel_rfl) ?_
            repeat (go_big_quiet_step (fail))
            refine wpQuiet_nil ?_
            intro w4 hw1
            obtain ⟨pw, hpw⟩ := hw1
            have uq : Upd (fun _ => False) W1 w4 := by rw [hpw]; exact pw.u
            have U4 := hid uq
            clear hpw pw ec0 ec1 ec2 ed0 ed2
            have b2 : w4.cell? ⟨wr.heap.size, 2, none⟩ = _ := UW.cell c2 ⟨w4, uq⟩
            have b5 : w4.cell? ⟨q, m * 3 + 2, none⟩ = _ := UW.cell d2 ⟨w4, uq⟩
            have hb4 := (BO.out.upd U0.out id).upd uq id
            have f5 := hb4.frozen (m * 3 + 2)
            have B4 := hid hb4
            clear hb4 uq gs2 gs h2
            go_wp2_with fail
            go_still_tail 12, (by kernel_rfl)
            change wpList _ _ _ _ _ w4.drew
            have b2 : w4.drew.cell? ⟨wr.heap.size, 2, none⟩ = _ := b2
            have b5 : w4.drew.cell? ⟨q, m * 3 + 2, none⟩ = _ := b5
            have f5 : w4.drew.frozen? ⟨q, m * 3 + 2, none⟩ = false := f5
            have U6 := hid (U4.out.drew)
            have B6 := hid (show SpBlk w4.drew q O ro from B4.out)
            generalize w4.drew = w6 at *
            go_wp2_with fail
            go_roundg (r.length - (k + 1))
            case measure => have := HG.out; omega
            case rel =>
              refine ⟨k + 1, O.set m ⟨y.mark, y.fr, max y.to x.to⟩, by omega, rfl, by go_num, ?_, by rw [List.length_set]; have := HN.out; omega, MT3.out.symm, ?_⟩
              · have hq := B6.out.setTo hmO (max y.to x.to)
                rw [hy] at hq
                rw [List.length_set, HN.out]
                have ho := blk_own (base := w3.heap.size) (cap := cp) hq hbq (by rw [List.length_set, HN.out]; exact hcp) HCM.out (by rw [List.length_set]; exact HRQ.out)
                rw [List.length_set, HN.out] at ho
                exact ho
              · exact (UU.out.trans (U0.out.trans U6.out)).setCell _ _ (.inr hbq)
          · have t2 : decide (x.fr ≤ y.to) = false := decide_eq_false h2
            have NH := hid (show ¬ (y.mark = x.mark ∧ x.fr ≤ y.to) from fun h => h2 h.2)
            clear h1 h2
            go_wp2_with fail
            rw [← HW1.out]
            have ec0 := fun p : UW W1 => p.cell c0
            have ec1 := fun p : UW W1 => p.cell c1
            have ec2 := fun p : UW W1 => p.cell c2
            have ed0 := fun p : UW W1 => p.cell d0
            have ed2 := fun p : UW W1 => p.cell d2
            refine region_upd (by kernel_rfl) (by kernel_rfl) ?_
            repeat (go_big_quiet_step (fail))
            refine wpQuiet_nil ?_
            intro w4 hw1
            obtain ⟨pw, hpw⟩ := hw1
            have uq : Upd (fun _ => False) W1 w4 := by rw [hpw]; exact pw.u
            have U4 := hid uq
            clear hpw pw ec0 ec1 ec2 ed0 ed2
            have b0 : w4.cell? ⟨wr.heap.size, 0, none⟩ = _ := UW.cell c0 ⟨w4, uq⟩
            have b1 : w4.cell? ⟨wr.heap.size, 1, none⟩ = _ := UW.cell c1 ⟨w4, uq⟩
            have b2 : w4.cell? ⟨wr.heap.size, 2, none⟩ = _ := UW.cell c2 ⟨w4, uq⟩
            have own3 := OWN.out
            rw [HN.out] at own3
            have own4 := (ownsRow_upd own3 U0.out fun _ _ => id)
            have own5 := ownsRow_upd own4 uq fun _ _ => id
            obtain ⟨v', w5, r5, o5, u5, n5⟩ := append_one elemSp own5 #[.int .i64 x.mark, .int .i64 x.fr, .int .i64 x.to] rfl (by simp [Value.oneCell']) (by unfold maxLen; omega) (by omega) (Nat.le_trans (Nat.le_trans UU.out.size U0.out.size) uq.size) 23 (0, 0)
            have hlt5 := own5.lt
            have U5 := hid (((UU.out.trans U0.out).trans uq).comp u5 fun i hi e => by have := (hlt5 i e).1; omega)
            have O5 := hid o5
            clear own3 own4 own5 o5 u5 n5 hlt5 uq
            go_wp2_with (at_builtin; refine wpList_append_run rfl _ _ _ _ rfl rfl rfl r5 ?_)
            go_roundg (r.length - (k + 1))
            case measure => have := HG.out; omega
            case rel =>
              refine ⟨k + 1, O ++ [x], by omega, rfl, by go_num, ?_, by rw [List.length_append, List.length_singleton]; omega, ?_, U5.out⟩
              · rw [List.length_append, List.length_singleton, flatS_append, HN.out]; exact O5.out
              · rw [← MT2.out]; exact (MISS.out NH.out).symm
        · have t1 : (y.mark == x.mark) = false := beq_eq_false_iff_ne.2 h1
          have NH := hid (show ¬ (y.mark = x.mark ∧ x.fr ≤ y.to) from fun h => h1 h.1)
          clear h1
          go_wp2_with fail
          rw [← HW1.out]
          have ec0 := fun p : UW W1 => p.cell c0
          have ec1 := fun p : UW W1 => p.cell c1
          have ec2 := fun p : UW W1 => p.cell c2
          have ed0 := fun p : UW W1 => p.cell d0
          have ed2 := fun p : UW W1 => p.cell d2
          refine region_upd (by kernel_rfl) (by kernel_rfl) ?_
          repeat (go_big_quiet_step (fail))
          refine wpQuiet_nil ?_
          intro w4 hw1
          obtain ⟨pw, hpw⟩ := hw1
          have uq : Upd (fun _ => False) W1 w4 := by rw [hpw]; exact pw.u
          have U4 := hid uq
          clear hpw pw ec0 ec1 ec2 ed0 ed2
          have b0 : w4.cell? ⟨wr.heap.size, 0, none⟩ = _ := UW.cell c0 ⟨w4, uq⟩
          have b1 : w4.cell? ⟨wr.heap.size, 1, none⟩ = _ := UW.cell c1 ⟨w4, uq⟩
          have b2 : w4.cell? ⟨wr.heap.size, 2, none⟩ = _ := UW.cell c2 ⟨w4, uq⟩
          have own3 := OWN.out
          rw [HN.out] at own3
          have own4 := (ownsRow_upd own3 U0.out fun _ _ => id)
          have own5 := ownsRow_upd own4 uq fun _ _ => id
          obtain ⟨v', w5, r5, o5, u5, n5⟩ := append_one elemSp own5 #[.int .i64 x.mark, .int .i64 x.fr, .int .i64 x.to] rfl (by simp [Value.oneCell']) (by unfold maxLen; omega) (by omega) (Nat.le_trans (Nat.le_trans UU.out.size U0.out.size) uq.size) 23 (0, 0)
          have hlt5 := own5.lt
          have U5 := hid (((UU.out.trans U0.out).trans uq).comp u5 fun i hi e => by have := (hlt5 i e).1; omega)
          have O5 := hid o5
          clear own3 own4 own5 o5 u5 n5 hlt5 uq
          go_wp2_with (at_builtin; refine wpList_append_run rfl _ _ _ _ rfl rfl rfl r5 ?_)
          go_roundg (r.length - (k + 1))
          case measure => have := HG.out; omega
          case rel =>
            refine ⟨k + 1, O ++ [x], by omega, rfl, by go_num, ?_, by rw [List.length_append, List.length_singleton]; omega, ?_, U5.out⟩
            · rw [List.length_append, List.length_singleton, flatS_append, HN.out]; exact O5.out
            · rw [← MT2.out]; exact (MISS.out NH.out).symm
end Go.Proofs.YtdcahnkcnbhknaaGreatDoor
