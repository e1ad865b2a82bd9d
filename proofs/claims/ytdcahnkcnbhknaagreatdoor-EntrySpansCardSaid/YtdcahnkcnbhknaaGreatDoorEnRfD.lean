/- Walks: the reference's Minus and Common. -/
import Derived.Test.YtdcahnkcnbhknaaGreatDoorEnRfC
import Derived.Test.YtdcahnkcnbhknaaGreatDoorEnTakeW
namespace Go.Proofs.YtdcahnkcnbhknaaGreatDoor
open Go.RowKit Go.Deep

theorem cutR_len : ∀ (ys : List Sp) (s : Sp), (cutR s ys).length ≤ ys.length + 1
  | [], s => by unfold cutR; split <;> simp
  | y :: r, s => by
    unfold cutR
    split
    · have := cutR_len r s; simp only [List.length_cons]; omega
    · have := cutR_len r ⟨s.mark, y.to, s.to⟩
      rw [List.length_append]
      split <;> simp only [List.length_cons, List.length_nil] <;> omega
theorem cutR_skip {y s : Sp} {r : List Sp} (h : y.mark ≠ s.mark ∨ y.to ≤ s.fr ∨ s.to ≤ y.fr) : cutR s (y :: r) = cutR s r := by
  conv => lhs; unfold cutR
  rw [if_pos h]
theorem cutR_cut {y s : Sp} {r : List Sp} (h : ¬ (y.mark ≠ s.mark ∨ y.to ≤ s.fr ∨ s.to ≤ y.fr)) (hf : s.fr < y.fr) : cutR s (y :: r) = ⟨s.mark, s.fr, y.fr⟩ :: cutR ⟨s.mark, y.to, s.to⟩ r := by
  conv => lhs; unfold cutR
  rw [if_neg h, if_pos hf]; rfl
theorem cutR_beg {y s : Sp} {r : List Sp} (h : ¬ (y.mark ≠ s.mark ∨ y.to ≤ s.fr ∨ s.to ≤ y.fr)) (hf : ¬ s.fr < y.fr) : cutR s (y :: r) = cutR ⟨s.mark, y.to, s.to⟩ r := by
  conv => lhs; unfold cutR
  rw [if_neg h, if_neg hf]; rfl
theorem cutsR_snoc (ys l : List Sp) (k : Nat) (hk : k < l.length) : ((l.take (k + 1)).map fun x => cutR x ys).flatten = ((l.take k).map fun x => cutR x ys).flatten ++ cutR l[k] ys := by
  rw [List.take_succ_eq_append_getElem hk, List.map_append, List.flatten_append]
  simp
theorem cutsR_len (ys l : List Sp) (h : ys.length ≤ 300) (hl : l.length ≤ 300) : (((l.map fun x => cutR x ys).flatten).length) ≤ 90300 := by
  have := flat_le (fun x => cutR x ys) 301 l fun x _ => Nat.le_trans (cutR_len ys x) (by omega)
  omega
set_option maxRecDepth 100000 in
set_option maxHeartbeats 16000000 in
theorem rminus_any (A : Nat → Prop) (va vb : Value) (l1 l2 : List Sp) (w : World) (h1 : kSps.rep A w [va] l1) (h2 : kSps.rep A w [vb] l2) (hl1 : l1.length ≤ 300) (hl2 : l2.length ≤ 300) :
    Calls Tryz.prog 40 #[va, vb] w (SpsPost (minusF l1 l2) w) := by
  have H1 := hid h1; have H2 := hid h2
  clear h1 h2
  go_enter Tryz.func40, Tryz.ntmps40
  go_wp2_with fail
  refine (rnorm_any A va l1 w H1.out (by omega)).mono ?_
  rintro e w1 ⟨v1, rfl, hown, u⟩
  have U1 := hid u; have OX := hid hown
  clear hown u
  go_wp2_with fail
  refine (rnorm_any A vb l2 w1 (kSps.keep H2.out (Same.of_upd U1.out fun _ _ => id)) (by omega)).mono ?_
  rintro e w2 ⟨v2, rfl, hown, u⟩
  obtain ⟨xs, hxs⟩ : ∃ xs, normF l1 = xs := ⟨_, rfl⟩
  obtain ⟨ys, hys⟩ : ∃ ys, normF l2 = ys := ⟨_, rfl⟩
  have okx : ∀ s ∈ xs, s.Ok := by rw [← hxs]; exact norm_ok l1
  have oky : ∀ s ∈ ys, s.Ok := by rw [← hys]; exact norm_ok l2
  have hxl : xs.length ≤ 300 := by rw [← hxs]; exact Nat.le_trans (norm_len l1) hl1
  have hyl : ys.length ≤ 300 := by rw [← hys]; exact Nat.le_trans (norm_len l2) hl2
  have MR := hid (show (xs.map fun x => cutR x ys).flatten = minusF l1 l2 by rw [← minusR_eq]; unfold minusR; rw [normR_eq, normR_eq, hxs, hys])
  have ownx := ownsRow_upd OX.out u fun _ _ => id
  rw [hxs] at ownx; rw [hys] at hown
  obtain ⟨ax, cx, rfl, _, _, hcx⟩ := own_cells ownx
  obtain ⟨ay, cy, rfl, _, _, hcy⟩ := own_cells hown
  have HCX := hid hcx; have HCY := hid hcy; have U2 := hid (U1.out.trans u); have OKX := hid okx; have OKY := hid oky
  clear hxs hys ownx hown u hcx hcy okx oky OX U1 H1 H2
  go_wp2_with fail
  go_loopg [5, 8, 9, 10] xs.length (fun gg s5 s8 _ _ wr => ∃ k : Nat, k ≤ xs.length ∧ gg = xs.length - k ∧ s8 = .int .i64 k ∧ wr.ownsRow w2.heap.size 39 3 s5 (((xs.take k).map fun x => cutR x ys).flatten).length (flatS ((xs.take k).map fun x => cutR x ys).flatten) ∧ Upd (fun _ => False) w2 wr)
  case atStart => exact ⟨0, Nat.zero_le _, rfl, rfl, World.ownsRow_nil _ _ _ _, Upd.refl _ _⟩
  case round =>
    obtain ⟨k, hk, hg, rfl, hown, u⟩ := hrel
    have HG := hid hg; have OWN := hid hown; have UU := hid u
    clear hg hown u
    by_cases hlt : k < xs.length
    case neg =>
      obtain rfl : k = xs.length := by omega
      go_wp2_with fail
      go_ret
      have := own_base OWN.out U2.out.size
      rw [List.take_length, MR.out] at this
      exact ⟨_, rfl, this, U2.out.trans UU.out⟩
    have hlti : (k : Int) < xs.length := by omega
    have hk1 : (k : Int) + 1 ≤ 301 := by omega
    obtain ⟨g, rfl, hbg, hgw, m0, m1, m2⟩ := HCX.out k hlt
    have m0 := cell_kept m0 (UU.out.block g hgw id)
    have m1 := cell_kept m1 (UU.out.block g hgw id)
    have m2 := cell_kept m2 (UU.out.block g hgw id)
    have hgwr := Nat.lt_of_lt_of_le hgw UU.out.size
    have hsn := cutsR_snoc ys xs k hlt
    have okx := OKX.out _ (List.getElem_mem hlt)
    have hrl := cutsR_len ys (xs.take k) hyl (Nat.le_trans (List.length_take_le _ _) (by omega))
    obtain ⟨x, hx⟩ : ∃ x, xs[k] = x := ⟨_, rfl⟩
    obtain ⟨R, hR⟩ : ∃ R, ((xs.take k).map fun x => cutR x ys).flatten = R := ⟨_, rfl⟩
    rw [hx] at m0 m1 m2 hsn okx
    have hown := OWN.out
    rw [hR] at hsn hrl hown
    have SN := hid hsn
    obtain ⟨W1, hW1⟩ : ∃ W1, W1 = wr.alloc (.cells #[.int .i64 x.mark, .int .i64 x.fr, .int .i64 x.to] 39 (0, 0)) := ⟨_, rfl⟩
    have hb1 : W1.heap[wr.heap.size]? = some (.cells #[.int .i64 x.mark, .int .i64 x.fr, .int .i64 x.to] 39 (0, 0)) := by rw [hW1]; exact heap_alloc_new
    have u1 : Upd (fun _ => False) wr W1 := by rw [hW1]; exact (Upd.refl _ _).alloc _
    have own1 := ownsRow_upd hown u1 fun _ _ => id
    have hlo := hown.lt
    have HW1 := hid hW1
    obtain ⟨p, hp⟩ : ∃ p, wr.heap.size = p := ⟨_, rfl⟩
    rw [hp] at hb1
    have HP := hid hp
    have NP := hid (show ∀ q, u5.ownBlock = some q → q ≠ p from fun q hq => by have := (hlo q hq).2; omega)
    have hpw2 : w2.heap.size ≤ p := by rw [← hp]; exact UU.out.size
    have B1 := hid hb1; have O1 := hid own1; have UWX := hid (UU.out.trans u1); have WFX := hid (ok_wf okx)
    clear hx hR hsn hown hW1 hb1 u1 own1 hlo hp okx OWN
    go_wp2_with fail
    rw [← HW1.out]
    try rw [HP.out]
    clear m0 m1 m2
    go_loopg [5, 10] ys.length (fun gg s5 s10 wr => ∃ (j : Nat) (t : Sp) (Q : List Sp), j ≤ ys.length ∧ gg = ys.length - j ∧ s10 = .int .i64 j ∧ wr.heap[p]? = some (.cells #[.int .i64 t.mark, .int .i64 t.fr, .int .i64 t.to] 39 (0, 0)) ∧ cutR x ys = Q ++ cutR t (ys.drop j) ∧ wr.ownsRow w2.heap.size 39 3 s5 (R ++ Q).length (flatS (R ++ Q)) ∧ Q.length ≤ j ∧ SpWf t ∧ (∀ q, s5.ownBlock = some q → q ≠ p) ∧ Upd (fun _ => False) w2 wr)
    case atStart => exact ⟨0, x, [], Nat.zero_le _, rfl, rfl, B1.out, rfl, by rw [List.append_nil]; exact O1.out, Nat.le_refl _, WFX.out, NP.out, UWX.out⟩
    case round =>
      obtain ⟨j, t, Q, hj, hg, rfl, hbt, hcu, hown, hql, hwt, hnp, u⟩ := hrel
      have HGI := hid hg; have CU := hid hcu; have UI := hid u; have BT := hid hbt; have WFT := hid hwt; have OI := hid hown; have NPI := hid hnp
      obtain ⟨c0, c1, c2⟩ := cellsS hbt
      have hpl := heap_lt hbt
      clear hg hcu u hbt hwt hown hnp
      by_cases hltj : j < ys.length
      case neg =>
        obtain rfl : j = ys.length := by omega
        by_cases hf : t.fr < t.to
        case pos =>
          have tf : decide (t.fr < t.to) = true := decide_eq_true hf
          have EQ := hid (show cutR x ys = Q ++ [t] by rw [CU.out, List.drop_length]; unfold cutR; rw [if_pos hf])
          obtain ⟨v', w5, r5, o5, u5q, n5⟩ := append_one elemSp OI.out #[.int .i64 t.mark, .int .i64 t.fr, .int .i64 t.to] rfl (by simp [Value.oneCell']) (by rw [List.length_append]; unfold maxLen; omega) (by rw [List.length_append]; omega) UI.out.size 23 (0, 0)
          have hlo := OI.out.lt
          have U5 := hid (UI.out.comp u5q fun i hi e => by have := (hlo i e).1; omega)
          have O5 := hid o5
          clear o5 u5q n5 hlo hf CU
          go_wp2_with (at_builtin; refine wpList_append_run rfl _ _ _ _ rfl rfl rfl r5 ?_)
          go_roundg (xs.length - (k + 1))
          case measure => have := HG.out; omega
          case rel => exact ⟨k + 1, by omega, rfl, by go_num, by rw [SN.out, EQ.out, ← List.append_assoc, List.length_append (bs := [_]), flatS_append (b := [_])]; exact O5.out, U5.out⟩
        have tf : decide (t.fr < t.to) = false := decide_eq_false hf
        have EQ := hid (show cutR x ys = Q by rw [CU.out, List.drop_length]; unfold cutR; rw [if_neg hf, List.append_nil])
        clear hf CU
        go_wp2_with fail
        go_roundg (xs.length - (k + 1))
        case measure => have := HG.out; omega
        case rel => exact ⟨k + 1, by omega, rfl, by go_num, by rw [SN.out, EQ.out]; exact OI.out, UI.out⟩
      have hltji : (j : Int) < ys.length := by omega
      have hj1 : (j : Int) + 1 ≤ 301 := by omega
      obtain ⟨gy, rfl, hby, hgy, m0, m1, m2⟩ := HCY.out j hltj
      have m0 := cell_kept m0 (UI.out.block gy hgy id)
      have m1 := cell_kept m1 (UI.out.block gy hgy id)
      have m2 := cell_kept m2 (UI.out.block gy hgy id)
      have hgyr := Nat.lt_of_lt_of_le hgy UI.out.size
      have hgyp : gy ≠ p := by omega
      have oky := OKY.out _ (List.getElem_mem hltj)
      have hdr : ys.drop j = ys[j] :: ys.drop (j + 1) := List.drop_eq_getElem_cons hltj
      obtain ⟨y, hy⟩ : ∃ y, ys[j] = y := ⟨_, rfl⟩
      rw [hy] at m0 m1 m2 oky hdr
      have DR := hid hdr; have WFY := hid (ok_wf oky)
      clear hy hdr oky
      by_cases h1 : y.mark = t.mark
      case neg =>
        have t1 : (y.mark != t.mark) = true := bne_iff_ne.2 h1
        have EQ := hid (show cutR x ys = Q ++ cutR t (ys.drop (j + 1)) by rw [CU.out, DR.out, cutR_skip (.inl h1)])
        clear h1 CU
        go_wp2_with fail
        have ec0 := fun p : UW wr => p.cell c0
        have ec1 := fun p : UW wr => p.cell c1
        have ec2 := fun p : UW wr => p.cell c2
        have em0 := fun p : UW wr => p.cell m0
        have em1 := fun p : UW wr => p.cell m1
        have em2 := fun p : UW wr => p.cell m2
        refine region_upd (by kernel_rfl) (by kernel_rfl) ?_
        repeat (go_big_quiet_step (fail))
        refine wpQuiet_nil ?_
        intro w4 hw1
        obtain ⟨pw, hpw⟩ := hw1
        have uq : Upd (fun _ => False) wr w4 := by rw [hpw]; exact pw.u
        clear hpw pw ec0 ec1 ec2 em0 em1 em2
        have U5 := hid (UI.out.trans uq); have B5 := hid ((uq.block p hpl id).trans BT.out); have O5 := hid (ownsRow_upd OI.out uq fun _ _ => id)
        clear uq c0 c1 c2 m0 m1 m2
        go_wp2_with fail
        go_roundg (ys.length - (j + 1))
        case measure => have := HGI.out; omega
        case rel => exact ⟨j + 1, t, Q, by omega, rfl, by go_num, B5.out, EQ.out, O5.out, by omega, WFT.out, NPI.out, U5.out⟩
      have t1 : (y.mark != t.mark) = false := by rw [h1]; simp
      by_cases h2 : y.to ≤ t.fr
      case pos =>
        have t2 : decide (y.to ≤ t.fr) = true := decide_eq_true h2
        have EQ := hid (show cutR x ys = Q ++ cutR t (ys.drop (j + 1)) by rw [CU.out, DR.out, cutR_skip (.inr (.inl h2))])
        clear h1 h2 CU
        go_wp2_with fail
        have ec0 := fun p : UW wr => p.cell c0
        have ec1 := fun p : UW wr => p.cell c1
        have ec2 := fun p : UW wr => p.cell c2
        have em0 := fun p : UW wr => p.cell m0
        have em1 := fun p : UW wr => p.cell m1
        have em2 := fun p : UW wr => p.cell m2
        refine region_upd (by kernel_rfl) (by kernel_rfl) ?_
        repeat (go_big_quiet_step (fail))
        refine wpQuiet_nil ?_
        intro w4 hw1
        obtain ⟨pw, hpw⟩ := hw1
        have uq : Upd (fun _ => False) wr w4 := by rw [hpw]; exact pw.u
        clear hpw pw ec0 ec1 ec2 em0 em1 em2
        have U5 := hid (UI.out.trans uq); have B5 := hid ((uq.block p hpl id).trans BT.out); have O5 := hid (ownsRow_upd OI.out uq fun _ _ => id)
        clear uq c0 c1 c2 m0 m1 m2
        go_wp2_with fail
        go_roundg (ys.length - (j + 1))
        case measure => have := HGI.out; omega
        case rel => exact ⟨j + 1, t, Q, by omega, rfl, by go_num, B5.out, EQ.out, O5.out, by omega, WFT.out, NPI.out, U5.out⟩
      have t2 : decide (y.to ≤ t.fr) = false := decide_eq_false h2
      by_cases h3 : t.to ≤ y.fr
      case pos =>
        have t3 : decide (t.to ≤ y.fr) = true := decide_eq_true h3
        have EQ := hid (show cutR x ys = Q ++ cutR t (ys.drop (j + 1)) by rw [CU.out, DR.out, cutR_skip (.inr (.inr h3))])
        clear h1 h2 h3 CU
        go_wp2_with fail
        have ec0 := fun p : UW wr => p.cell c0
        have ec1 := fun p : UW wr => p.cell c1
        have ec2 := fun p : UW wr => p.cell c2
        have em0 := fun p : UW wr => p.cell m0
        have em1 := fun p : UW wr => p.cell m1
        have em2 := fun p : UW wr => p.cell m2
        refine region_upd (by kernel_rfl) (by kernel_rfl) ?_
        repeat (go_big_quiet_step (fail))
        refine wpQuiet_nil ?_
        intro w4 hw1
        obtain ⟨pw, hpw⟩ := hw1
        have uq : Upd (fun _ => False) wr w4 := by rw [hpw]; exact pw.u
        clear hpw pw ec0 ec1 ec2 em0 em1 em2
        have U5 := hid (UI.out.trans uq); have B5 := hid ((uq.block p hpl id).trans BT.out); have O5 := hid (ownsRow_upd OI.out uq fun _ _ => id)
        clear uq c0 c1 c2 m0 m1 m2
        go_wp2_with fail
        go_roundg (ys.length - (j + 1))
        case measure => have := HGI.out; omega
        case rel => exact ⟨j + 1, t, Q, by omega, rfl, by go_num, B5.out, EQ.out, O5.out, by omega, WFT.out, NPI.out, U5.out⟩
      have t3 : decide (t.to ≤ y.fr) = false := decide_eq_false h3
      have hno : ¬ (y.mark ≠ t.mark ∨ y.to ≤ t.fr ∨ t.to ≤ y.fr) := fun h => h.elim (fun h => h h1) fun h => h.elim h2 h3
      have HNO := hid hno
      clear h1 h2 h3 hno
      by_cases h4 : t.fr < y.fr
      case neg =>
        have t4 : decide (t.fr < y.fr) = false := decide_eq_false h4
        have EQ := hid (show cutR x ys = Q ++ cutR ⟨t.mark, y.to, t.to⟩ (ys.drop (j + 1)) by rw [CU.out, DR.out, cutR_beg HNO.out h4])
        clear h4 CU
        go_wp2_with fail
        have ec0 := fun p : UW wr => p.cell c0
        have ec1 := fun p : UW wr => p.cell c1
        have ec2 := fun p : UW wr => p.cell c2
        have em0 := fun p : UW wr => p.cell m0
        have em1 := fun p : UW wr => p.cell m1
        have em2 := fun p : UW wr => p.cell m2
        refine region_upd (by kernel_rfl) (by kernel_rfl) ?_
        repeat (go_big_quiet_step (fail))
        refine wpQuiet_nil ?_
        intro w4 hw1
        obtain ⟨pw, hpw⟩ := hw1
        have uq : Upd (fun _ => False) wr w4 := by rw [hpw]; exact pw.u
        clear hpw pw ec0 ec1 ec2 em0 em1 em2
        have d0 : w4.cell? ⟨p, 0, none⟩ = _ := UW.cell c0 ⟨w4, uq⟩
        have d1 : w4.cell? ⟨p, 1, none⟩ = _ := UW.cell c1 ⟨w4, uq⟩
        have d2 : w4.cell? ⟨p, 2, none⟩ = _ := UW.cell c2 ⟨w4, uq⟩
        have n1 : w4.cell? ⟨gy, j * 3 + 1, none⟩ = _ := UW.cell m1 ⟨w4, uq⟩
        have n2 : w4.cell? ⟨gy, j * 3 + 2, none⟩ = _ := UW.cell m2 ⟨w4, uq⟩
        have hb5 := (uq.block p hpl id).trans BT.out
        have U5 := hid (UI.out.trans uq); have B5 := hid hb5; have O5 := hid (ownsRow_upd OI.out uq fun _ _ => id)
        clear uq c0 c1 c2 m0 m1 m2 hb5 UI OI BT
        obtain ⟨wi, hwi⟩ : ∃ z, z = w4 := ⟨_, rfl⟩
        subst hwi
        go_wp2_with fail
        have ed0 := fun p : UW wi => p.cell d0
        have ed1 := fun p : UW wi => p.cell d1
        have ed2 := fun p : UW wi => p.cell d2
        have en1 := fun p : UW wi => p.cell n1
        have en2 := fun p : UW wi => p.cell n2
        refine region_upd (by kernel_rfl) (by kernel_rfl) ?_
        repeat (go_big_quiet_step (fail))
        refine wpQuiet_nil ?_
        intro w4 hw1
        obtain ⟨pw, hpw⟩ := hw1
        have uq : Upd (fun _ => False) wi w4 := by rw [hpw]; exact pw.u
        clear hpw pw ed0 ed1 ed2 en1 en2
        have c0 : w4.cell? ⟨p, 0, none⟩ = _ := UW.cell d0 ⟨w4, uq⟩
        have c1 : w4.cell? ⟨p, 1, none⟩ = _ := UW.cell d1 ⟨w4, uq⟩
        have m1 : w4.cell? ⟨gy, j * 3 + 1, none⟩ = _ := UW.cell n1 ⟨w4, uq⟩
        have m2 : w4.cell? ⟨gy, j * 3 + 2, none⟩ = _ := UW.cell n2 ⟨w4, uq⟩
        have hb6 := (uq.block p (heap_lt B5.out) id).trans B5.out
        have hgw6 : gy < w4.heap.size := World.block_lt_of_cell? _ _ m1
        have U6 := hid (U5.out.trans uq); have B6 := hid hb6; have O6 := hid (ownsRow_upd O5.out uq fun _ _ => id)
        have f6 : w4.frozen? ⟨p, 1, none⟩ = false := frozen_of_block hb6
        clear uq d0 d1 d2 n1 n2 hb6 U5 B5 O5 c0 m1
        go_wp2_with fail
        have USET := hid (U6.out.comp ((Upd.refl (· = p) w4).at_ 1 (.int .i64 y.to)) fun i hi e => by omega)
        have OSET := hid (ownsRow_upd O6.out ((Upd.refl (· = p) w4).at_ 1 (.int .i64 y.to)) NPI.out)
        go_roundg (ys.length - (j + 1))
        case measure => have := HGI.out; omega
        case rel => exact ⟨j + 1, ⟨t.mark, y.to, t.to⟩, Q, by omega, rfl, by go_num, by rw [heap_setCell_same (p := ⟨p, 1, none⟩) rfl B6.out]; rfl, EQ.out, OSET.out, by omega, ⟨WFT.out.mark, WFY.out.upto, WFT.out.upto⟩, NPI.out, USET.out⟩
      have t4 : decide (t.fr < y.fr) = true := decide_eq_true h4
      have EQ := hid (show cutR x ys = (Q ++ [⟨t.mark, t.fr, y.fr⟩]) ++ cutR ⟨t.mark, y.to, t.to⟩ (ys.drop (j + 1)) by rw [CU.out, DR.out, cutR_cut HNO.out h4, List.append_assoc]; rfl)
      clear h4 CU
      go_wp2_with fail
      have ec0 := fun p : UW wr => p.cell c0
      have ec1 := fun p : UW wr => p.cell c1
      have ec2 := fun p : UW wr => p.cell c2
      have em0 := fun p : UW wr => p.cell m0
      have em1 := fun p : UW wr => p.cell m1
      have em2 := fun p : UW wr => p.cell m2
      refine region_upd (by kernel_rfl) (by kernel_rfl) ?_
      repeat (go_big_quiet_step (fail))
      refine wpQuiet_nil ?_
      intro w4 hw1
      obtain ⟨pw, hpw⟩ := hw1
      have uq : Upd (fun _ => False) wr w4 := by rw [hpw]; exact pw.u
      clear hpw pw ec0 ec1 ec2 em0 em1 em2
      have d0 : w4.cell? ⟨p, 0, none⟩ = _ := UW.cell c0 ⟨w4, uq⟩
      have d1 : w4.cell? ⟨p, 1, none⟩ = _ := UW.cell c1 ⟨w4, uq⟩
      have d2 : w4.cell? ⟨p, 2, none⟩ = _ := UW.cell c2 ⟨w4, uq⟩
      have n1 : w4.cell? ⟨gy, j * 3 + 1, none⟩ = _ := UW.cell m1 ⟨w4, uq⟩
      have n2 : w4.cell? ⟨gy, j * 3 + 2, none⟩ = _ := UW.cell m2 ⟨w4, uq⟩
      have hb5 := (uq.block p hpl id).trans BT.out
      have U5 := hid (UI.out.trans uq); have B5 := hid hb5; have O5 := hid (ownsRow_upd OI.out uq fun _ _ => id)
      clear uq c0 c1 c2 m0 m1 m2 hb5 UI OI BT
      obtain ⟨wi, hwi⟩ : ∃ z, z = w4 := ⟨_, rfl⟩
      subst hwi
      go_wp2_with fail
      have ed0 := fun p : UW wi => p.cell d0
      have ed1 := fun p : UW wi => p.cell d1
      have ed2 := fun p : UW wi => p.cell d2
      have en1 := fun p : UW wi => p.cell n1
      have en2 := fun p : UW wi => p.cell n2
      refine region_upd (by kernel_rfl) (by kernel_rfl) ?_
      repeat (go_big_quiet_step (fail))
      refine wpQuiet_nil ?_
      intro w4 hw1
      obtain ⟨pw, hpw⟩ := hw1
      have uq : Upd (fun _ => False) wi w4 := by rw [hpw]; exact pw.u
      clear hpw pw ed0 ed1 ed2 en1 en2
      have c0 : w4.cell? ⟨p, 0, none⟩ = _ := UW.cell d0 ⟨w4, uq⟩
      have c1 : w4.cell? ⟨p, 1, none⟩ = _ := UW.cell d1 ⟨w4, uq⟩
      have m1 : w4.cell? ⟨gy, j * 3 + 1, none⟩ = _ := UW.cell n1 ⟨w4, uq⟩
      have m2 : w4.cell? ⟨gy, j * 3 + 2, none⟩ = _ := UW.cell n2 ⟨w4, uq⟩
      have hb6 := (uq.block p (heap_lt B5.out) id).trans B5.out
      have hgw6 : gy < w4.heap.size := World.block_lt_of_cell? _ _ m1
      have U6 := hid (U5.out.trans uq); have B6 := hid hb6; have O6 := hid (ownsRow_upd O5.out uq fun _ _ => id)
      have hpl6 := heap_lt hb6
      obtain ⟨v', w5, r5, o5, u5q, n5⟩ := append_one elemSp O6.out.drew #[.int .i64 t.mark, .int .i64 t.fr, .int .i64 y.fr] rfl (by simp [Value.oneCell']) (by rw [List.length_append]; unfold maxLen; omega) (by rw [List.length_append]; omega) U6.out.size 23 (0, 0)
      have r5 : (Builtin.append_ #[23, 23] 23 #[u5, .slice (some ⟨w4.heap.size, 0, none⟩) 1 1]).run Tryz.prog ((w4.alloc (.cells #[.int .i64 t.mark, .int .i64 t.fr, .int .i64 y.fr] 39 (0, 0))).drew) = .ok v' w5 := r5
      have hlo := O6.out.lt
      have u5p : Upd (fun i => u5.ownBlock = some i) w4 w5 := (Upd.refl (fun i => u5.ownBlock = some i) w4).drew.trans u5q
      have hb7 := (u5p.block p hpl6 fun e => NPI.out p e rfl).trans hb6
      have ngy : ¬ u5.ownBlock = some gy := fun e => by have := (hlo gy e).1; omega
      have K0 : w4.cell? ⟨p, 0, none⟩ = some (.int .i64 t.mark) ∧ w4.cell? ⟨p, 1, none⟩ = some (.int .i64 t.fr) ∧ w4.cell? ⟨gy, j * 3 + 1, none⟩ = some (.int .i64 y.fr) := ⟨c0, c1, m1⟩
      have K1 := (show ∀ {W : World}, Upd (fun _ => False) w4 W → W.cell? ⟨p, 0, none⟩ = some (.int .i64 t.mark) ∧ W.cell? ⟨p, 1, none⟩ = some (.int .i64 t.fr) ∧ W.cell? ⟨gy, j * 3 + 1, none⟩ = some (.int .i64 y.fr) from fun u => ⟨cell_kept c0 (u.block p hpl6 id), cell_kept c1 (u.block p hpl6 id), cell_kept m1 (u.block gy hgw6 id)⟩) ((Upd.refl _ w4).alloc (.cells #[.int .i64 t.mark, .int .i64 t.fr, .int .i64 y.fr] 39 (0, 0)))
      have K5 : w5.cell? ⟨p, 0, none⟩ = some (.int .i64 t.mark) ∧ w5.cell? ⟨p, 1, none⟩ = some (.int .i64 t.fr) ∧ w5.cell? ⟨gy, j * 3 + 1, none⟩ = some (.int .i64 y.fr) := ⟨cell_kept c0 (u5p.block p hpl6 fun e => NPI.out p e rfl), cell_kept c1 (u5p.block p hpl6 fun e => NPI.out p e rfl), cell_kept m1 (u5p.block gy hgw6 ngy)⟩
      have m2 := cell_kept m2 (u5p.block gy hgw6 ngy)
      have f7 : w5.frozen? ⟨p, 1, none⟩ = false := frozen_of_block hb7
      have c7 : w5.cell? ⟨p, 1, none⟩ = some (.int .i64 t.fr) := K5.2.1
      have B7 := hid hb7
      have U7 := hid (U6.out.comp u5p fun i hi e => by have := (hlo i e).1; omega)
      have O7 := hid o5
      have NP7 := hid (show ∀ q, v'.ownBlock = some q → q ≠ p from fun q hq => by
        rcases n5 with h | ⟨g', h, hgl⟩
        · exact NPI.out q (h ▸ hq)
        · rw [h] at hq; injection hq with hq; subst hq
          intro e
          have : w4.drew.heap.size = w4.heap.size := rfl
          omega)
      have hgw7 : gy < w5.heap.size := Nat.lt_of_lt_of_le hgw6 u5p.size
      clear uq d0 d1 d2 n1 n2 hb6 U5 B5 O5 o5 u5q n5 hlo u5p hb7 ngy U6 B6 O6 c0 c1 m1
      go_wp2_with fail
      go_region_held3 (fun w' => w'.cell? ⟨p, 0, none⟩ = some (.int .i64 t.mark) ∧ w'.cell? ⟨p, 1, none⟩ = some (.int .i64 t.fr) ∧ w'.cell? ⟨gy, j * 3 + 1, none⟩ = some (.int .i64 y.fr)) (first | with_reducible exact K0 | with_reducible exact K1 | with_reducible exact K5 | go_keep) ((refine step_append_run rfl _ _ _ _ rfl rfl rfl r5 ?_))
      clear K0 K1 K5
      go_wp2_with fail
      have USET := hid (U7.out.comp ((Upd.refl (· = p) w5).at_ 1 (.int .i64 y.to)) fun i hi e => by omega)
      have OSET := hid (ownsRow_upd O7.out ((Upd.refl (· = p) w5).at_ 1 (.int .i64 y.to)) NP7.out)
      go_roundg (ys.length - (j + 1))
      case measure => have := HGI.out; omega
      case rel => exact ⟨j + 1, ⟨t.mark, y.to, t.to⟩, Q ++ [⟨t.mark, t.fr, y.fr⟩], by omega, rfl, by go_num, by rw [heap_setCell_same (p := ⟨p, 1, none⟩) rfl B7.out]; rfl, EQ.out, by rw [← List.append_assoc, List.length_append (bs := [_]), flatS_append (b := [_])]; exact OSET.out, by rw [List.length_append]; simpa using hql, ⟨WFT.out.mark, WFY.out.upto, WFT.out.upto⟩, NP7.out, USET.out⟩
theorem rcommon_any (va vb : Value) (l1 l2 : List Sp) (w : World) (h1 : kSps.rep (· < w.heap.size) w [va] l1) (h2 : kSps.rep (· < w.heap.size) w [vb] l2) (hl1 : l1.length ≤ 60) (hl2 : l2.length ≤ 60) :
    Calls Tryz.prog 38 #[va, vb] w (SpsPost (commonF l1 l2) w) := by
  have H1 := hid h1; have H2 := hid h2
  clear h1 h2
  go_enter Tryz.func38, Tryz.ntmps38
  go_wp2_with fail
  refine (rminus_any _ va vb l1 l2 w H1.out H2.out (by omega) (by omega)).mono ?_
  rintro e w1 ⟨v1, rfl, hown, u⟩
  have hok := (minus_spec l1 l2).1.ok
  have hml : (minusF l1 l2).length ≤ 120 := by
    have h := (fold_nrm (normF l2) (normF l1) (norm_spec l1).1 (norm_ok l2)).2
    have := norm_len l1; have := norm_len l2
    unfold minusF
    omega
  have U1 := hid u
  have HR := hid (sps_own_rep (A := (· < w1.heap.size)) hown (fun s hs => ok_wf (hok s hs)) fun g hg => (hown.lt g hg).2)
  have HC := hid (show minusF l1 (minusF l1 l2) = commonF l1 l2 by rw [← minusR_eq, ← minusR_eq, ← commonR_eq]; rfl)
  have H1' := hid (kSps.mono (kSps.keep H1.out (Same.of_upd u fun _ _ => id)) fun g hg => Nat.lt_of_lt_of_le hg u.size)
  clear hown u hok
  go_wp2_with fail
  refine (rminus_any _ va v1 l1 (minusF l1 l2) w1 H1'.out HR.out (by omega) (by omega)).mono ?_
  rintro e w2 ⟨v2, rfl, hown, u⟩
  rw [HC.out] at hown
  have HO := hid (own_base hown U1.out.size); have U2 := hid (U1.out.trans u)
  clear hown u
  go_wp2_with fail
  go_ret
  exact ⟨_, rfl, HO.out, U2.out⟩
end Go.Proofs.YtdcahnkcnbhknaaGreatDoor
