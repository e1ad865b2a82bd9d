/- Walks: the reference's Take. -/
import Derived.Test.YtdcahnkcnbhknaaGreatDoorEnRfD
namespace Go.Proofs.YtdcahnkcnbhknaaGreatDoor
open Go.RowKit Go.Deep

theorem SpBlk.setFr {w : World} {g : Nat} {l : List Sp} {rest : List Value} (h : SpBlk w g l rest) {i : Nat} (hi : i < l.length) (x : Int) :
    SpBlk (w.setCell ⟨g, i * 3 + 1, none⟩ (.int .i64 x)) g (l.set i ⟨l[i].mark, x, l[i].to⟩) rest := by
  have hl := flatS_len l
  have h1 := heap_setCell_same (p := ⟨g, i * 3 + 1, none⟩) (u := .int .i64 x) rfl h
  obtain ⟨g1, g2, g3⟩ := flatS_get l i hi
  unfold SpBlk
  rw [h1, flatS_set l i _ hi]
  congr 2
  simp only [List.setIfInBounds_toArray]
  rw [List.set_append_left _ _ (by omega)]
  obtain ⟨k1, e1⟩ := List.getElem?_eq_some_iff.1 g1
  obtain ⟨k3, e3⟩ := List.getElem?_eq_some_iff.1 g3
  have s1 : (flatS l).set (i * 3) (.int .i64 l[i].mark) = flatS l := by rw [← e1]; exact List.set_getElem_self k1
  rw [s1, List.set_comm _ _ (by omega)]
  have s3 : (flatS l).set (i * 3 + 2) (.int .i64 l[i].to) = flatS l := by rw [← e3]; exact List.set_getElem_self k3
  rw [s3]
theorem takeR_all {x : Sp} {r : List Sp} {n : Int} (h : x.to - x.fr ≤ n) : takeR (x :: r) n = (x :: (takeR r (n - (x.to - x.fr))).1, (takeR r (n - (x.to - x.fr))).2) := by
  conv => lhs; unfold takeR
  rw [if_pos h]
theorem takeR_some {x : Sp} {r : List Sp} {n : Int} (h : ¬ x.to - x.fr ≤ n) (hn : 0 < n) : takeR (x :: r) n = ([⟨x.mark, x.fr, x.fr + n⟩], ⟨x.mark, x.fr + n, x.to⟩ :: r) := by
  conv => lhs; unfold takeR
  rw [if_neg h, if_pos hn]
theorem takeR_none {x : Sp} {r : List Sp} {n : Int} (h : ¬ x.to - x.fr ≤ n) (hn : ¬ 0 < n) : takeR (x :: r) n = ([], x :: r) := by
  conv => lhs; unfold takeR
  rw [if_neg h, if_neg hn]
theorem sps_take {B : Nat → Prop} {w : World} {g c : Nat} {l : List Sp} (hel : Elems kSp B w g 0 l) (h2 : c ≤ maxLen) (hB : B g) (j : Nat) (hj : j ≤ l.length) (hlc : l.length ≤ c) :
    kSps.rep B w [.slice (some ⟨g, 0, none⟩) j c] (l.take j) := by
  have e : (l.take j).length = j := by rw [List.length_take]; omega
  refine .inr ⟨g, 0, c, by rw [e], by rw [e]; omega, h2, hB, fun i hi => ?_⟩
  rw [e] at hi
  obtain ⟨cs, hr, hc⟩ := hel i (by omega)
  exact ⟨cs, by rw [List.getElem_take]; exact hr, hc⟩
/-- Both parts of a row, each in a new one. -/
theorem take_cut {w : World} {g c i : Nat} {l : List Sp} (hel : Elems kSp (· < w.heap.size) w g 0 l) (hg : g < w.heap.size) (h2 : c ≤ maxLen) (hi : i ≤ l.length) (hlc : l.length ≤ c) (hl : l.length ≤ 100000) :
    ∃ v1 w1 v2 w2, (Builtin.append_ #[23, 23] 23 #[.slice (some ⟨w.heap.size, 0, none⟩) 0 0, .slice (some ⟨g, 0, none⟩) i c]).run Tryz.prog (w.alloc (.cells #[] 39 (0, 0))) = .ok v1 w1 ∧
      (Builtin.append_ #[23, 23] 23 #[.slice (some ⟨w1.heap.size, 0, none⟩) 0 0, .slice (some ⟨g, 0 + i * 3, none⟩) (l.length - i) (c - i)]).run Tryz.prog (w1.alloc (.cells #[] 39 (0, 0))) = .ok v2 w2 ∧
      w2.ownsRow w.heap.size 39 3 v1 i (flatS (l.take i)) ∧ w2.ownsRow w1.heap.size 39 3 v2 (l.length - i) (flatS (l.drop i)) ∧ (∀ q, v1.ownBlock = some q → q < w1.heap.size) ∧ Upd (fun _ => False) w w1 ∧ Upd (fun _ => False) w w2 := by
  have off : ∀ {w' : World}, Upd (w.heap.size ≤ ·) w w' → Same (· < w.heap.size) w w' := fun u => Same.of_upd u fun g hg hh => absurd hg (Nat.not_lt_of_le hh)
  have fin : ∀ {w' : World}, Upd (w.heap.size ≤ ·) w w' → Upd (fun _ => False) w w' := fun u => (Upd.refl (fun _ => False) w).comp u fun i hi e => by omega
  have u0 : Upd (w.heap.size ≤ ·) w (w.alloc (.cells #[] 39 (0, 0))) := (Upd.refl _ _).alloc _
  have e1 : (l.take i).length = i := by rw [List.length_take]; omega
  have e2 : (l.drop i).length = l.length - i := List.length_drop
  obtain ⟨v1, w1, r1, o1, g1⟩ := append_src (own_empty w) (some ⟨g, 0, none⟩) c (l.take i) (by rw [e1]; exact kSps.keep (sps_take hel h2 hg i hi hlc) (off u0)) (by omega) u0.size
  have u1 := u0.grown g1 fun k hk => .inl ((own_empty w).lt k hk).1
  have u1a : Upd (w.heap.size ≤ ·) w (w1.alloc (.cells #[] 39 (0, 0))) := u1.alloc _
  obtain ⟨v2, w2, r2, o2, g2⟩ := append_src (own_empty w1) (some ⟨g, 0 + i * 3, none⟩) (c - i) (l.drop i) (by rw [e2]; exact kSps.keep (sps_drop hel h2 hg i hlc) (off u1a)) (by omega) ((Upd.refl (fun _ => False) w1).alloc _).size
  have hlt := o1.lt
  have h01 : w.heap.size ≤ w1.heap.size := u1.size
  have u12 : Upd (w1.heap.size ≤ ·) w1 w2 := ((Upd.refl (w1.heap.size ≤ ·) w1).alloc _).grown g2 fun k hk => .inl ((own_empty w1).lt k hk).1
  have u2 : Upd (w.heap.size ≤ ·) w w2 := u1.trans (u12.mono fun _ h => Nat.le_trans h01 h)
  rw [e1] at r1 o1
  rw [e2] at r2 o2
  rw [Nat.zero_add, List.nil_append] at o1 o2
  exact ⟨v1, w1, v2, w2, r1, r2, ownsRow_upd o1 u12 (fun q hq e => by have := (hlt q hq).2; omega), o2, (fun q hq => (hlt q hq).2), fin u1, fin u2⟩
set_option maxRecDepth 100000 in
set_option maxHeartbeats 16000000 in
theorem rtake_any (A : Nat → Prop) (v : Value) (l : List Sp) (n0 : Int) (w : World) (hl : kSps.rep A w [v] l) (hlen : l.length ≤ 100000) (hn0 : I64 n0) :
    Calls Tryz.prog 25 #[v, .int .i64 n0] w (TakePost (takeC l n0) w) := by
  have HL := hid hl; have HN0 := hid hn0
  clear hl hn0
  go_enter Tryz.func25, Tryz.ntmps25
  go_wp2_with fail
  refine (rnorm_any A v l w HL.out hlen).mono ?_
  rintro e w1 ⟨v1, rfl, hown, u⟩
  obtain ⟨xs, hxs⟩ : ∃ xs, normF l = xs := ⟨_, rfl⟩
  have okx : ∀ s ∈ xs, s.Ok := by rw [← hxs]; exact norm_ok l
  have hxl : xs.length ≤ 100000 := by rw [← hxs]; exact Nat.le_trans (norm_len l) hlen
  have HF := hid (show takeR xs n0 = takeC l n0 by rw [← hxs, ← normR_eq]; exact takeR_eq l n0)
  rw [hxs] at hown
  have OWN := hid hown
  obtain ⟨a, c, rfl, hc1, hc2, hcell⟩ := own_cells hown
  have HC := hid hcell; have U := hid u; have OKX := hid okx; have HC2 := hid hc2
  have hc2' : c ≤ 9223372036854775807 := hc2
  clear hxs hown u hcell okx hc2
  go_wp2_with fail
  go_loopg [1, 7, 8, 9, 10] xs.length (fun gg s1 s7 _ _ _ wr => ∃ (k : Nat) (n : Int), k ≤ xs.length ∧ gg = xs.length - k ∧ s7 = .int .i64 k ∧ s1 = .int .i64 n ∧ I64 n ∧ takeR xs n0 = (xs.take k ++ (takeR (xs.drop k) n).1, (takeR (xs.drop k) n).2) ∧ Upd (fun _ => False) w1 wr)
  case atStart => exact ⟨0, n0, Nat.zero_le _, rfl, rfl, rfl, HN0.out, rfl, Upd.refl _ _⟩
  case round =>
    obtain ⟨k, n, hk, hg, rfl, rfl, hn, htk, u⟩ := hrel
    have HG := hid hg; have UU := hid u; have TK := hid htk; have HN := hid hn
    have hn1 : -9223372036854775808 ≤ n := hn.1
    have hn2 : n ≤ 9223372036854775807 := hn.2
    clear hg htk u hn
    by_cases hlt : k < xs.length
    case neg =>
      obtain rfl : k = xs.length := by omega
      have EQ := hid (show takeC l n0 = (xs, []) by rw [← HF.out, TK.out, List.drop_length]; simp [takeR])
      have O2 := hid (ownsRow_upd OWN.out UU.out fun _ _ => id)
      clear TK
      go_wp2_with fail
      go_ret2
      exact ⟨_, _, rfl, by rw [EQ.out]; exact O2.out, by rw [EQ.out]; exact World.ownsRow_nil _ _ _ _, U.out.trans UU.out⟩
    have hlti : (k : Int) < xs.length := by omega
    have hk1 : (k : Int) + 1 ≤ 100001 := by omega
    have hk0 : (0 : Int) ≤ (k : Int) := by omega
    have hkc : (k : Int) ≤ (c : Int) := by omega
    have hkl : (k : Int) ≤ (xs.length : Int) := by omega
    have hlc : (xs.length : Int) ≤ (c : Int) := by omega
    have hck : ¬ c = k := by omega
    obtain ⟨g, rfl, hbg, hgw, m0, m1, m2⟩ := HC.out k hlt
    have m0 := cell_kept m0 (UU.out.block g hgw id)
    have m1 := cell_kept m1 (UU.out.block g hgw id)
    have m2 := cell_kept m2 (UU.out.block g hgw id)
    have hgwr : g < wr.heap.size := Nat.lt_of_lt_of_le hgw UU.out.size
    have okx := OKX.out _ (List.getElem_mem hlt)
    have hdr : xs.drop k = xs[k] :: xs.drop (k + 1) := List.drop_eq_getElem_cons hlt
    have htk1 : xs.take (k + 1) = xs.take k ++ [xs[k]] := List.take_succ_eq_append_getElem hlt
    obtain ⟨x, hx⟩ : ∃ x, xs[k] = x := ⟨_, rfl⟩
    rw [hx] at m0 m1 m2 okx hdr htk1
    have HX := hid hx
    have hx1 : 0 ≤ x.fr := okx.2.2.1
    have hx2 : x.fr < x.to := okx.2.2.2.1
    have hx3 : x.to ≤ 1048576 := okx.2.2.2.2
    have DR := hid hdr; have T1 := hid htk1
    clear hx hdr htk1 okx
    by_cases hkn : x.to - x.fr ≤ n
    case pos =>
      have t1 : decide (x.to - x.fr ≤ n) = true := decide_eq_true hkn
      have TK2 := hid (show takeR xs n0 = (xs.take (k + 1) ++ (takeR (xs.drop (k + 1)) (n - (x.to - x.fr))).1, (takeR (xs.drop (k + 1)) (n - (x.to - x.fr))).2) by
        rw [TK.out, DR.out, takeR_all hkn, T1.out, List.append_assoc]; rfl)
      have IN := hid (show I64 (n - (x.to - x.fr)) from ⟨by omega, by omega⟩)
      have e1 : IntKind.i64.wrap (x.to - x.fr) = x.to - x.fr := IntWalk.i64_in _ (by omega)
      have e2 : IntKind.i64.wrap (n - (x.to - x.fr)) = n - (x.to - x.fr) := IntWalk.i64_in _ (by omega)
      clear TK m0
      go_wp2_with fail
      have em1 := fun p : UW wr => p.cell m1
      have em2 := fun p : UW wr => p.cell m2
      refine region_upd (by kernel_rfl) (by kernel_rfl) ?_
      repeat (go_big_quiet_step (fail))
      refine wpQuiet_nil ?_
      intro w4 hw1
      obtain ⟨pw, hpw⟩ := hw1
      have uq : Upd (fun _ => False) wr w4 := by rw [hpw]; exact pw.u
      clear hpw pw em1 em2
      have U5 := hid (UU.out.trans uq)
      clear uq m1 m2
      go_wp2_with fail
      clear e1 e2
      go_roundg (xs.length - (k + 1))
      case measure => have := HG.out; omega
      case rel => exact ⟨k + 1, n - (x.to - x.fr), by omega, rfl, by go_num, rfl, IN.out, TK2.out, U5.out⟩
    have t1 : decide (x.to - x.fr ≤ n) = false := decide_eq_false hkn
    have HKN := hid (show ¬ x.to - x.fr ≤ n by omega)
    have e1 : IntKind.i64.wrap (x.to - x.fr) = x.to - x.fr := IntWalk.i64_in _ (by omega)
    go_wp2_with fail
    have em0 := fun p : UW wr => p.cell m0
    have em1 := fun p : UW wr => p.cell m1
    have em2 := fun p : UW wr => p.cell m2
    refine region_upd (by kernel_rfl) (by kernel_rfl) ?_
    repeat (go_big_quiet_step (fail))
    refine wpQuiet_nil ?_
    intro w4 hw1
    obtain ⟨pw, hpw⟩ := hw1
    have uq : Upd (fun _ => False) wr w4 := by rw [hpw]; exact pw.u
    clear hpw pw em0 em1 em2
    have m0 : w4.cell? ⟨g, k * 3, none⟩ = _ := UW.cell m0 ⟨w4, uq⟩
    have m1 : w4.cell? ⟨g, k * 3 + 1, none⟩ = _ := UW.cell m1 ⟨w4, uq⟩
    have U5 := hid (UU.out.trans uq)
    have hgw4 : g < w4.heap.size := Nat.lt_of_lt_of_le hgwr uq.size
    have own4 := ownsRow_upd OWN.out U5.out fun _ _ => id
    have rep4 := sps_own_rep (A := (· < w4.heap.size)) own4 (fun s hs => ok_wf (OKX.out s hs)) fun q hq => (own4.lt q hq).2
    obtain ⟨b', o', e, _, hel⟩ := slice_at rep4 (by omega)
    injection e with e
    injection e with e5 e6 e7
    subst e5 e6
    obtain ⟨f1, w5, f2, w6, r1, r2, o1, o2, hf1, u5, u6⟩ := take_cut (i := k) hel hgw4 HC2.out (by omega) hc1 hxl
    rw [Nat.zero_add] at r2
    have m0 := cell_kept m0 (u6.block g hgw4 id)
    have m1 := cell_kept m1 (u6.block g hgw4 id)
    have hgw6 : g < w6.heap.size := Nat.lt_of_lt_of_le hgw4 u6.size
    have h45 : w.heap.size ≤ w4.heap.size := Nat.le_trans U.out.size U5.out.size
    have O1 := hid (own_base o1 h45); have O2 := hid (own_base o2 (Nat.le_trans h45 u5.size)); have U6 := hid ((U.out.trans U5.out).trans u6)
    have SEP := hid (show ∀ q, f1.ownBlock = some q → f2.ownBlock ≠ some q from fun q h1 h2 => by have := hf1 q h1; have := (o2.lt q h2).1; omega)
    have NGY := hid (show ¬ f1.ownBlock = some g from fun e => by have := (o1.lt g e).1; omega)
    clear uq m2 own4 rep4 hel e7 o1 o2 u5 u6 hf1 h45 e1
    by_cases hn0 : 0 < n
    case neg =>
      have t2 : decide (0 < n) = false := decide_eq_false hn0
      have EQ := hid (show takeC l n0 = (xs.take k, xs.drop k) by rw [← HF.out, TK.out, DR.out, takeR_none (by have := HKN.out; omega) (by omega), List.append_nil])
      clear TK hkn
      go_wp2_with (at_builtin; first | refine wpList_append_run rfl _ _ _ _ rfl rfl rfl r1 ?_ | refine wpList_append_run rfl _ _ _ _ rfl rfl rfl r2 ?_)
      go_ret2
      exact ⟨_, _, rfl, by rw [EQ.out]; show World.ownsRow _ _ _ _ _ (xs.take k).length _; rw [List.length_take, Nat.min_eq_left hk]; exact O1.out, by rw [EQ.out]; show World.ownsRow _ _ _ _ _ (xs.drop k).length _; rw [List.length_drop]; exact O2.out, U6.out⟩
    have t2 : decide (0 < n) = true := decide_eq_true hn0
    have EQ := hid (show takeC l n0 = (xs.take k ++ [⟨x.mark, x.fr, x.fr + n⟩], ⟨x.mark, x.fr + n, x.to⟩ :: xs.drop (k + 1)) by rw [← HF.out, TK.out, DR.out, takeR_some (by have := HKN.out; omega) (by omega)])
    have e2 : IntKind.i64.wrap (x.fr + n) = x.fr + n := IntWalk.i64_in _ (by omega)
    have e3 : wrap64 (x.fr + n) = x.fr + n := IntWalk.wrap64_in _ (by omega)
    obtain ⟨f1', w7, r7, o7, u7q, n7⟩ := append_one elemSp O1.out.drew #[.int .i64 x.mark, .int .i64 x.fr, .int .i64 (x.fr + n)] rfl (by simp [Value.oneCell']) (by unfold maxLen; omega) (by omega) U6.out.size 23 (0, 0)
    have r7 : (Builtin.append_ #[23, 23] 23 #[f1, .slice (some ⟨w6.heap.size, 0, none⟩) 1 1]).run Tryz.prog ((w6.alloc (.cells #[.int .i64 x.mark, .int .i64 x.fr, .int .i64 (x.fr + n)] 39 (0, 0))).drew) = .ok f1' w7 := r7
    have u7 : Upd (fun i => f1.ownBlock = some i) w6 w7 := (Upd.refl (fun i => f1.ownBlock = some i) w6).drew.trans u7q
    have hlo := O1.out.lt
    have own7 := ownsRow_upd O2.out u7 fun q hq e => SEP.out q e hq
    rcases own_blk (l := xs.drop k) (by rw [List.length_drop]; exact own7) with ⟨_, h0⟩ | ⟨q2, cp2, ro2, hf2, hq2, hcp2, hcm2, hro2, hbk⟩
    · rw [DR.out] at h0; cases h0
    rw [List.length_drop] at hf2
    subst hf2
    have hp0 : 0 < (xs.drop k).length := by rw [List.length_drop]; omega
    have hx0 : (xs.drop k)[0] = x := by simp only [List.getElem_drop, Nat.add_zero]; exact HX.out
    have hset := hbk.setFr hp0 (x.fr + n)
    have hset0 : (xs.drop k).set 0 ⟨(xs.drop k)[0].mark, x.fr + n, (xs.drop k)[0].to⟩ = ⟨x.mark, x.fr + n, x.to⟩ :: xs.drop (k + 1) := by
      rw [hx0]
      conv => lhs; rw [DR.out]
      rfl
    have hfin := blk_own (base := w.heap.size) hset hq2 (by rw [List.length_set]; exact hcp2) hcm2 (by rw [List.length_set]; exact hro2)
    have c7 : w7.cell? ⟨q2, 1, none⟩ = some (.int .i64 x.fr) := by
      have := (hbk.cell hp0).2.1
      rw [hx0] at this
      simpa using this
    have f7 : w7.frozen? ⟨q2, 1, none⟩ = false := hbk.frozen 1
    have ngq : f1'.ownBlock ≠ some q2 := by
      have hql := (O2.out.lt q2 rfl).2
      rcases n7 with h | ⟨g', h, hgl⟩
      · rw [h]; exact fun e => SEP.out q2 e rfl
      · rw [h]; intro e; injection e with e
        have : w6.drew.heap.size = w6.heap.size := rfl
        omega
    have us : Upd (· = q2) w7 (w7.setCell ⟨q2, 1, none⟩ (.int .i64 (x.fr + n))) := (Upd.refl _ _).at_ 1 _
    have OA := hid (ownsRow_upd o7 us fun q hq e => ngq (e ▸ hq))
    rw [hset0, show 0 * 3 + 1 = 1 from rfl] at hfin
    have hl2 : ((⟨x.mark, x.fr + n, x.to⟩ : Sp) :: xs.drop (k + 1)).length = xs.length - k := by rw [List.length_cons, List.length_drop]; omega
    rw [hl2] at hfin
    have OB := hid hfin
    have U7 := hid ((U6.out.comp u7 fun i hi e => by have := (hlo i e).1; omega).comp us fun i hi e => by omega)
    have K0 : w6.cell? ⟨g, k * 3, none⟩ = some (.int .i64 x.mark) ∧ w6.cell? ⟨g, k * 3 + 1, none⟩ = some (.int .i64 x.fr) := ⟨m0, m1⟩
    have u61 : Upd (fun _ => False) w6 (w6.alloc (.cells #[.int .i64 x.mark, .int .i64 x.fr, .int .i64 (x.fr + n)] 39 (0, 0))) := (Upd.refl _ w6).alloc _
    have K1 := And.intro (cell_kept m0 (u61.block g hgw6 id)) (cell_kept m1 (u61.block g hgw6 id))
    have K5 := And.intro (cell_kept m0 (u7.block g hgw6 NGY.out)) (cell_kept m1 (u7.block g hgw6 NGY.out))
    have m7 := K5.2
    have hgw7 : g < w7.heap.size := Nat.lt_of_lt_of_le hgw6 u7.size
    have hps : 0 < xs.length - k := by omega
    have hpsi : (0 : Int) < ((xs.length - k : Nat) : Int) := by omega
    clear hp0 hx0 hset hset0 hfin ngq us hbk own7 hlo u7q u7 n7 o7 hl2 u61 TK O1 O2 OWN HX hkn hro2 hcp2
    go_wp2_with (at_builtin; first | refine wpList_append_run rfl _ _ _ _ rfl rfl rfl r1 ?_ | refine wpList_append_run rfl _ _ _ _ rfl rfl rfl r2 ?_)
    go_region_held3 (fun w' => w'.cell? ⟨g, k * 3, none⟩ = some (.int .i64 x.mark) ∧ w'.cell? ⟨g, k * 3 + 1, none⟩ = some (.int .i64 x.fr)) (first | with_reducible exact K0 | with_reducible exact K1 | with_reducible exact K5 | go_keep) ((refine step_append_run rfl _ _ _ _ rfl rfl rfl r7 ?_))
    clear K0 K1 K5
    go_wp2_with fail
    go_ret2
    exact ⟨_, _, rfl, by rw [EQ.out, flatS_append]; show World.ownsRow _ _ _ _ _ (xs.take k ++ [_]).length _; rw [List.length_append, List.length_take, Nat.min_eq_left hk]; exact OA.out, by rw [EQ.out]; show World.ownsRow _ _ _ _ _ (_ :: xs.drop (k + 1)).length _; rw [List.length_cons, List.length_drop, show xs.length - (k + 1) + 1 = xs.length - k by omega]; exact OB.out, U7.out⟩
end Go.Proofs.YtdcahnkcnbhknaaGreatDoor
