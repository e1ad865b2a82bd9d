/- Walks: OrderCame. -/
import Derived.Test.YtjkmalddfoemhaaGreatDoorRm
import Derived.Test.YtjkmalddfoemhaaGreatDoorOrSmall
import Derived.Test.YtjkmalddfoemhaaGreatDoorOrPlay
import Derived.Test.YtjkmalddfoemhaaGreatDoorOrI
namespace Go.Proofs.YtjkmalddfoemhaaGreatDoor
open Go.RowKit Go.Deep

theorem ends_i64 {R : Rg} {hs : Hs} (H : His rdF R hs) (hR : R.length ≤ 60) (days : List (Int × Int)) : ∀ x ∈ endsF hs days, I64 x := fun x hx => by
  unfold endsF endsTo at hx
  obtain ⟨d, hd, rfl⟩ := List.mem_map.1 hx
  have := seqTo_len H hR days (k := d + 1) (by have := List.mem_range.1 hd; omega)
  unfold I64; omega
theorem back_small {sl : List Sg} {h : Hs} (f : From sl h) (hs : ∀ s ∈ sl, SgSmall s) : ∀ s ∈ backL h, SgSmall s := fun s q => by
  unfold backL at q
  obtain ⟨m, hm, rfl⟩ := List.mem_map.1 q
  rw [List.mem_reverse, mem_marksF] at hm
  obtain ⟨i, hi, _, e, _⟩ := signed_has hm
  rw [e]
  exact hs _ (f _ (List.getElem_mem hi))
theorem same_days {s : Stp} {R : Rg} {h g : Hs} (H : His rdF R h) (G : His rdF R g) (q : SameM h g) {l k : List (Int × Int)} (a : DaysOf s h l) (b : DaysOf s g k) : seqF h l = seqF g k ∧ endsF h l = endsF g k := by
  have e : l = k := by
    by_cases c : StpOk s
    · exact days_both H G q (a.1 c) (b.1 c)
    · rw [a.2 c, b.2 c]
  subst e
  exact seq_both H G q l
set_option maxRecDepth 100000 in
set_option maxHeartbeats 16000000 in
theorem came_walk {s : Stp} {ak : Option Addr} {ck : Nat} (v : Value) (l : List Po) (w : World) (E : Env w) (hu : UsesIn w) (hz : 6 ≤ w.heap.size) (hst : StpAt w (· < w.heap.size) s ak ck) (h : kPos.rep (· < w.heap.size) w [v] l) : Calls Tryz.prog 8 #[stpV s ak ck, v] w fun e w' => e = .returned (.bool true) ∧ Upd (fun _ => False) w w' := by
  have HE := hid E; have HU := hid hu; have HZ := hid hz
  obtain ⟨av, cv, rfl, _, hcv, _⟩ := slice_open h
  obtain ⟨W1, hW1⟩ : ∃ W1, W1 = w.alloc (.cells #[.slice ak s.keys.length ck, .int .i64 s.liars, .int .i64 s.seed] 60 (0, 0)) := ⟨_, rfl⟩
  have u1 : Upd (fun _ => False) w W1 := by rw [hW1]; exact (Upd.refl _ _).alloc _
  have HB := hid (show W1.heap[w.heap.size]? = some (.cells #[.slice ak s.keys.length ck, .int .i64 s.liars, .int .i64 s.seed] 60 (0, 0)) by rw [hW1]; exact heap_alloc_new)
  have U := hid u1; have HW := hid hW1
  have HS := hid (hst.keep u1)
  have HP := hid (kPos.mono (kPos.keep h (Same.of_upd u1 fun _ _ => id)) fun g hg => (Nat.lt_of_lt_of_le hg u1.size : g < W1.heap.size))
  obtain ⟨p, hp⟩ : ∃ p, w.heap.size = p := ⟨_, rfl⟩
  rw [hp] at HB
  have HPP := hid hp
  have HA := hid (fun (y : World) (u : Upd (fun _ => False) W1 y) g (q : g < w.heap.size) => (show g < y.heap.size from Nat.lt_of_lt_of_le q (Nat.le_trans u1.size u.size)))
  clear E hu hz h hst hW1 u1 hp
  unfold stpV
  go_enter Tryz.func8, Tryz.ntmps8
  go_upto_region 1 with (fail)
  rw [← HW.out]
  try rw [HPP.out]
  clear HW
  go_wp2_with fail
  refine (small33_any W1 (HE.out.keep0 U.out) (HU.out.keep U.out) (Nat.le_trans HZ.out U.out.size)).mono ?_
  rintro en x0 ⟨rfl, u⟩
  have U0 := hid u
  replace HP := hid (kPos.mono (kPos.keep HP.out (Same.of_upd u fun _ _ => id)) fun g hg => (Nat.lt_of_lt_of_le hg u.size : g < x0.heap.size))
  have HB0 := hid ((u.block _ (heap_lt HB.out) id).trans HB.out)
  obtain ⟨m0, m1, m2⟩ := cells3s HB0.out
  clear u
  go_wp2_with fail
  refine (few33_any (HS.out.keep U0.out) _ l 24 HP.out (fun _ q => q) (by decide)).mono ?_
  rintro en x1 ⟨rfl, u⟩
  clear m0 m1 m2 HB0
  by_cases hf : Few33 s l 24
  case neg =>
    rw [decide_eq_false hf]
    have U1 := hid (U0.out.trans u)
    clear u
    go_wp2_with fail
    go_ret
    exact ⟨rfl, U.out.trans U1.out⟩
  rw [decide_eq_true hf]
  replace U0 := hid (U0.out.trans u)
  replace HP := hid (kPos.mono (kPos.keep HP.out (Same.of_upd u fun _ _ => id)) fun g hg => (Nat.lt_of_lt_of_le hg u.size : g < x1.heap.size))
  have HF := hid hf.2
  have HK := hid (show s.keys.length ≤ 1000 from Nat.le_trans hf.1 (by decide))
  clear u hf
  go_wp2_with fail
  refine (play_any _ l _ (HE.out.keep0 (U.out.trans U0.out)) (HU.out.keep (U.out.trans U0.out)) HP.out (by have := HF.out.1; omega) ⟨Nat.le_refl _, HF.out.2⟩ (Nat.le_trans HZ.out (U.out.trans U0.out).size)).mono ?_
  rintro en x2 ⟨r, vs, b, O, Or, rfl, PA⟩
  obtain ⟨hs, hhs⟩ : ∃ hs, playF l = hs := ⟨_, rfl⟩
  obtain ⟨R, hR⟩ : ∃ R, (signedF l).1 = R := ⟨_, rfl⟩
  obtain ⟨sl, hsl⟩ : ∃ sl, (signedF l).2 = sl := ⟨_, rfl⟩
  obtain ⟨aS, cs, e9, _, _⟩ := own_slice PA.sgs
  subst e9
  have HH := hid (show HPre x2 O Or b r hs R by rw [← hhs, ← hR]; exact PA.pre)
  have SS := hid (show ∀ s ∈ sl, SgSmall s by rw [← hsl]; exact PA.small)
  have HO := hid (show ∀ k, O k → W1.heap.size ≤ k from fun k hk => Nat.le_trans U0.out.size (PA.own k hk))
  have FR := hid (show From sl hs by rw [← hhs, ← hsl]; exact all_from _ (fun s q => q) (fun n hn => nomatch hn))
  have UX := hid (U0.out.trans PA.upd)
  have RL := hid (show R.length ≤ 4000 from Nat.le_trans HH.out.few (by decide))
  clear PA hhs hR hsl HF HP U0
  go_wp2_with fail
  refine (hring_any HH.out.his).mono ?_
  rintro en y0 ⟨rfl, rfl⟩
  go_wp2_with fail
  refine (hnew_any r _ HH.out.gnd.six).mono ?_
  rintro en x3 ⟨bg, rfl, hb, hn, u⟩
  obtain ⟨Og, hO⟩ : ∃ O : Nat → Prop, (fun k => x2.heap.size ≤ k ∧ k < x3.heap.size) = O := ⟨_, rfl⟩
  rw [hO] at hn
  have NEW := hid (show ∀ k, Og k → x2.heap.size ≤ k ∧ k < x3.heap.size by rw [← hO]; exact fun k hk => hk)
  have HG0 := hid (show HPre x3 Og Or bg r [] R from ⟨hn, HH.out.gnd.keep u, His.nil, fun k hk hk' => by have h1 := (HH.out.gnd.ring.lt k hk).2; have h2 := (NEW.out k hk').1; omega, HH.out.few⟩)
  have DIS := hid (show ∀ k, O k → ¬ Og k from fun k hk hk' => by have h1 := (HH.out.his.lt k hk).2; have h2 := (NEW.out k hk').1; omega)
  replace HH := hid (HH.out.keep u)
  have SZ2 := hid (show W1.heap.size ≤ x2.heap.size from UX.out.size)
  replace UX := hid (UX.out.trans u)
  clear hn hO hb u
  go_wp2_with fail
  refine (hmarks_any HH.out.his).mono ?_
  rintro en x5 ⟨vm, rfl, ho, u⟩
  have ROW := hid ho
  replace HG0 := hid (HG0.out.keep u)
  replace HH := hid (HH.out.keep u)
  replace UX := hid (UX.out.trans u)
  have MI := hid (show ∀ x ∈ marksF hs, (Lit.int .i64 x).wf = true ∧ (idxF hs x).isSome from fun x hx => ⟨by have := marks_small HH.out.plain hx; have := HH.out.few; exact iwf (by omega), (mem_marksF hs x).1 hx⟩)
  have ML := hid (show (marksF hs).length = hs.length from marksF_len hs)
  have ML60 := hid (show hs.length ≤ 60 from Nat.le_trans HH.out.plain.len HH.out.few)
  have X35 := hid u.size
  obtain ⟨am, cm, rfl, hm1, hm2⟩ := own_slice ho
  have hm2 : cm ≤ 9223372036854775807 := hm2
  obtain ⟨N, hN⟩ : ∃ N, (marksF hs).length = N := ⟨_, rfl⟩
  have HN := hid hN
  have HNH := hid (show hs.length = N by rw [← hN]; exact ML.out.symm)
  rw [hN] at hm1 ⊢
  have hn60 : N ≤ 60 := by rw [← HNH.out]; exact ML60.out
  have CELL := hid (fun (y : World) (u : Upd Og x5 y) (hp : 0 < N) => (show ∃ g o, am = some ⟨g, o, none⟩ ∧ ∀ i (hi : i < (marksF hs).length), y.cell? ⟨g, o + i, none⟩ = some (.int .i64 (marksF hs)[i]) from by
    obtain ⟨a, c, e, _, _, h3⟩ := IntRow.of_own (ownsRow_upd ROW.out u fun g hg e => by have h1 := (own_lt ROW.out g hg).1; have h2 := (NEW.out g e).2; omega)
    obtain ⟨g, o, ea, hel⟩ := h3 (by rw [HN.out]; exact hp)
    injection e with e1 _ _
    exact ⟨g, o, by rw [e1, ea], hel⟩))
  have BS := hid (back_small FR.out SS.out)
  have BL := hid (show (backL hs).length = N by rw [backL_len]; exact HNH.out)
  have BIN := hid (back_in (h := hs))
  clear ho u hN ROW ML FR SS
  go_wp2_with fail
  go_loopg [10] N (fun gg s10 wr => ∃ k : Nat, k ≤ N ∧ gg = N - k ∧ s10 = .int .i64 k ∧ ∃ g O2, k ≤ g.length ∧ SubM g hs ∧ HPre wr O2 Or bg r g R ∧ (∀ j, O2 j → Og j ∨ x5.heap.size ≤ j) ∧ Upd Og x5 wr)
  case atStart => exact ⟨0, Nat.zero_le _, rfl, rfl, [], Og, Nat.le_refl _, fun m hm => (nomatch hm), HG0.out, fun j hj => .inl hj, Upd.refl _ _⟩
  case round =>
    obtain ⟨k, hk, hg, rfl, g, O2, hkg, hsub, hpre, hO2, u⟩ := hrel
    have HG := hid hg; have KG := hid hkg; have SUB := hid hsub; have GP := hid hpre; have HO2 := hid hO2; have UP := hid u
    have HHR := hid (HH.out.upd u DIS.out (fun j hj => HG0.out.apart j hj) fun j hj => (HG0.out.his.lt j hj).1)
    have UC := hid (show Upd (fun _ => False) W1 wr from UX.out.comp u fun i hi e => by have := (NEW.out i e).1; have := SZ2.out; omega)
    have GL := hid (show g.length ≤ 60 from Nat.le_trans hpre.plain.len hpre.few)
    clear hg hkg hsub hpre hO2 u
    by_cases hlt : k < N
    case neg =>
      as_aux_lemma =>
      have hlti : ¬ (k : Int) < N := by omega
      have LG := hid (show N ≤ g.length by have := KG.out; omega)
      have SAME := hid (sub_same GP.out.plain SUB.out (by have := HNH.out; have := LG.out; omega))
      have HBR := hid ((UC.out.block _ (heap_lt HB.out) id).trans HB.out)
      obtain ⟨m0, m1, m2⟩ := cells3s HBR.out
      clear CELL
      go_wp2_with fail
      refine (sequence_any HHR.out (HS.out.keep UC.out) (HA.out _ UC.out) HK.out).mono ?_
      rintro en z1 ⟨v1, v2, d1, rfl, hd1, _, r1, r2, u⟩
      have UZ := hid (UC.out.trans u)
      have D1 := hid hd1; have R1 := hid r1; have R2 := hid r2
      have GZ := hid (GP.out.keep u)
      have HBZ := hid ((u.block _ (heap_lt HBR.out) id).trans HBR.out)
      clear m0 m1 m2 hd1 r1 r2 u
      obtain ⟨m0, m1, m2⟩ := cells3s HBZ.out
      obtain ⟨a1, c1, rfl, _, _⟩ := own_slice R1.out
      obtain ⟨a2, c2, rfl, _, _⟩ := own_slice R2.out
      go_wp2_with fail
      refine (sequence_any GZ.out (HS.out.keep UZ.out) (HA.out _ UZ.out) HK.out).mono ?_
      rintro en z2 ⟨v3, v4, d2, rfl, hd2, _, r3, r4, u⟩
      have EQ := hid (same_days GP.out.plain HHR.out.plain SAME.out hd2 D1.out)
      have UZ2 := hid (UZ.out.trans u)
      replace R1 := hid (ownsRow_upd R1.out u fun _ _ => id)
      replace R2 := hid (ownsRow_upd R2.out u fun _ _ => id)
      rw [EQ.out.1] at r3
      rw [EQ.out.2] at r4
      have R3 := hid r3; have R4 := hid r4
      obtain ⟨a3, c3, rfl, _, _⟩ := own_slice R3.out
      obtain ⟨a4, c4, rfl, _, _⟩ := own_slice R4.out
      have SW := hid (show ∀ x ∈ seqF hs d1, I64 x from fun x hx => by have h1 := (mem_seq HHR.out.plain d1 x).1 hx; have := marks_small HHR.out.plain ((mem_marksF hs x).2 h1); have := HHR.out.few; unfold I64; omega)
      have EW := hid (show ∀ x ∈ endsF hs d1, I64 x from fun x hx => ends_i64 HHR.out.plain HHR.out.few d1 x hx)
      clear hd2 r3 r4 u m0 m1 m2
      go_wp2_with fail
      refine (ints8_any _ _ (seqF hs d1) (seqF hs d1) (· < z2.heap.size) (· < z2.heap.size) _ (kInts.mono (ints_rep R1.out SW.out) fun g hg => hg.2) (kInts.mono (ints_rep R3.out SW.out) fun g hg => hg.2) (fun _ h => h) (fun _ h => h)).mono ?_
      rintro en z3 ⟨rfl, u⟩
      rw [decide_eq_true rfl]
      have UZ3 := hid (UZ2.out.trans u)
      replace R2 := hid (ownsRow_upd R2.out u fun _ _ => id)
      replace R4 := hid (ownsRow_upd R4.out u fun _ _ => id)
      clear u
      go_wp2_with fail
      refine (ints8_any _ _ (endsF hs d1) (endsF hs d1) (· < z3.heap.size) (· < z3.heap.size) _ (kInts.mono (ints_rep R2.out EW.out) fun g hg => hg.2) (kInts.mono (ints_rep R4.out EW.out) fun g hg => hg.2) (fun _ h => h) (fun _ h => h)).mono ?_
      rintro en z4 ⟨rfl, u⟩
      rw [decide_eq_true rfl]
      have UZ4 := hid (UZ3.out.trans u)
      clear u
      go_wp2_with fail
      go_ret
      exact ⟨rfl, U.out.trans UZ4.out⟩
    have hlti : (k : Int) < N := by omega
    go_wp2_with fail
    refine (hlen_any GP.out.his).mono ?_
    rintro en y1 ⟨rfl, rfl⟩
    go_wp2_with fail
    refine (hlen_any HHR.out.his).mono ?_
    rintro en y2 ⟨rfl, rfl⟩
    rw [HNH.out]
    obtain ⟨gl, hgl⟩ : ∃ gl, g.length = gl := ⟨_, rfl⟩
    rw [hgl]
    have HGL := hid hgl
    clear hgl
    by_cases hlg : gl < N
    case neg =>
      as_aux_lemma =>
      have hlgi : ¬ (gl : Int) < N := by omega
      have LG := hid (show N ≤ g.length by rw [HGL.out]; omega)
      have SAME := hid (sub_same GP.out.plain SUB.out (by have := HNH.out; have := LG.out; omega))
      have HBR := hid ((UC.out.block _ (heap_lt HB.out) id).trans HB.out)
      obtain ⟨m0, m1, m2⟩ := cells3s HBR.out
      clear CELL
      go_wp2_with fail
      refine (sequence_any HHR.out (HS.out.keep UC.out) (HA.out _ UC.out) HK.out).mono ?_
      rintro en z1 ⟨v1, v2, d1, rfl, hd1, _, r1, r2, u⟩
      have UZ := hid (UC.out.trans u)
      have D1 := hid hd1; have R1 := hid r1; have R2 := hid r2
      have GZ := hid (GP.out.keep u)
      have HBZ := hid ((u.block _ (heap_lt HBR.out) id).trans HBR.out)
      clear m0 m1 m2 hd1 r1 r2 u
      obtain ⟨m0, m1, m2⟩ := cells3s HBZ.out
      obtain ⟨a1, c1, rfl, _, _⟩ := own_slice R1.out
      obtain ⟨a2, c2, rfl, _, _⟩ := own_slice R2.out
      go_wp2_with fail
      refine (sequence_any GZ.out (HS.out.keep UZ.out) (HA.out _ UZ.out) HK.out).mono ?_
      rintro en z2 ⟨v3, v4, d2, rfl, hd2, _, r3, r4, u⟩
      have EQ := hid (same_days GP.out.plain HHR.out.plain SAME.out hd2 D1.out)
      have UZ2 := hid (UZ.out.trans u)
      replace R1 := hid (ownsRow_upd R1.out u fun _ _ => id)
      replace R2 := hid (ownsRow_upd R2.out u fun _ _ => id)
      rw [EQ.out.1] at r3
      rw [EQ.out.2] at r4
      have R3 := hid r3; have R4 := hid r4
      obtain ⟨a3, c3, rfl, _, _⟩ := own_slice R3.out
      obtain ⟨a4, c4, rfl, _, _⟩ := own_slice R4.out
      have SW := hid (show ∀ x ∈ seqF hs d1, I64 x from fun x hx => by have h1 := (mem_seq HHR.out.plain d1 x).1 hx; have := marks_small HHR.out.plain ((mem_marksF hs x).2 h1); have := HHR.out.few; unfold I64; omega)
      have EW := hid (show ∀ x ∈ endsF hs d1, I64 x from fun x hx => ends_i64 HHR.out.plain HHR.out.few d1 x hx)
      clear hd2 r3 r4 u m0 m1 m2
      go_wp2_with fail
      refine (ints8_any _ _ (seqF hs d1) (seqF hs d1) (· < z2.heap.size) (· < z2.heap.size) _ (kInts.mono (ints_rep R1.out SW.out) fun g hg => hg.2) (kInts.mono (ints_rep R3.out SW.out) fun g hg => hg.2) (fun _ h => h) (fun _ h => h)).mono ?_
      rintro en z3 ⟨rfl, u⟩
      rw [decide_eq_true rfl]
      have UZ3 := hid (UZ2.out.trans u)
      replace R2 := hid (ownsRow_upd R2.out u fun _ _ => id)
      replace R4 := hid (ownsRow_upd R4.out u fun _ _ => id)
      clear u
      go_wp2_with fail
      refine (ints8_any _ _ (endsF hs d1) (endsF hs d1) (· < z3.heap.size) (· < z3.heap.size) _ (kInts.mono (ints_rep R2.out EW.out) fun g hg => hg.2) (kInts.mono (ints_rep R4.out EW.out) fun g hg => hg.2) (fun _ h => h) (fun _ h => h)).mono ?_
      rintro en z4 ⟨rfl, u⟩
      rw [decide_eq_true rfl]
      have UZ4 := hid (UZ3.out.trans u)
      clear u
      go_wp2_with fail
      go_ret
      exact ⟨rfl, U.out.trans UZ4.out⟩
    have hlgi : (gl : Int) < N := by omega
    have n1 : (N : Int) - 1 ≤ 100 := by omega
    have n0 : (0 : Int) ≤ (N : Int) - 1 := by omega
    go_wp2_with fail
    go_loopg [11] N (fun gg s11 wi => ∃ j : Nat, j ≤ N ∧ gg = N - j ∧ s11 = .int .i64 ((N : Int) - 1 - j) ∧ ∃ O3, HPre wi O3 Or bg r (addTo rdF R g (backL hs) j) R ∧ (∀ i, O3 i → Og i ∨ x5.heap.size ≤ i) ∧ Upd Og x5 wi)
    case atStart => exact ⟨0, Nat.zero_le _, rfl, by go_num, O2, GP.out, HO2.out, UP.out⟩
    case round =>
      obtain ⟨j, hj, hg2, rfl, O3, hpre, hO3, u⟩ := hrel
      have HG2 := hid hg2; have GQ := hid hpre; have HO3 := hid hO3; have UQ := hid u
      have HHI := hid (HH.out.upd u DIS.out (fun j hj => HG0.out.apart j hj) fun j hj => (HG0.out.his.lt j hj).1)
      clear hg2 hpre hO3 u
      by_cases hjn : j < N
      case neg =>
        as_aux_lemma =>
        obtain rfl : j = N := by omega
        have e1 : (j : Int) - 1 - j = -1 := by omega
        rw [e1]
        have ALL := hid (show addTo rdF R g (backL hs) j = addAll rdF R g (backL hs) by unfold addTo; rw [List.take_of_length_le (by rw [BL.out]; exact Nat.le_refl _)])
        have SUB2 := hid (addTo_sub (rd := rdF) (R := R) SUB.out BIN.out j)
        have MORE := hid (show k + 1 ≤ (addTo rdF R g (backL hs) j).length by
          rw [ALL.out]
          rcases back_round (rd := rdF) (R := R) HH.out.plain GP.out.plain RL.out with q | q
          · have := KG.out; omega
          · have := HNH.out; have := HGL.out; omega)
        go_wp2_with fail
        go_roundg (j - (k + 1))
        case measure => have := HG.out; omega
        case rel => exact ⟨k + 1, by omega, rfl, by go_num, _, O3, MORE.out, SUB2.out, GQ.out, HO3.out, UQ.out⟩
      as_aux_lemma =>
      obtain ⟨i, hi⟩ : ∃ i, N - 1 - j = i := ⟨_, rfl⟩
      have hiN : i < N := by omega
      have e1 : (N : Int) - 1 - j = (i : Int) := by omega
      rw [e1]
      have hii : (i : Int) < N := by omega
      have hi100 : (i : Int) ≤ 100 := by omega
      have hi0 : (0 : Int) ≤ i := by omega
      have hiL : i < (marksF hs).length := by rw [HN.out]; exact hiN
      have hjL : j < (backL hs).length := by rw [BL.out]; exact hjn
      obtain ⟨ga, oa, rfl, hcell⟩ := CELL.out _ UQ.out (by omega)
      have c0 := hcell i hiL
      have MM := hid (MI.out _ (List.getElem_mem hiL))
      have SGE := hid (show (backL hs)[j] = (signedM hs (marksF hs)[i]).1 by
        have e := backL_get (h := hs) hjL (by rw [HN.out]; omega)
        have e3 : (marksF hs).length - 1 - j = i := by rw [HN.out]; exact hi
        rw [e]
        simp only [e3])
      have SSM := hid (BS.out _ (List.getElem_mem hjL))
      have NEXT := hid (addTo_succ (rd := rdF) (R := R) (h := g) hjL)
      rw [SGE.out] at SSM NEXT
      obtain ⟨m, hm⟩ : ∃ m, (marksF hs)[i] = m := ⟨_, rfl⟩
      rw [hm] at c0 MM SSM NEXT
      clear hcell hm
      go_wp2_with fail
      refine (hsigned_any HHI.out.his m MM.out.1).mono ?_
      rintro en y3 ⟨rfl, u⟩
      obtain ⟨sg, hsg⟩ : ∃ sg, (signedM hs m).1 = sg := ⟨_, rfl⟩
      obtain ⟨bb, hbb⟩ : ∃ bb, (signedM hs m).2 = bb := ⟨_, rfl⟩
      rw [hsg] at SSM NEXT ⊢
      rw [hbb]
      obtain ⟨y4, hy4⟩ : ∃ y4, y4 = y3.alloc (.cells #[.int .i64 sg.key, .string ⟨sg.text.toArray⟩, .int .i64 sg.mark] 49 (0, 0)) := ⟨_, rfl⟩
      have u4 : Upd (fun _ => False) y3 y4 := by rw [hy4]; exact (Upd.refl _ _).alloc _
      have hb4 : y4.heap[y3.heap.size]? = some (.cells #[.int .i64 sg.key, .string ⟨sg.text.toArray⟩, .int .i64 sg.mark] 49 (0, 0)) := by rw [hy4]; exact heap_alloc_new
      obtain ⟨k0, k1, k2⟩ := cells3s hb4
      have GQ4 := hid (GQ.out.keep (u.trans u4))
      have UQ4 := hid (UQ.out.trans ((u.trans u4).mono fun _ q => q.elim))
      have Y4 := hid hy4
      have SZ4 := hid (show wr.heap.size ≤ y4.heap.size from (u.trans u4).size)
      have X5I := hid UQ.out.size
      clear hsg hbb hy4 u u4 hb4 c0
      unfold sgV
      go_upto_region 18 with (fail)
      rw [← Y4.out]
      clear Y4
      go_wp2_with fail
      refine (add_any (sg_pre GQ4.out SSM.out)).mono ?_
      rintro en y5 ⟨rfl, O4, q1, q2, q3⟩
      have G5 := hid (GQ4.out.grown q3 q1 (GQ4.out.plain.add sg) q2)
      have HO4 := hid (show ∀ i, O4 i → Og i ∨ x5.heap.size ≤ i from fun i hi => (q2 i hi).elim (HO3.out i) fun z => .inr (by have := SZ4.out; have := X5I.out; omega))
      have UQ5 := hid (show Upd Og x5 y5 from UQ4.out.comp q3 fun i hi e => (HO3.out i e).resolve_right (by omega))
      rw [← NEXT.out] at G5
      have e2 : (i : Int) - 1 = (N : Int) - 1 - ((j + 1 : Nat) : Int) := by omega
      have e3 : IntKind.i64.wrap ((i : Int) - 1) = (N : Int) - 1 - ((j + 1 : Nat) : Int) := by rw [IntWalk.i64_in _ (by omega)]; exact e2
      clear q1 q2 q3 k0 k1 k2
      go_wp2_with fail
      go_roundg (N - (j + 1))
      case measure => have := HG2.out; omega
      case rel => exact ⟨j + 1, by omega, rfl, by first | go_num | (congr 1), O4, G5.out, HO4.out, UQ5.out⟩
theorem came_card (cs : Array Value) (s : Stp) (v : Value) (l : List Po) (w : World) (E : Env w) (hu : UsesIn w) (hz : 6 ≤ w.heap.size) (h0 : kStp.rep (· < w.heap.size) w cs.toList s) (h1 : kPos.rep (· < w.heap.size) w [v] l) : Calls Tryz.prog 8 #[.agg cs, v] w fun e w' => e = .returned (.bool true) ∧ Below w.heap.size w w' := by
  obtain ⟨ak, ck, e, hst⟩ := stp_open h0
  obtain rfl : cs = #[.slice ak s.keys.length ck, .int .i64 s.liars, .int .i64 s.seed] := by
    have := congrArg List.toArray e
    simpa using this
  exact (came_walk v l w E hu hz hst h1).mono fun _ _ ⟨a, u⟩ => ⟨a, u.below (Nat.le_refl _) fun _ q => q.elim⟩
end Go.Proofs.YtjkmalddfoemhaaGreatDoor
