/- Walks: OrderKnows. -/
import Derived.Test.YtjkmalddfoemhaaGreatDoorRm
import Derived.Test.YtjkmalddfoemhaaGreatDoorOrSmall
import Derived.Test.YtjkmalddfoemhaaGreatDoorOrPlay
import Derived.Test.YtjkmalddfoemhaaGreatDoorOrI
import Derived.BigRegion
import Derived.BigQuiet
import Derived.Deep.QuietTactic
namespace Go.Proofs.YtjkmalddfoemhaaGreatDoor
open Go.RowKit Go.Deep

theorem int_index {g o n c k : Nat} (hk : k < n) (_ : n ≤ c) (_ : c ≤ 9223372036854775807) (w : World) : (Instr.indexAt 30 (.slice (some ⟨g, o, none⟩) n c) (.int .i64 k)).run Tryz.prog w = .ok (.pointer (some ⟨g, o + k, none⟩)) w := by
  have hki : (k : Int) < n := by omega
  unfold Instr.indexAt
  go_simp
theorem past_nd {R : Rg} {hs : Hs} (H : His rdF R hs) (m : Int) : (pastF hs m).Nodup := (past_nodup H m).imp fun h e => by subst e; exact absurd h (Int.lt_irrefl _)
theorem known_mem {hs : Hs} {days : List (Int × Int)} {k : Nat} (hk : k < days.length) {kn kn2 : List Int} (h1 : ∀ x, x ∈ kn ↔ ∃ d ∈ days.take k, x ∈ pastF hs d.1) (h2 : ∀ x, x ∈ kn2 ↔ x ∈ kn ∨ x ∈ pastF hs days[k].1) : ∀ x, x ∈ kn2 ↔ ∃ d ∈ days.take (k + 1), x ∈ pastF hs d.1 := fun x => by
  rw [h2, h1, List.take_succ_eq_append_getElem hk]
  constructor
  · rintro (⟨d, hd, hx⟩ | hx)
    · exact ⟨d, List.mem_append.2 (.inl hd), hx⟩
    · exact ⟨_, List.mem_append.2 (.inr (List.mem_singleton.2 rfl)), hx⟩
  · rintro ⟨d, hd, hx⟩
    rcases List.mem_append.1 hd with q | q
    · exact .inl ⟨d, q, hx⟩
    · rw [List.mem_singleton.1 q] at hx; exact .inr hx
set_option maxRecDepth 100000 in
set_option maxHeartbeats 16000000 in
theorem knows_walk {s : Stp} {ak : Option Addr} {ck : Nat} (v : Value) (l : List Po) (w : World) (E : Env w) (hu : UsesIn w) (hz : 6 ≤ w.heap.size) (hst : StpAt w (· < w.heap.size) s ak ck) (h : kPos.rep (· < w.heap.size) w [v] l) : Calls Tryz.prog 7 #[stpV s ak ck, v] w fun e w' => e = .returned (.bool true) ∧ Upd (fun _ => False) w w' := by
  have HE := hid E; have HU := hid hu; have HZ := hid hz
  obtain ⟨av, cv, rfl, _, hcv, _⟩ := slice_open h
  obtain ⟨W1, hW1⟩ : ∃ W1, W1 = w.alloc (.cells #[.slice ak s.keys.length ck, .int .i64 s.liars, .int .i64 s.seed] 60 (0, 0)) := ⟨_, rfl⟩
  have u1 : Upd (fun _ => False) w W1 := by rw [hW1]; exact (Upd.refl _ _).alloc _
  have HB := hid (show W1.heap[w.heap.size]? = some (.cells #[.slice ak s.keys.length ck, .int .i64 s.liars, .int .i64 s.seed] 60 (0, 0)) by rw [hW1]; exact heap_alloc_new)
  have U := hid u1; have HW := hid hW1
  have HS := hid (hst.keep u1)
  have HP := hid (kPos.mono (kPos.keep h (Same.of_upd u1 fun _ _ => id)) fun g hg => (Nat.lt_of_lt_of_le hg u1.size : g < W1.heap.size))
  obtain ⟨p, hp⟩ : ∃ p, w.heap.size = p := ⟨_, rfl⟩
  rw [hp] at HB
  have HPP := hid hp
  have HA := hid (fun (y : World) (u : Upd (fun _ => False) W1 y) g (q : g < w.heap.size) => (show g < y.heap.size from Nat.lt_of_lt_of_le q (Nat.le_trans u1.size u.size)))
  clear E hu hz h hst hW1 u1 hp
  unfold stpV
  go_enter Tryz.func7, Tryz.ntmps7
  go_upto_region 1 with (fail)
  rw [← HW.out]
  try rw [HPP.out]
  clear HW
  go_wp2_with fail
  refine (small33_any W1 (HE.out.keep0 U.out) (HU.out.keep U.out) (Nat.le_trans HZ.out U.out.size)).mono ?_
  rintro en x0 ⟨rfl, u⟩
  have U0 := hid u
  replace HP := hid (kPos.mono (kPos.keep HP.out (Same.of_upd u fun _ _ => id)) fun g hg => (Nat.lt_of_lt_of_le hg u.size : g < x0.heap.size))
  have HB0 := hid ((u.block _ (heap_lt HB.out) id).trans HB.out)
  obtain ⟨m0, m1, m2⟩ := cells3s HB0.out
  clear u
  go_wp2_with fail
  refine (few33_any (HS.out.keep U0.out) _ l 24 HP.out (fun _ q => q) (by decide)).mono ?_
  rintro en x1 ⟨rfl, u⟩
  clear m0 m1 m2 HB0
  by_cases hf : Few33 s l 24
  case neg =>
    rw [decide_eq_false hf]
    have U1 := hid (U0.out.trans u)
    clear u
    go_wp2_with fail
    go_ret
    exact ⟨rfl, U.out.trans U1.out⟩
  rw [decide_eq_true hf]
  replace U0 := hid (U0.out.trans u)
  replace HP := hid (kPos.mono (kPos.keep HP.out (Same.of_upd u fun _ _ => id)) fun g hg => (Nat.lt_of_lt_of_le hg u.size : g < x1.heap.size))
  have HF := hid hf.2
  have HK := hid (show s.keys.length ≤ 1000 from Nat.le_trans hf.1 (by decide))
  clear u hf
  go_wp2_with fail
  refine (play_any _ l _ (HE.out.keep0 (U.out.trans U0.out)) (HU.out.keep (U.out.trans U0.out)) HP.out (by have := HF.out.1; omega) ⟨Nat.le_refl _, HF.out.2⟩ (Nat.le_trans HZ.out (U.out.trans U0.out).size)).mono ?_
  rintro en x2 ⟨r, vs, b, O, Or, rfl, PA⟩
  obtain ⟨hs, hhs⟩ : ∃ hs, playF l = hs := ⟨_, rfl⟩
  obtain ⟨R, hR⟩ : ∃ R, (signedF l).1 = R := ⟨_, rfl⟩
  obtain ⟨sl, hsl⟩ : ∃ sl, (signedF l).2 = sl := ⟨_, rfl⟩
  obtain ⟨aS, cs, e9, _, _⟩ := own_slice PA.sgs
  subst e9
  have HH := hid (show HPre x2 O Or b r hs R by rw [← hhs, ← hR]; exact PA.pre)
  have SS := hid (show ∀ s ∈ sl, SgSmall s by rw [← hsl]; exact PA.small)
  have HO := hid (show ∀ k, O k → W1.heap.size ≤ k from fun k hk => Nat.le_trans U0.out.size (PA.own k hk))
  have FR := hid (show From sl hs by rw [← hhs, ← hsl]; exact all_from _ (fun s q => q) (fun n hn => nomatch hn))
  have UX := hid (U0.out.trans PA.upd)
  have RL := hid (show R.length ≤ 4000 from Nat.le_trans HH.out.few (by decide))
  clear PA hhs hR hsl HF HP U0
  have HB2 := hid ((UX.out.block _ (heap_lt HB.out) id).trans HB.out)
  obtain ⟨m0, m1, m2⟩ := cells3s HB2.out
  go_wp2_with fail
  refine (sequence_any HH.out (HS.out.keep UX.out) (HA.out _ UX.out) HK.out).mono ?_
  rintro en x3 ⟨v1, v2, days, rfl, hd, hdl, r1, r2, u⟩
  have D1 := hid hd; have R1 := hid r1; have R2 := hid r2; have DL := hid hdl
  replace HH := hid (HH.out.keep u)
  replace UX := hid (UX.out.trans u)
  have HB3 := hid ((UX.out.block _ (heap_lt HB.out) id).trans HB.out)
  obtain ⟨a1, c1, rfl, h11, h12⟩ := own_slice r1
  obtain ⟨a2, c2, rfl, h21, h22⟩ := own_slice r2
  have h12 : c1 ≤ 9223372036854775807 := h12
  have h22 : c2 ≤ 9223372036854775807 := h22
  clear m0 m1 m2 hd hdl r1 r2 u HB2 SS FR HO
  obtain ⟨m0, m1, m2⟩ := cells3s HB3.out
  go_wp2_with fail
  refine (days_any HH.out (HS.out.keep UX.out) (HA.out _ UX.out) HK.out).mono ?_
  rintro en x4 ⟨v3, d2, rfl, hd, _, r3, u⟩
  rw [days_of_unique hd D1.out] at r3
  have R3 := hid r3
  replace HH := hid (HH.out.keep u)
  replace UX := hid (UX.out.trans u)
  replace R1 := hid (ownsRow_upd R1.out u fun _ _ => id)
  replace R2 := hid (ownsRow_upd R2.out u fun _ _ => id)
  obtain ⟨a3, c3, rfl, h31, h32⟩ := own_slice r3
  have h32 : c3 ≤ 9223372036854775807 := h32
  clear m0 m1 m2 hd r3 u HB3
  obtain ⟨S, hS⟩ : ∃ S, seqF hs days = S := ⟨_, rfl⟩
  obtain ⟨EE, hEE⟩ : ∃ EE, endsF hs days = EE := ⟨_, rfl⟩
  obtain ⟨n, hn⟩ : ∃ n, S.length = n := ⟨_, rfl⟩
  obtain ⟨nd, hnd⟩ : ∃ nd, days.length = nd := ⟨_, rfl⟩
  have HSQ := hid hS; have HEQ := hid hEE; have HN := hid hn; have HND := hid hnd
  have HLN := hid (show hs.length = n by rw [← hn, ← hS]; exact (seq_len HH.out.plain days).symm)
  have EL := hid (show EE.length = nd by rw [← hEE, ← hnd]; exact endsTo_len hs days days.length)
  rw [hS] at R1 h11 ⊢
  rw [hEE] at R2 h21 ⊢
  rw [hn] at h11 ⊢
  rw [EL.out] at h21 ⊢
  rw [hnd] at h31 ⊢
  have hn60 : n ≤ 60 := by rw [← HLN.out]; exact Nat.le_trans HH.out.plain.len HH.out.few
  have hnd60 : nd ≤ 60 := by rw [← hnd]; exact DL.out.1
  have SN := hid (show S.Nodup by rw [← hS]; exact seq_nodup HH.out.plain days)
  have SMEM := hid (show ∀ x ∈ S, (idxF hs x).isSome from fun x hx => by rw [← hS] at hx; exact (mem_seq HH.out.plain days x).1 hx)
  have MWF := hid (show ∀ x, (idxF hs x).isSome → (Lit.int .i64 x).wf = true from fun x hx => by have := marks_small HH.out.plain ((mem_marksF hs x).2 hx); have := HH.out.few; exact iwf (by omega))
  have SBEF := hid (show ∀ i (hi : i < S.length), ∀ p ∈ pastF hs S[i], 0 ≤ atL S p ∧ atL S p < i from fun i hi p hp => by subst hS; exact seq_before HH.out.plain days hi hp)
  have ENDS := hid (show ∀ d (hd : d < days.length) (he : d < EE.length), EE[d] = ((seqTo hs days (d + 1)).length : Int) ∧ (seqTo hs days (d + 1)).length ≤ S.length ∧ (∀ (h0 : 0 < d), EE[d - 1]'(by omega) ≤ EE[d]) ∧ ∀ p ∈ pastF hs days[d].1, atL S p < EE[d] from fun d hd he => by subst hS; subst hEE; exact ends_ok HH.out.plain days hd he)
  have IX := hid (fun (y : World) (u : Upd (fun _ => False) x4 y) => (show IntRow y (.slice a1 n c1) S from by have q := IntRow.of_own (ownsRow_upd R1.out u fun _ _ => id); rw [HN.out] at q; exact q))
  have IE := hid (fun (y : World) (u : Upd (fun _ => False) x4 y) => (show IntRow y (.slice a2 nd c2) EE from by have q := IntRow.of_own (ownsRow_upd R2.out u fun _ _ => id); rw [EL.out] at q; exact q))
  have CX := hid (fun (y : World) (u : Upd (fun _ => False) x4 y) (hp : 0 < n) => (show ∃ g o, a1 = some ⟨g, o, none⟩ ∧ ∀ i (hi : i < S.length), y.cell? ⟨g, o + i, none⟩ = some (.int .i64 S[i]) from by
    obtain ⟨a, c, e, _, _, h3⟩ := IX.out y u
    obtain ⟨g, o, ea, hel⟩ := h3 (by rw [HN.out]; exact hp)
    injection e with e1 _ _
    exact ⟨g, o, by rw [e1, ea], hel⟩))
  have CE := hid (fun (y : World) (u : Upd (fun _ => False) x4 y) (hp : 0 < nd) => (show ∃ g o, a2 = some ⟨g, o, none⟩ ∧ ∀ i (hi : i < EE.length), y.cell? ⟨g, o + i, none⟩ = some (.int .i64 EE[i]) from by
    obtain ⟨a, c, e, _, _, h3⟩ := IE.out y u
    obtain ⟨g, o, ea, hel⟩ := h3 (by rw [EL.out]; exact hp)
    injection e with e1 _ _
    exact ⟨g, o, by rw [e1, ea], hel⟩))
  have CD := hid (fun (y : World) (u : Upd (fun _ => False) x4 y) (hp : 0 < nd) => (show ∃ g, a3 = some ⟨g, 0, none⟩ ∧ ∀ i (hi : i < days.length), y.cell? ⟨g, i * 2, none⟩ = some (.int .i64 days[i].1) from by
    obtain ⟨g, c, e, _, _, _, _, h3⟩ := DysAt.get (ownsRow_upd R3.out u fun _ _ => id) (show 0 < days.length by rw [HND.out]; exact hp)
    injection e with e1 _ _
    exact ⟨g, e1, fun i hi => (h3 i hi).1⟩))
  clear hS hEE hn hnd R1 R2 R3
  go_wp2_with fail
  refine (hlen_any HH.out.his).mono ?_
  rintro en y1 ⟨rfl, rfl⟩
  rw [HLN.out]
  go_wp2_with fail
  go_loopg [11] n (fun gg s11 wr => ∃ k : Nat, k ≤ n ∧ gg = n - k ∧ s11 = .int .i64 k ∧ Upd (fun _ => False) x4 wr)
  case atStart => exact ⟨0, Nat.zero_le _, rfl, rfl, Upd.refl _ _⟩
  case round =>
    obtain ⟨k, hk, hg, rfl, u⟩ := hrel
    have HG := hid hg; have UP := hid u
    have UC := hid (UX.out.trans u)
    clear hg u
    by_cases hlt : k < n
    case pos =>
      as_aux_lemma =>
      have hlti : (k : Int) < n := by omega
      have hk1 : (k : Int) + 1 ≤ 1000 := by omega
      have hk0 : (0 : Int) ≤ k := by omega
      have hkS : k < S.length := by rw [HN.out]; exact hlt
      obtain ⟨g, oo, rfl, hcell⟩ := CX.out _ UP.out (by omega)
      have c0 := hcell k hkS
      have XM := hid (SMEM.out _ (List.getElem_mem hkS))
      have XB := hid (SBEF.out k hkS)
      have XI := hid (idx_is SN.out hkS)
      have XA := hid (show atL S S[k] = k from atL_is SN.out hkS)
      have CK := hid (fun (y : World) (u : Upd (fun _ => False) wr y) => (show y.cell? ⟨g, oo + k, none⟩ = some (.int .i64 S[k]) from by
        obtain ⟨g', o', e, hc⟩ := CX.out y (UP.out.trans u) (by omega)
        injection e with e
        injection e with e1 e2 _
        subst e1 e2
        exact hc k hkS))
      obtain ⟨X, hX⟩ : ∃ X, S[k] = X := ⟨_, rfl⟩
      rw [hX] at c0 XM XB XI XA CK
      have HBR := hid ((UC.out.block _ (heap_lt HB.out) id).trans HB.out)
      clear hcell hX
      go_upto_region 14 with (fail)
      obtain ⟨Wd, hWd⟩ : ∃ Wd, wr.drew = Wd := ⟨_, rfl⟩
      have UD := hid (show Upd (fun _ => False) wr Wd by rw [← hWd]; exact (Upd.refl _ _).drew)
      have SHOW := hid (fun (y : World) (u : Upd (fun _ => False) wr y) => (show (y.cell? ⟨p, 0, none⟩ = some (.slice ak s.keys.length ck) ∧ y.cell? ⟨p, 1, none⟩ = some (.int .i64 s.liars) ∧ y.cell? ⟨p, 2, none⟩ = some (.int .i64 s.seed)) ∧ y.cell? ⟨g, oo + k, none⟩ = some (.int .i64 X) from ⟨cells3s ((u.block _ (heap_lt HBR.out) id).trans HBR.out), CK.out y u⟩))
      refine wp_region_g (fun y => (y.cell? ⟨p, 0, none⟩ = some (.slice ak s.keys.length ck) ∧ y.cell? ⟨p, 1, none⟩ = some (.int .i64 s.liars) ∧ y.cell? ⟨p, 2, none⟩ = some (.int .i64 s.seed)) ∧ y.cell? ⟨g, oo + k, none⟩ = some (.int .i64 X)) 6 (by kernel_rfl) ?_
      rw [hWd]
      have hS := SHOW.out Wd UD.out
      clear hWd c0
      refine g_take0 (i := 0) rfl (by kernel_rfl) (by kernel_rfl) (by kernel_rfl) (by decide) (fun _ _ _ h => h) (yields_move (by kernel_rfl) _ rfl rfl) (fun _ => hS) ?_
      (try simp only [List.getElem_toArray, List.getElem_cons_zero])
      (try go_frame)
      refine g_take0 (i := 2) rfl (by kernel_rfl) (by kernel_rfl) (by kernel_rfl) (by decide) (fun _ _ _ h => h) (yields_move (by kernel_rfl) _ rfl rfl) (fun _ => hS) ?_
      (try simp only [List.getElem_toArray, List.getElem_cons_zero, List.getElem_cons_succ])
      (try go_frame)
      refine g_take0 (i := 3) rfl (by kernel_rfl) (by kernel_rfl) (by kernel_rfl) (by decide) (fun _ _ _ h => h) (yields_move (by kernel_rfl) _ rfl rfl) (fun _ => hS) ?_
      (try simp only [List.getElem_toArray, List.getElem_cons_zero, List.getElem_cons_succ])
      (try go_frame)
      refine g_take0 (i := 4) rfl (by kernel_rfl) (by kernel_rfl) (by kernel_rfl) (by decide) (fun _ _ _ h => h) (yields_index (by kernel_rfl) _ _ _ rfl rfl rfl (fun w _ => int_index hlt h11 h12 w)) (fun _ => hS) ?_
      (try simp only [List.getElem_toArray, List.getElem_cons_zero, List.getElem_cons_succ])
      (try go_frame)
      refine g_take (i := 5) rfl (by kernel_rfl) (by kernel_rfl) (by kernel_rfl) (by kernel_rfl) (fun _ _ _ h => h) (yields_load (by kernel_rfl) _ _ rfl rfl (fun w hw => int_load0 hw.2)) hS ?_
      (try simp only [List.getElem_toArray, List.getElem_cons_zero, List.getElem_cons_succ])
      (try go_frame)
      refine g_take (i := 1) rfl (by kernel_rfl) (by kernel_rfl) (by kernel_rfl) (by kernel_rfl) (fun _ _ _ h => h) (yields_load (by kernel_rfl) _ _ rfl rfl (fun w hw => stp_load hw.1.1 hw.1.2.1 hw.1.2.2)) hS ?_
      (try simp only [List.getElem_toArray, List.getElem_cons_zero, List.getElem_cons_succ])
      (try go_frame)
      refine g_op (i := 6) (by kernel_rfl) rfl ?_
      go_wp2_with fail
      refine (position_any (HH.out.keep (UP.out.trans UD.out)) (HS.out.keep (UC.out.trans UD.out)) (HA.out _ (UC.out.trans UD.out)) HK.out X).mono ?_
      rintro en y2 ⟨dx, hdx, rfl, u⟩
      rw [days_of_unique hdx D1.out, HSQ.out, XI.out]
      have pm : max (k : Int) 0 = k := by omega
      have pd : decide ((0 : Int) ≤ k) = true := decide_eq_true hk0
      rw [pm, pd]
      have UY := hid (UD.out.trans u)
      clear hdx u hS
      go_wp2_with fail
      try with_reducible refine And.intro (fun h => absurd h (by simp)) ?_
      (try simp only [List.getElem_toArray, List.getElem_cons_zero, List.getElem_cons_succ])
      (try go_frame)
      refine g_take0 (i := 7) rfl (by kernel_rfl) (by kernel_rfl) (by kernel_rfl) (by decide) (fun _ _ _ h => h) (.inl ⟨by kernel_rfl, by (intro w _; go_simp; try with_reducible rfl)⟩) (fun h => absurd h (by simp)) ?_
      (try simp only [List.getElem_toArray, List.getElem_cons_zero, List.getElem_cons_succ])
      (try go_frame)
      refine g_take0 (i := 8) rfl (by kernel_rfl) (by kernel_rfl) (by kernel_rfl) (by decide) (fun _ _ _ h => h) (.inl ⟨by kernel_rfl, by (intro w _; go_simp; try with_reducible rfl)⟩) (fun h => absurd h (by simp)) ?_
      (try simp only [List.getElem_toArray, List.getElem_cons_zero, List.getElem_cons_succ])
      (try go_frame)
      refine g_take0 (i := 9) rfl (by kernel_rfl) (by kernel_rfl) (by kernel_rfl) (by decide) (fun _ _ _ h => h) (.inl ⟨by kernel_rfl, by (intro w _; go_simp; try with_reducible rfl)⟩) (fun h => absurd h (by simp)) ?_
      (try simp only [List.getElem_toArray, List.getElem_cons_zero, List.getElem_cons_succ])
      (try go_frame)
      refine g_take0 (i := 10) rfl (by kernel_rfl) (by kernel_rfl) (by kernel_rfl) (by decide) (fun _ _ _ h => h) (.inl ⟨by kernel_rfl, by (intro w _; go_simp; try with_reducible rfl)⟩) (fun h => absurd h (by simp)) ?_
      (try simp only [List.getElem_toArray, List.getElem_cons_zero, List.getElem_cons_succ])
      (try go_frame)
      refine g_take0 (i := 11) rfl (by kernel_rfl) (by kernel_rfl) (by kernel_rfl) (by decide) (fun _ _ _ h => h) (.inl ⟨by kernel_rfl, by (intro w _; go_simp; try with_reducible rfl)⟩) (fun h => absurd h (by simp)) ?_
      (try simp only [List.getElem_toArray, List.getElem_cons_zero, List.getElem_cons_succ])
      (try go_frame)
      refine g_done (by kernel_rfl) ?_
      have c0 := CK.out _ UY.out
      go_wp2_with fail
      refine (hhas_any (HH.out.keep (UP.out.trans UY.out)).his X (MWF.out X XM.out)).mono ?_
      rintro en y3 ⟨rfl, rfl⟩
      rw [XM.out]
      go_wp2_with fail
      refine (at_any (IX.out _ (UP.out.trans UY.out)) (by rw [HN.out]; omega) X).mono ?_
      rintro en y4 ⟨rfl, rfl⟩
      rw [XA.out]
      go_wp2_with fail
      refine (hpast_any (HH.out.keep (UP.out.trans UY.out)).his X (MWF.out X XM.out)).mono ?_
      rintro en y5 ⟨vp, rfl, ho, u⟩
      have RP := hid ho
      have U5 := hid (UY.out.trans u)
      obtain ⟨ap, cp, rfl, hp1, hp2⟩ := own_slice ho
      have hp2 : cp ≤ 9223372036854775807 := hp2
      obtain ⟨PP, hPP⟩ : ∃ PP, pastF hs X = PP := ⟨_, rfl⟩
      rw [hPP] at RP XB hp1 ⊢
      obtain ⟨m, hm⟩ : ∃ m, PP.length = m := ⟨_, rfl⟩
      have HM := hid hm
      have PM60 := hid (show m ≤ 60 by rw [← hm, ← hPP]; exact Nat.le_trans (nodup_sub_len (past_nd HH.out.plain X) fun x hx => (mem_marksF hs x).2 (past_has HH.out.plain hx)) (by rw [marksF_len, HLN.out]; exact hn60))
      rw [hm] at hp1 ⊢
      have hm60 := PM60.out
      have CP := hid (fun (y : World) (u : Upd (fun _ => False) y5 y) (hp : 0 < m) => (show ∃ g o, ap = some ⟨g, o, none⟩ ∧ ∀ i (hi : i < PP.length), y.cell? ⟨g, o + i, none⟩ = some (.int .i64 PP[i]) from by
        obtain ⟨a, c, e, _, _, h3⟩ := IntRow.of_own (ownsRow_upd RP.out u fun _ _ => id)
        obtain ⟨g, o, ea, hel⟩ := h3 (by rw [HM.out]; exact hp)
        injection e with e1 _ _
        exact ⟨g, o, by rw [e1, ea], hel⟩))
      clear ho u hPP hm c0 RP
      go_wp2_with fail
      go_loopg [15] m (fun gg s15 wi => ∃ j : Nat, j ≤ m ∧ gg = m - j ∧ s15 = .int .i64 j ∧ Upd (fun _ => False) y5 wi)
      case atStart => exact ⟨0, Nat.zero_le _, rfl, rfl, Upd.refl _ _⟩
      case round =>
        obtain ⟨j, hj, hg2, rfl, u⟩ := hrel
        have HG2 := hid hg2; have UJ := hid u
        have UWJ := hid (show Upd (fun _ => False) x4 wr from (UP.out.trans U5.out).trans u)
        clear hg2 u
        by_cases hjm : j < m
        case neg =>
          as_aux_lemma =>
          have hjmi : ¬ (j : Int) < m := by omega
          go_wp2_with fail
          go_roundg (n - (k + 1))
          case measure => have := HG.out; omega
          case rel => exact ⟨k + 1, by omega, rfl, by go_num, UWJ.out⟩
        as_aux_lemma =>
        have hjmi : (j : Int) < m := by omega
        have hj1 : (j : Int) + 1 ≤ 1000 := by omega
        have hjP : j < PP.length := by rw [HM.out]; exact hjm
        obtain ⟨gp, op, rfl, hcp⟩ := CP.out _ UJ.out (by omega)
        have d0 := hcp j hjP
        have PB := hid (XB.out _ (List.getElem_mem hjP))
        obtain ⟨q, hq⟩ : ∃ q, PP[j] = q := ⟨_, rfl⟩
        rw [hq] at d0 PB
        clear hcp hq
        go_wp2_with fail
        refine (at_any (IX.out _ UWJ.out) (by rw [HN.out]; omega) q).mono ?_
        rintro en y6 ⟨rfl, rfl⟩
        obtain ⟨z, hz⟩ : ∃ z, atL S q = z := ⟨_, rfl⟩
        rw [hz] at PB ⊢
        have e1 : decide (z < 0) = false := decide_eq_false (by have := PB.out.1; omega)
        have e2 : decide ((k : Int) ≤ z) = false := decide_eq_false (by have := PB.out.2; omega)
        clear hz
        go_wp2_with fail
        go_roundg (m - (j + 1))
        case measure => have := HG2.out; omega
        case rel => exact ⟨j + 1, by omega, rfl, by go_num, UJ.out⟩
    skip
    have hlti : ¬ (k : Int) < n := by omega
    clear HG SBEF CX
    obtain ⟨B0, hB0⟩ : ∃ B0, wr.heap.size = B0 := ⟨_, rfl⟩
    have XB0 := hid (show x4.heap.size ≤ B0 by rw [← hB0]; exact UP.out.size)
    have HB0 := hid hB0
    clear hB0
    go_wp2_with fail
    go_loopg [17, 18] nd (fun gg s17 s18 wq => ∃ d : Nat, d ≤ nd ∧ gg = nd - d ∧ s18 = .int .i64 d ∧ ∃ kn : List Int, kn.Nodup ∧ (∀ x, x ∈ kn ↔ ∃ e ∈ days.take d, x ∈ pastF hs e.1) ∧ wq.ownsRow B0 3 1 s17 kn.length (kn.map fun x => .int .i64 x) ∧ B0 ≤ wq.heap.size ∧ Upd (fun _ => False) x4 wq)
    case atStart => exact ⟨0, Nat.zero_le _, rfl, rfl, [], List.nodup_nil, fun x => ⟨fun h => (nomatch h), fun ⟨e, he, _⟩ => (nomatch he)⟩, World.ownsRow_nil _ _ _ _, by rw [HB0.out]; exact Nat.le_refl _, UP.out⟩
    case round =>
      obtain ⟨d, hd, hg, rfl, kn, hkn, hkm, hrow, hBq, u⟩ := hrel
      have HG := hid hg; have KN := hid hkn; have KM := hid hkm; have ROW := hid hrow; have UXQ := hid u; have BQ := hid hBq
      obtain ⟨a7, c7, rfl, h71, h72⟩ := own_slice hrow
      have h72 : c7 ≤ 9223372036854775807 := h72
      obtain ⟨K0, hK0⟩ : ∃ K0 : Nat → Prop, (fun g => (Value.slice a7 kn.length c7).ownBlock = some g) = K0 := ⟨_, rfl⟩
      have KB := hid (show ∀ g, K0 g → B0 ≤ g ∧ g < wr.heap.size by rw [← hK0]; exact fun g hg => own_lt hrow g hg)
      have AP0 := hid (show ∀ g, (Value.slice a7 kn.length c7).ownBlock = some g → K0 g by rw [← hK0]; exact fun g hg => hg)
      clear hg hkn hkm hrow u hBq hK0
      by_cases hdn : d < nd
      case neg =>
        as_aux_lemma =>
        have hdni : ¬ (d : Int) < nd := by omega
        go_wp2_with fail
        go_ret
        exact ⟨rfl, U.out.trans (UX.out.trans UXQ.out)⟩
      have hdni : (d : Int) < nd := by omega
      have hd1 : (d : Int) + 1 ≤ 1000 := by omega
      have hdD : d < days.length := by rw [HND.out]; exact hdn
      have hdE : d < EE.length := by rw [EL.out]; exact hdn
      obtain ⟨ge, oe, rfl, hce⟩ := CE.out _ UXQ.out (by omega)
      obtain ⟨gd, rfl, hcd⟩ := CD.out _ UXQ.out (by omega)
      have EN := hid (ENDS.out d hdD hdE)
      have DW := hid (DL.out.2 _ (List.getElem_mem hdD))
      have KNL := hid (fun (kn2 : List Int) (h : ∀ x, x ∈ kn2 ↔ x ∈ kn ∨ x ∈ pastF hs days[d].1) (hn2 : kn2.Nodup) => (show (kn2.length : Int) = EE[d] from by
        rw [EN.out.1]
        exact congrArg Int.ofNat (known_len HH.out.plain days (k := d + 1) (by omega) hn2 (known_mem hdD KM.out h))))
      have KLT := hid (fun (kn2 : List Int) (h : ∀ x ∈ kn2, x ∈ kn ∨ x ∈ pastF hs days[d].1) (hn2 : kn2.Nodup) => (show kn2.length ≤ 60 from Nat.le_trans (nodup_sub_len hn2 fun x hx => (mem_marksF hs x).2 ((h x hx).elim (fun q => by obtain ⟨e, _, he⟩ := (KM.out x).1 q; exact past_has HH.out.plain he) fun q => past_has HH.out.plain q)) (by rw [marksF_len, HLN.out]; exact hn60)))
      have KM2 := hid (fun (kn2 : List Int) (h : ∀ x, x ∈ kn2 ↔ x ∈ kn ∨ x ∈ pastF hs days[d].1) => known_mem hdD KM.out h)
      have e0 := hce d hdE
      have ep := fun (h0 : 0 < d) => hce (d - 1) (by omega)
      have dd := hcd d hdD
      have CEK := hid (fun (y : World) (u : Upd (fun _ => False) x4 y) => (show y.cell? ⟨ge, oe + d, none⟩ = some (.int .i64 EE[d]) from by
        obtain ⟨g', o', e, hc⟩ := CE.out y u (by omega)
        injection e with e
        injection e with e1 e2 _
        subst e1 e2
        exact hc d hdE))
      have CDK := hid (fun (y : World) (u : Upd (fun _ => False) x4 y) => (show y.cell? ⟨gd, d * 2, none⟩ = some (.int .i64 days[d].1) from by
        obtain ⟨g', e, hc⟩ := CD.out y u (by omega)
        injection e with e
        injection e with e1 _ _
        subst e1
        exact hc d hdD))
      obtain ⟨z, hz⟩ : ∃ z, EE[d] = z := ⟨_, rfl⟩
      have Z0 := hid (show 0 ≤ z ∧ z ≤ n from by
        have h1 := EN.out.1; have h2 := EN.out.2.1
        rw [hz] at h1; rw [HN.out] at h2; omega)
      have ZP := hid (fun (h0 : 0 < d) => (show EE[d - 1]'(by omega) ≤ z from by rw [← hz]; exact EN.out.2.2.1 h0))
      have ZA := hid (show ∀ p ∈ pastF hs days[d].1, atL S p < z from by rw [← hz]; exact EN.out.2.2.2)
      rw [hz] at KNL e0 CEK
      clear hz
      obtain ⟨PP, hPP⟩ : ∃ PP, pastF hs days[d].1 = PP := ⟨_, rfl⟩
      have HPP := hid hPP
      obtain ⟨x, hx⟩ : ∃ x, days[d].1 = x := ⟨_, rfl⟩
      rw [hPP] at KNL KLT KM2 ZA
      rw [hx] at HPP dd DW CDK
      clear hx hce hcd EN hPP
      have f1 : decide (z < 0) = false := decide_eq_false (by have := Z0.out.1; omega)
      have f2 : decide ((n : Int) < z) = false := decide_eq_false (by have := Z0.out.2; omega)
      go_upto_region 28 with (fail)
      go_cut [158] (fun s wx => s = .bool false ∧ Upd (fun _ => False) wr wx)
      case first =>
        by_cases h0 : 0 < d
        case neg =>
          have h0i : ¬ (0 : Int) < d := by omega
          have f3 : decide ((0 : Int) < (d : Int)) = false := decide_eq_false h0i
          go_region
          all_goals (go_wp2_with fail; go_meet; exact ⟨rfl, (Upd.refl _ _).drewN _⟩)
        have h0i : (0 : Int) < d := by omega
        have f3 : decide ((0 : Int) < (d : Int)) = true := decide_eq_true h0i
        obtain ⟨dp, hdp⟩ : ∃ dp, d - 1 = dp := ⟨_, rfl⟩
        have ep := ep h0
        have zp := ZP.out h0
        simp only [hdp] at ep zp
        have g1 : IntKind.i64.wrap ((d : Int) - 1) = (dp : Int) := by rw [IntWalk.i64_in _ (by omega)]; omega
        have g2 : max (dp : Int) 0 = dp := by omega
        have hdpi : (dp : Int) < nd := by omega
        have hdp0 : (0 : Int) ≤ dp := by omega
        obtain ⟨zz, hzz⟩ : ∃ zz, EE[dp]'(by rw [EL.out]; omega) = zz := ⟨_, rfl⟩
        rw [hzz] at ep zp
        have f4 : decide (z < zz) = false := decide_eq_false (by omega)
        go_region
        all_goals (go_wp2_with fail; go_meet; exact ⟨rfl, (Upd.refl _ _).drewN _⟩)
      case rest =>
        obtain ⟨rfl, UW⟩ := hcut
        have UW := hid UW
        have UXW := hid (UXQ.out.trans UW.out)
        have c0 := CDK.out _ UXW.out
        have ROWc := hid (ownsRow_upd ROW.out UW.out fun _ _ => id)
        clear f1 f2 e0 dd ep
        go_wp2_with fail
        refine (hpast_any (HH.out.keep UXW.out).his x DW.out).mono ?_
        rintro en y5 ⟨vp, rfl, ho, u⟩
        rw [HPP.out] at ho
        have RP := hid ho
        have U5 := hid (UW.out.trans u)
        have ROW5 := hid (ownsRow_upd ROWc.out u fun _ _ => id)
        have SZ5 := hid (show B0 ≤ y5.heap.size ∧ wr.heap.size ≤ y5.heap.size from ⟨Nat.le_trans BQ.out U5.out.size, U5.out.size⟩)
        have PLT := hid (show ∀ g, vp.ownBlock = some g → ¬ K0 g from fun g hg hk => by have h1 := (own_lt ho g hg).1; have h2 := (KB.out g hk).2; have := UW.out.size; omega)
        have UXK := hid (fun (y : World) (v : Upd K0 y5 y) => (show Upd (fun _ => False) x4 y from (UXW.out.trans u).comp v fun i hi e => by have h1 := (KB.out i e).1; have h2 := XB0.out; omega))
        obtain ⟨ap, cp, rfl, hp1, hp2⟩ := own_slice ho
        have hp2 : cp ≤ 9223372036854775807 := hp2
        obtain ⟨m, hm⟩ : ∃ m, PP.length = m := ⟨_, rfl⟩
        have HM := hid hm
        have PM60 := hid (show m ≤ 60 by rw [← hm, ← HPP.out]; exact Nat.le_trans (nodup_sub_len (past_nd HH.out.plain x) fun y hy => (mem_marksF hs y).2 (past_has HH.out.plain hy)) (by rw [marksF_len, HLN.out]; exact hn60))
        rw [hm] at hp1 ⊢
        have hm60 := PM60.out
        have CP := hid (fun (y : World) (u : Upd K0 y5 y) (hp : 0 < m) => (show ∃ g o, ap = some ⟨g, o, none⟩ ∧ ∀ i (hi : i < PP.length), y.cell? ⟨g, o + i, none⟩ = some (.int .i64 PP[i]) from by
          obtain ⟨a, c, e, _, _, h3⟩ := IntRow.of_own (ownsRow_upd RP.out u PLT.out)
          obtain ⟨g, o, ea, hel⟩ := h3 (by rw [HM.out]; exact hp)
          injection e with e1 _ _
          exact ⟨g, o, by rw [e1, ea], hel⟩))
        clear ho u hm c0 RP ROWc
        go_wp2_with fail
        go_loopg [17, 20] m (fun gg s17 s20 wi => ∃ j : Nat, j ≤ m ∧ gg = m - j ∧ s20 = .int .i64 j ∧ ∃ kn2 : List Int, kn2.Nodup ∧ (∀ y, y ∈ kn2 ↔ y ∈ kn ∨ y ∈ PP.take j) ∧ wi.ownsRow B0 3 1 s17 kn2.length (kn2.map fun x => .int .i64 x) ∧ (∀ g, s17.ownBlock = some g → K0 g ∨ y5.heap.size ≤ g) ∧ Upd K0 y5 wi)
        case atStart => exact ⟨0, Nat.zero_le _, rfl, rfl, kn, KN.out, fun y => by simp, ROW5.out, fun g hg => .inl (AP0.out g hg), Upd.refl _ _⟩
        case round =>
          obtain ⟨j, hj, hg2, rfl, kn2, hk2, hm2, hr2, hap, u⟩ := hrel
          have HG2 := hid hg2; have KN2 := hid hk2; have HM2 := hid hm2; have R2 := hid hr2; have UJ := hid u; have APJ := hid hap
          have UXJ := hid (UXK.out _ u)
          have L60 := hid (KLT.out kn2 (fun y hy => ((hm2 y).1 hy).imp id fun q => List.mem_of_mem_take q) hk2)
          have CEJ := hid (CEK.out _ UXJ.out)
          obtain ⟨a17, c17, rfl, h171, h172⟩ := own_slice hr2
          have h172 : c17 ≤ 9223372036854775807 := h172
          clear hg2 hk2 hm2 hr2 u hap ROW5
          by_cases hjm : j < m
          case neg =>
            as_aux_lemma =>
            have hjmi : ¬ (j : Int) < m := by omega
            have TK := hid (show ∀ y, y ∈ kn2 ↔ y ∈ kn ∨ y ∈ PP from fun y => by rw [HM2.out y, List.take_of_length_le (by rw [HM.out]; omega)])
            have LZ := hid (KNL.out kn2 TK.out KN2.out)
            have e0 := CEJ.out
            have d5 : ((kn2.length : Int) == z) = true := beq_iff_eq.2 LZ.out
            have d6 : ((kn2.length : Int) != z) = false := by simp [LZ.out]
            go_wp2_with fail
            go_roundg (nd - (d + 1))
            case measure => have := HG.out; omega
            case rel => exact ⟨d + 1, by omega, rfl, by go_num, kn2, KN2.out, KM2.out kn2 TK.out, R2.out, Nat.le_trans SZ5.out.1 UJ.out.size, UXJ.out⟩
          have hjmi : (j : Int) < m := by omega
          have hj1 : (j : Int) + 1 ≤ 1000 := by omega
          have hjP : j < PP.length := by rw [HM.out]; exact hjm
          obtain ⟨gp, op, rfl, hcp⟩ := CP.out _ UJ.out (by omega)
          have d0 := hcp j hjP
          have QP := hid (show PP[j] ∈ PP from List.getElem_mem hjP)
          have TKJ := hid (show ∀ y, y ∈ PP.take (j + 1) ↔ y ∈ PP.take j ∨ y = PP[j] from fun y => by rw [List.take_succ_eq_append_getElem hjP, List.mem_append, List.mem_singleton])
          have CPJ := hid (fun (y : World) (u : Upd K0 y5 y) => (show y.cell? ⟨gp, op + j, none⟩ = some (.int .i64 PP[j]) from by
            obtain ⟨g', o', e, hc⟩ := CP.out y u (by omega)
            injection e with e
            injection e with e1 e2 _
            subst e1 e2
            exact hc j hjP))
          obtain ⟨q, hq⟩ : ∃ q, PP[j] = q := ⟨_, rfl⟩
          rw [hq] at d0 QP TKJ CPJ
          have ZQ := hid (ZA.out q QP.out)
          clear hcp hq
          go_wp2_with fail
          refine (at_any (IntRow.of_own R2.out) (Nat.le_trans L60.out (by decide)) q).mono ?_
          rintro en y6 ⟨rfl, rfl⟩
          by_cases hin : q ∈ kn2
          case pos =>
            obtain ⟨iv, hiv⟩ : ∃ iv, atL kn2 q = iv := ⟨_, rfl⟩
            have IV := hid (show 0 ≤ iv from by rw [← hiv]; exact (atL_mem KN2.out (k := kn2.length) (by rw [List.take_length]; exact hin)).1)
            have NEW := hid (show ∀ y, y ∈ kn2 ↔ y ∈ kn ∨ y ∈ PP.take (j + 1) from fun y => by
              rw [TKJ.out, HM2.out y]
              constructor
              · exact fun h => h.imp id .inl
              · rintro (h | h | h)
                · exact .inl h
                · exact .inr h
                · subst h; exact (HM2.out y).1 hin)
            rw [hiv]
            have g1 : decide (iv < 0) = false := decide_eq_false (by have := IV.out; omega)
            clear hiv hin d0
            go_upto_region 36 with (fail)
            obtain ⟨Wd, hWd⟩ : ∃ Wd, wr.drew = Wd := ⟨_, rfl⟩
            have UD := hid (show Upd K0 y5 Wd by rw [← hWd]; exact UJ.out.drew)
            have hS := (show Wd.cell? ⟨gp, op + j, none⟩ = some (.int .i64 q) ∧ Wd.cell? ⟨ge, oe + d, none⟩ = some (.int .i64 z) from ⟨CPJ.out Wd UD.out, CEK.out Wd (UXK.out Wd UD.out)⟩)
            refine wp_region_g (fun y => y.cell? ⟨gp, op + j, none⟩ = some (.int .i64 q) ∧ y.cell? ⟨ge, oe + d, none⟩ = some (.int .i64 z)) 10 (by kernel_rfl) ?_
            rw [hWd]
            refine g_take0 (i := 0) rfl (by kernel_rfl) (by kernel_rfl) (by kernel_rfl) (by decide) (fun _ _ _ h => h) (yields_move (by kernel_rfl) _ rfl rfl) (fun _ => hS) ?_
            (try simp only [List.getElem_toArray, List.getElem_cons_zero])
            (try go_frame)
            refine g_take0 (i := 1) rfl (by kernel_rfl) (by kernel_rfl) (by kernel_rfl) (by decide) (fun _ _ _ h => h) (yields_move (by kernel_rfl) _ rfl rfl) (fun _ => hS) ?_
            (try simp only [List.getElem_toArray, List.getElem_cons_zero, List.getElem_cons_succ])
            (try go_frame)
            refine g_take0 (i := 2) rfl (by kernel_rfl) (by kernel_rfl) (by kernel_rfl) (by decide) (fun _ _ _ h => h) (yields_move (by kernel_rfl) _ rfl rfl) (fun _ => hS) ?_
            (try simp only [List.getElem_toArray, List.getElem_cons_zero, List.getElem_cons_succ])
            (try go_frame)
            refine g_take0 (i := 3) rfl (by kernel_rfl) (by kernel_rfl) (by kernel_rfl) (by decide) (fun _ _ _ h => h) (yields_index (by kernel_rfl) _ _ _ rfl rfl rfl (fun w _ => int_index hjm hp1 hp2 w)) (fun _ => hS) ?_
            (try simp only [List.getElem_toArray, List.getElem_cons_zero, List.getElem_cons_succ])
            (try go_frame)
            refine g_takeP [10, 5] (i := 4) rfl (by kernel_rfl) (by kernel_rfl) (by kernel_rfl) (by kernel_rfl) (fun _ _ _ h => h) (yields_load (by kernel_rfl) _ _ rfl rfl (fun w hw => int_load0 hw.1)) hS ?_
            (try simp only [List.getElem_toArray, List.getElem_cons_zero, List.getElem_cons_succ])
            (try go_frame)
            refine g_take0 (i := 6) rfl (by kernel_rfl) (by kernel_rfl) (by kernel_rfl) (by decide) (fun _ _ _ h => h) (yields_move (by kernel_rfl) _ rfl rfl) (fun _ => hS) ?_
            (try simp only [List.getElem_toArray, List.getElem_cons_zero, List.getElem_cons_succ])
            (try go_frame)
            refine g_take0 (i := 7) rfl (by kernel_rfl) (by kernel_rfl) (by kernel_rfl) (by decide) (fun _ _ _ h => h) (yields_move (by kernel_rfl) _ rfl rfl) (fun _ => hS) ?_
            (try simp only [List.getElem_toArray, List.getElem_cons_zero, List.getElem_cons_succ])
            (try go_frame)
            refine g_take0 (i := 8) rfl (by kernel_rfl) (by kernel_rfl) (by kernel_rfl) (by decide) (fun _ _ _ h => h) (yields_index (by kernel_rfl) _ _ _ rfl rfl rfl (fun w _ => int_index hdn h21 h22 w)) (fun _ => hS) ?_
            (try simp only [List.getElem_toArray, List.getElem_cons_zero, List.getElem_cons_succ])
            (try go_frame)
            refine g_take (i := 9) rfl (by kernel_rfl) (by kernel_rfl) (by kernel_rfl) (by kernel_rfl) (fun _ _ _ h => h) (yields_load (by kernel_rfl) _ _ rfl rfl (fun w hw => int_load0 hw.2)) hS ?_
            (try simp only [List.getElem_toArray, List.getElem_cons_zero, List.getElem_cons_succ])
            (try go_frame)
            refine g_op (i := 5) (by kernel_rfl) rfl ?_
            go_wp2_with fail
            refine (at_any (IX.out _ (UXK.out _ UD.out)) (by rw [HN.out]; omega) q).mono ?_
            rintro en y7 ⟨rfl, rfl⟩
            obtain ⟨z2, hz2⟩ : ∃ z2, atL S q = z2 := ⟨_, rfl⟩
            have e9 : decide (z ≤ z2) = false := decide_eq_false (by have := ZQ.out; omega)
            rw [hz2]
            clear hz2
            go_wp2_with fail
            first | (refine ⟨fun _ => hS, ?_⟩) | (refine ⟨hS, ?_⟩)
            (try simp only [List.getElem_toArray, List.getElem_cons_zero, List.getElem_cons_succ])
            (try go_frame)
            refine g_op (i := 10) (by kernel_rfl) rfl ?_
            go_wp2_with fail
            try with_reducible refine And.intro (fun h => absurd h (by simp)) ?_
            refine g_done (by kernel_rfl) ?_
            go_wp2_with fail
            go_roundg (m - (j + 1))
            case measure => have := HG2.out; omega
            case rel => exact ⟨j + 1, by omega, rfl, by go_num, kn2, KN2.out, NEW.out, ownsRow_upd R2.out ((Upd.refl (fun _ => False) _).drew.trans (by rw [hWd]; exact Upd.refl _ _)) fun _ _ => id, APJ.out, UD.out⟩
          have AT := hid (atL_none hin)
          rw [AT.out]
          have g1 : decide ((-1 : Int) < 0) = true := by decide
          obtain ⟨v', w4, r4, o4, u4, n4⟩ := append_one elemI R2.out #[.int .i64 q] rfl (by simp [Value.oneCell']) (by have := L60.out; unfold maxLen; omega) (by have := L60.out; omega) (Nat.le_trans SZ5.out.1 UJ.out.size) 30 (0, 0)
          have O4 := hid o4; have R4 := hid r4
          have U4 := hid (show Upd K0 y5 w4 from UJ.out.comp u4 fun i hi e => (APJ.out i e).resolve_right (by omega))
          have AP4 := hid (show ∀ g, v'.ownBlock = some g → K0 g ∨ y5.heap.size ≤ g from fun g hg => by
            rcases n4 with e | ⟨g', e, hlt'⟩
            · rw [e] at hg; exact APJ.out g hg
            · rw [e] at hg
              cases hg
              exact .inr (by have := UJ.out.size; omega))
          have ND2 := hid (show (kn2 ++ [q]).Nodup from List.nodup_append.2 ⟨KN2.out, (by simp), fun a ha b hb e => by rw [List.mem_singleton.1 hb] at e; exact hin (e ▸ ha)⟩)
          have NEW := hid (show ∀ y, y ∈ kn2 ++ [q] ↔ y ∈ kn ∨ y ∈ PP.take (j + 1) from fun y => by
            rw [TKJ.out, List.mem_append, HM2.out y, List.mem_singleton]
            exact or_assoc)
          replace O4 := hid (show w4.ownsRow B0 3 1 v' (kn2 ++ [q]).length ((kn2 ++ [q]).map fun x => .int .i64 x) from by rw [List.length_append, List.map_append]; exact O4.out)
          obtain ⟨a4, c4, rfl, h41, h42⟩ := own_slice O4.out
          rw [List.length_append] at R4
          replace O4 := hid (show w4.ownsRow B0 3 1 (.slice a4 (kn2.length + 1) c4) (kn2 ++ [q]).length ((kn2 ++ [q]).map fun x => .int .i64 x) from by have z9 := O4.out; rw [List.length_append] at z9 ⊢; exact z9)
          replace AP4 := hid (show ∀ g, (Value.slice a4 (kn2.length + 1) c4).ownBlock = some g → K0 g ∨ y5.heap.size ≤ g from fun g hg => AP4.out g (by rw [List.length_append]; exact hg))
          clear o4 u4 n4 r4 AT
          go_upto_region 36 with (at_builtin; refine wpList_append_run rfl _ _ _ _ rfl rfl rfl R4.out ?_)
          obtain ⟨Wd, hWd⟩ : ∃ Wd, w4.drew = Wd := ⟨_, rfl⟩
          have UD := hid (show Upd K0 y5 Wd by rw [← hWd]; exact U4.out.drew)
          have hS := (show Wd.cell? ⟨gp, op + j, none⟩ = some (.int .i64 q) ∧ Wd.cell? ⟨ge, oe + d, none⟩ = some (.int .i64 z) from ⟨CPJ.out Wd UD.out, CEK.out Wd (UXK.out Wd UD.out)⟩)
          refine wp_region_g (fun y => y.cell? ⟨gp, op + j, none⟩ = some (.int .i64 q) ∧ y.cell? ⟨ge, oe + d, none⟩ = some (.int .i64 z)) 10 (by kernel_rfl) ?_
          rw [hWd]
          refine g_take0 (i := 0) rfl (by kernel_rfl) (by kernel_rfl) (by kernel_rfl) (by decide) (fun _ _ _ h => h) (yields_move (by kernel_rfl) _ rfl rfl) (fun _ => hS) ?_
          (try simp only [List.getElem_toArray, List.getElem_cons_zero])
          (try go_frame)
          refine g_take0 (i := 1) rfl (by kernel_rfl) (by kernel_rfl) (by kernel_rfl) (by decide) (fun _ _ _ h => h) (yields_move (by kernel_rfl) _ rfl rfl) (fun _ => hS) ?_
          (try simp only [List.getElem_toArray, List.getElem_cons_zero, List.getElem_cons_succ])
          (try go_frame)
          refine g_take0 (i := 2) rfl (by kernel_rfl) (by kernel_rfl) (by kernel_rfl) (by decide) (fun _ _ _ h => h) (yields_move (by kernel_rfl) _ rfl rfl) (fun _ => hS) ?_
          (try simp only [List.getElem_toArray, List.getElem_cons_zero, List.getElem_cons_succ])
          (try go_frame)
          refine g_take0 (i := 3) rfl (by kernel_rfl) (by kernel_rfl) (by kernel_rfl) (by decide) (fun _ _ _ h => h) (yields_index (by kernel_rfl) _ _ _ rfl rfl rfl (fun w _ => int_index hjm hp1 hp2 w)) (fun _ => hS) ?_
          (try simp only [List.getElem_toArray, List.getElem_cons_zero, List.getElem_cons_succ])
          (try go_frame)
          refine g_takeP [10, 5] (i := 4) rfl (by kernel_rfl) (by kernel_rfl) (by kernel_rfl) (by kernel_rfl) (fun _ _ _ h => h) (yields_load (by kernel_rfl) _ _ rfl rfl (fun w hw => int_load0 hw.1)) hS ?_
          (try simp only [List.getElem_toArray, List.getElem_cons_zero, List.getElem_cons_succ])
          (try go_frame)
          refine g_take0 (i := 6) rfl (by kernel_rfl) (by kernel_rfl) (by kernel_rfl) (by decide) (fun _ _ _ h => h) (yields_move (by kernel_rfl) _ rfl rfl) (fun _ => hS) ?_
          (try simp only [List.getElem_toArray, List.getElem_cons_zero, List.getElem_cons_succ])
          (try go_frame)
          refine g_take0 (i := 7) rfl (by kernel_rfl) (by kernel_rfl) (by kernel_rfl) (by decide) (fun _ _ _ h => h) (yields_move (by kernel_rfl) _ rfl rfl) (fun _ => hS) ?_
          (try simp only [List.getElem_toArray, List.getElem_cons_zero, List.getElem_cons_succ])
          (try go_frame)
          refine g_take0 (i := 8) rfl (by kernel_rfl) (by kernel_rfl) (by kernel_rfl) (by decide) (fun _ _ _ h => h) (yields_index (by kernel_rfl) _ _ _ rfl rfl rfl (fun w _ => int_index hdn h21 h22 w)) (fun _ => hS) ?_
          (try simp only [List.getElem_toArray, List.getElem_cons_zero, List.getElem_cons_succ])
          (try go_frame)
          refine g_take (i := 9) rfl (by kernel_rfl) (by kernel_rfl) (by kernel_rfl) (by kernel_rfl) (fun _ _ _ h => h) (yields_load (by kernel_rfl) _ _ rfl rfl (fun w hw => int_load0 hw.2)) hS ?_
          (try simp only [List.getElem_toArray, List.getElem_cons_zero, List.getElem_cons_succ])
          (try go_frame)
          refine g_op (i := 5) (by kernel_rfl) rfl ?_
          go_wp2_with fail
          refine (at_any (IX.out _ (UXK.out _ UD.out)) (by rw [HN.out]; omega) q).mono ?_
          rintro en y7 ⟨rfl, rfl⟩
          obtain ⟨z2, hz2⟩ : ∃ z2, atL S q = z2 := ⟨_, rfl⟩
          have e9 : decide (z ≤ z2) = false := decide_eq_false (by have := ZQ.out; omega)
          rw [hz2]
          clear hz2
          go_wp2_with fail
          first | (refine ⟨fun _ => hS, ?_⟩) | (refine ⟨hS, ?_⟩)
          (try simp only [List.getElem_toArray, List.getElem_cons_zero, List.getElem_cons_succ])
          (try go_frame)
          refine g_op (i := 10) (by kernel_rfl) rfl ?_
          go_wp2_with fail
          try with_reducible refine And.intro (fun h => absurd h (by simp)) ?_
          refine g_done (by kernel_rfl) ?_
          go_wp2_with fail
          go_roundg (m - (j + 1))
          case measure => have := HG2.out; omega
          case rel => exact ⟨j + 1, by omega, rfl, by go_num, kn2 ++ [q], ND2.out, NEW.out, ownsRow_upd O4.out ((Upd.refl (fun _ => False) _).drew.trans (by rw [hWd]; exact Upd.refl _ _)) fun _ _ => id, AP4.out, UD.out⟩
theorem knows_card (cs : Array Value) (s : Stp) (v : Value) (l : List Po) (w : World) (E : Env w) (hu : UsesIn w) (hz : 6 ≤ w.heap.size) (h0 : kStp.rep (· < w.heap.size) w cs.toList s) (h1 : kPos.rep (· < w.heap.size) w [v] l) : Calls Tryz.prog 7 #[.agg cs, v] w fun e w' => e = .returned (.bool true) ∧ Below w.heap.size w w' := by
  obtain ⟨ak, ck, e, hst⟩ := stp_open h0
  obtain rfl : cs = #[.slice ak s.keys.length ck, .int .i64 s.liars, .int .i64 s.seed] := by
    have := congrArg List.toArray e
    simpa using this
  exact (knows_walk v l w E hu hz hst h1).mono fun _ _ ⟨a, u⟩ => ⟨a, u.below (Nat.le_refl _) fun _ q => q.elim⟩
end Go.Proofs.YtjkmalddfoemhaaGreatDoor
