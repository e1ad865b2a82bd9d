/- Walks: ForkConvicts. -/
import Derived.Test.YtalhmpggpjbeaaaGreatDoorJ23
import Derived.Test.YtalhmpggpjbeaaaGreatDoorJ24
import Derived.Test.YtalhmpggpjbeaaaGreatDoorJ14
import Derived.Test.YtalhmpggpjbeaaaGreatDoorJ13
namespace Go.Proofs.YtalhmpggpjbeaaaGreatDoor
open Go.RowKit Go.Deep

theorem pr_index {g cap n k : Nat} (hk : k < n) (hn : n ≤ cap) (hc : cap ≤ 9223372036854775807) (w : World) : (Instr.indexAt 83 (.slice (some ⟨g, 0, none⟩) n cap) (.int .i64 k)).run Tryz.prog w = .ok (.pointer (some ⟨g, k * 2, none⟩)) w := by
  have hki : (k : Int) < n := by omega
  unfold Instr.indexAt
  go_simp
theorem pr_elem0 (g o : Nat) (w : World) : (Instr.indexAt 93 (.pointer (some ⟨g, o, none⟩)) (.int .i64 0)).run Tryz.prog w = .ok (.pointer (some ⟨g, o, none⟩)) w := by
  unfold Instr.indexAt
  go_simp
theorem pr_elem1 (g o : Nat) (w : World) : (Instr.indexAt 93 (.pointer (some ⟨g, o, none⟩)) (.int .i64 1)).run Tryz.prog w = .ok (.pointer (some ⟨g, o + 1, none⟩)) w := by
  unfold Instr.indexAt
  go_simp
set_option maxRecDepth 100000 in
set_option maxHeartbeats 16000000 in
theorem convicts_walk (v : Value) (l : List Po) (na nb : Int) (w : World) (hna : 0 ≤ na ∧ na < 256) (hnb : 0 ≤ nb ∧ nb < 256) (E : Env w) (hu : UsesIn w) (hz : 6 ≤ w.heap.size) (h : kPos.rep (· < w.heap.size) w [v] l) : Calls Tryz.prog 10 #[v, .int .u8 na, .int .u8 nb] w fun e w' => e = .returned (.bool true) ∧ Upd (fun _ => False) w w' := by
  have HE := hid E; have HU := hid hu; have HZ := hid hz
  have HP0 := hid h
  obtain ⟨av, cv, rfl, _, hcv, _⟩ := slice_open h
  clear E hu hz h
  go_enter Tryz.func10, Tryz.ntmps10
  go_wp2_with fail
  refine (fsmall_any w HE.out HU.out HZ.out).mono ?_
  rintro en x0 ⟨rfl, u⟩
  have U0 := hid u
  have HP := hid (kPos.mono (kPos.keep HP0.out (Same.of_upd u fun _ _ => id)) fun g hg => (Nat.lt_of_lt_of_le hg u.size : g < x0.heap.size))
  clear u HP0
  go_wp2_with fail
  refine (fewL_any _ _ l 16 _ HP.out (by decide)).mono ?_
  rintro en x1 ⟨rfl, u⟩
  by_cases hf : FewL l 16
  case neg =>
    rw [decide_eq_false hf]
    have U1 := hid (U0.out.trans u)
    clear u
    go_wp2_with fail
    go_ret
    exact ⟨rfl, U1.out⟩
  rw [decide_eq_true hf]
  replace U0 := hid (U0.out.trans u)
  replace HP := hid (kPos.mono (kPos.keep HP.out (Same.of_upd u fun _ _ => id)) fun g hg => (Nat.lt_of_lt_of_le hg u.size : g < x1.heap.size))
  have HF := hid hf
  clear u hf
  go_wp2_with fail
  refine (play_any _ l _ (HE.out.keep0 U0.out) (HU.out.keep U0.out) HP.out (by have := HF.out.1; omega) ⟨Nat.le_refl _, HF.out.2⟩ (Nat.le_trans HZ.out U0.out.size)).mono ?_
  rintro en x2 ⟨r, vs, b, O, Or, rfl, PA⟩
  obtain ⟨hs, hhs⟩ : ∃ hs, playF l = hs := ⟨_, rfl⟩
  obtain ⟨R, hR⟩ : ∃ R, (signedF l).1 = R := ⟨_, rfl⟩
  obtain ⟨sl, hsl⟩ : ∃ sl, (signedF l).2 = sl := ⟨_, rfl⟩
  obtain ⟨aS, cs, e9, hcs1, hcs2⟩ := own_slice PA.sgs
  rw [hsl] at e9 hcs1
  subst e9
  have hcs2 : cs ≤ 9223372036854775807 := hcs2
  have HH := hid (show HPre x2 O Or b r hs R by rw [← hhs, ← hR]; exact PA.pre)
  have SG := hid (show SgsAt x2 x1.heap.size (.slice aS sl.length cs) sl from by have q := PA.sgs; rw [hsl] at q; exact q)
  have SS := hid (show ∀ s ∈ sl, SgSmall s by rw [← hsl]; exact PA.small)
  have HO := hid (show ∀ k, O k → x1.heap.size ≤ k from PA.own)
  have SLEN := hid (show sl.length ≤ 60 by rw [← hsl, PA.len]; have := HF.out.1; omega)
  have FR := hid (show From sl hs by rw [← hhs, ← hsl]; exact all_from _ (fun s q => q) (fun n hn => nomatch hn))
  have UX := hid (U0.out.trans PA.upd)
  have RL := hid (show R.length ≤ 4000 from Nat.le_trans HH.out.few (by decide))
  clear PA hhs hR hsl HF HP U0
  have HS0 := hid (show ∀ s ∈ hs.map Nd.sg, SgSmall s from fun s m => by
    obtain ⟨n, hn, rfl⟩ := List.mem_map.1 m
    exact SS.out _ (FR.out n hn))
  go_wp2_with fail
  refine (fforks_any HH.out.his HH.out.plain HH.out.gnd.ring.ok HH.out.few).mono ?_
  rintro en y1 ⟨vp, rfl, hop, u⟩
  replace HH := hid (HH.out.keep u); replace SG := hid (ownsRow_upd SG.out u fun _ _ => id : SgsAt y1 x1.heap.size (.slice aS sl.length cs) sl); replace UX := hid (UX.out.trans u)
  clear u
  go_wp2_with fail
  refine (fguilty_any HH.out.his HH.out.plain HH.out.gnd.ring.ok HH.out.few).mono ?_
  rintro en y2 ⟨vg, rfl, hog, u⟩
  replace HH := hid (HH.out.keep u); replace SG := hid (ownsRow_upd SG.out u fun _ _ => id : SgsAt y2 x1.heap.size (.slice aS sl.length cs) sl); replace UX := hid (UX.out.trans u)
  have GI := hid (fun (x : Int) (hx : x ∈ guiltyF hs) => (show I64 x from by
    obtain ⟨p, hp, rfl⟩ := List.mem_map.1 (show x ∈ (forksF hs).map (fun p => (entM hs p.1).author) by rw [forks_authors HH.out.plain]; exact hx)
    have := ent_author HH.out.plain HH.out.gnd.ring.ok (m := p.1)
    unfold I64; omega))
  have OP := hid (ownsRow_upd hop u fun _ _ => id : PrsAt y2 x2.heap.size vp (forksF hs))
  have GR := hid (fun (y : World) (uy : Upd (fun _ => False) y2 y) => ints_rep (ownsRow_upd hog uy fun _ _ => id) GI.out)
  have FS := hid (forks_small HH.out.plain HH.out.few)
  have FL := hid (forks_few HH.out.plain HH.out.few)
  obtain ⟨ap, cp, rfl, hp1, hp2⟩ := prs_slice OP.out
  have hp2 : cp ≤ 9223372036854775807 := hp2
  obtain ⟨ag, cg, rfl, hg1, hg2⟩ := own_slice hog
  have hg2 : cg ≤ 9223372036854775807 := hg2
  have PCELL := hid (fun (y : World) (uy : Upd (fun _ => False) y2 y) (hp : 0 < (forksF hs).length) => (show ∃ g, ap = some ⟨g, 0, none⟩ ∧ ∀ k (hk : k < (forksF hs).length), y.cell? ⟨g, k * 2, none⟩ = some (.int .i64 (forksF hs)[k].1) ∧ y.cell? ⟨g, k * 2 + 1, none⟩ = some (.int .i64 (forksF hs)[k].2) from by
    obtain ⟨g, cap, e, _, _, _, hgl, hc⟩ := PrsAt.get OP.out hp
    injection e with e1 _ _
    exact ⟨g, e1, fun k hk => ⟨cell_kept (hc k hk).1 (uy.block g hgl id), cell_kept (hc k hk).2 (uy.block g hgl id)⟩⟩))
  have GCELL := hid (fun (y : World) (uy : Upd (fun _ => False) y2 y) (hp : 0 < (guiltyF hs).length) => (show ∃ g o, ag = some ⟨g, o, none⟩ ∧ ∀ k (hk : k < (guiltyF hs).length), y.cell? ⟨g, o + k, none⟩ = some (.int .i64 (guiltyF hs)[k]) from by
    obtain ⟨a, c, e, _, _, h3⟩ := slice_open (GR.out y uy)
    obtain ⟨g, o, ea, hg, hel⟩ := h3 hp
    injection e with e1 _ _
    exact ⟨g, o, by rw [e1, ea], fun k hk => int_cells hel hk⟩))
  obtain ⟨N, hN⟩ : ∃ N, (forksF hs).length = N := ⟨_, rfl⟩
  have HN := hid hN
  have HN2 := hid (show (guiltyF hs).length = N by rw [← forks_len HH.out.plain]; exact hN)
  have hN60 : N ≤ 60 := by rw [← hN]; exact FL.out
  rw [hN] at hp1 ⊢
  rw [HN2.out] at hg1 ⊢
  have hbn : ((N : Int) != (N : Int)) = false := by simp
  clear u hop hog hN OP
  have START := hid (Upd.refl (fun _ => False) y2)
  go_wp2_with fail
  go_loopg [13] N (fun gg s13 wr => ∃ k : Nat, k ≤ N ∧ gg = N - k ∧ s13 = .int .i64 k ∧ Upd (fun _ => False) y2 wr)
  case atStart => exact ⟨0, Nat.zero_le _, rfl, rfl, START.out⟩
  case round =>
    obtain ⟨k, hk, hg, rfl, hu⟩ := hrel
    have UP := hid hu; have HG := hid hg
    clear hu hg START
    by_cases hlt : k < N
    case pos =>
      as_aux_lemma =>
      have hlti : (k : Int) < N := by omega
      have hk1 : (k : Int) + 1 ≤ 1000 := by omega
      have hkl : k < (forksF hs).length := by rw [HN.out]; exact hlt
      obtain ⟨hgl, s, t, hs1, ht1, hkey, hc1, hc2, hc3, hns, hsm, htm⟩ := pair_convicts HH.out.plain RL.out hkl
      obtain ⟨g, rfl, hcell⟩ := PCELL.out _ UP.out (by omega)
      obtain ⟨gg, og, rfl, _⟩ := GCELL.out _ UP.out (by omega)
      have PC := hid (fun (y : World) (u : Upd (fun _ => False) y2 y) => (show y.cell? ⟨g, k * 2, none⟩ = some (.int .i64 (forksF hs)[k].1) ∧ y.cell? ⟨g, k * 2 + 1, none⟩ = some (.int .i64 (forksF hs)[k].2) from by
        obtain ⟨g', e, q⟩ := PCELL.out y u (by omega)
        cases e
        exact q k hkl))
      have GC := hid (fun (y : World) (u : Upd (fun _ => False) y2 y) (j : Nat) (hj : j < (guiltyF hs).length) => (show y.cell? ⟨gg, og + j, none⟩ = some (.int .i64 (guiltyF hs)[j]) from by
        obtain ⟨g', o', e, q⟩ := GCELL.out y u (by omega)
        cases e
        exact q j hj))
      have PW := hid (show (Lit.int .i64 (forksF hs)[k].1).wf = true ∧ (Lit.int .i64 (forksF hs)[k].2).wf = true from by
        have := FS.out _ (List.getElem_mem hkl)
        exact ⟨iwf (by omega), iwf (by omega)⟩)
      have PI := hid (show ∀ x ∈ [(forksF hs)[k].1, (forksF hs)[k].2], I64 x from fun x hx => by
        have := FS.out _ (List.getElem_mem hkl)
        simp only [List.mem_cons, List.not_mem_nil, or_false] at hx
        unfold I64
        rcases hx with rfl | rfl <;> omega)
      have GLT := hid (fun (h0 : 0 < k) => guilty_lt hs hgl h0)
      obtain ⟨p, hp⟩ : ∃ p, (forksF hs)[k] = p := ⟨_, rfl⟩
      obtain ⟨ga, hga⟩ : ∃ ga, (guiltyF hs)[k] = ga := ⟨_, rfl⟩
      have GCK := hid (fun (y : World) (u : Upd (fun _ => False) y2 y) => (show y.cell? ⟨gg, og + k, none⟩ = some (.int .i64 ga) from hga ▸ GC.out y u k hgl))
      rw [hp] at hs1 ht1 hc3 PC PW PI
      rw [hga] at hkey GLT
      obtain ⟨p1, p2⟩ := p
      dsimp only at hs1 ht1 hc3 PC PW PI
      have HKEY := hid hkey; have C1 := hid hc1; have C2 := hid hc2; have C3 := hid hc3; have NS := hid hns; have S1 := hid hs1; have T1 := hid ht1
      have SMS := hid (HS0.out s hsm); have SMT := hid (HS0.out t htm)
      clear hcell hs1 ht1 hkey hc1 hc2 hc3 hns hsm htm hp hga
      obtain ⟨m1, m2⟩ := PC.out _ UP.out
      go_wp2_with fail
      refine (hsigned_any (HH.out.keep UP.out).his p1 PW.out.1).mono ?_
      rintro en z1 ⟨rfl, u⟩
      rw [S1.out]
      dsimp only
      unfold sgV
      replace UP := hid (UP.out.trans u)
      clear u m1 m2
      obtain ⟨z2, hz2⟩ : ∃ z, z = z1.alloc (.cells #[.int .i64 s.key, .string ⟨s.text.toArray⟩, .int .i64 s.mark] 36 (0, 0)) := ⟨_, rfl⟩
      have u2 : Upd (fun _ => False) z1 z2 := by rw [hz2]; exact (Upd.refl _ _).alloc _
      obtain ⟨sb, hsb⟩ : ∃ sb, z1.heap.size = sb := ⟨_, rfl⟩
      have BS := hid (show z2.heap[sb]? = some (.cells #[.int .i64 s.key, .string ⟨s.text.toArray⟩, .int .i64 s.mark] 36 (0, 0)) by rw [hz2, ← hsb]; exact heap_alloc_new)
      replace UP := hid (UP.out.trans u2)
      have HZ2 := hid hz2; have HSB := hid hsb
      clear u2 hz2 hsb
      go_upto_region 15 with (fail)
      try rw [← HZ2.out]
      try rw [HSB.out]
      clear HZ2 HSB
      obtain ⟨m1, m2⟩ := PC.out _ UP.out
      go_wp2_with fail
      refine (hsigned_any (HH.out.keep UP.out).his p2 PW.out.2).mono ?_
      rintro en z3 ⟨rfl, u⟩
      rw [T1.out]
      dsimp only
      unfold sgV
      replace UP := hid (UP.out.trans u)
      replace BS := hid ((u.block _ (heap_lt BS.out) id).trans BS.out)
      clear u m1 m2
      obtain ⟨z4, hz4⟩ : ∃ z, z = z3.alloc (.cells #[.int .i64 t.key, .string ⟨t.text.toArray⟩, .int .i64 t.mark] 36 (0, 0)) := ⟨_, rfl⟩
      have u4 : Upd (fun _ => False) z3 z4 := by rw [hz4]; exact (Upd.refl _ _).alloc _
      obtain ⟨tb, htb⟩ : ∃ tb, z3.heap.size = tb := ⟨_, rfl⟩
      have BT := hid (show z4.heap[tb]? = some (.cells #[.int .i64 t.key, .string ⟨t.text.toArray⟩, .int .i64 t.mark] 36 (0, 0)) by rw [hz4, ← htb]; exact heap_alloc_new)
      replace BS := hid ((u4.block _ (heap_lt BS.out) id).trans BS.out)
      replace UP := hid (UP.out.trans u4)
      have HZ4 := hid hz4; have HTB := hid htb
      clear u4 hz4 htb
      go_upto_region 16 with (fail)
      try rw [← HZ4.out]
      try rw [HTB.out]
      clear HZ4 HTB
      refine wp_region_g (fun w' => w'.cell? ⟨g, k * 2, none⟩ = some (.int .i64 p1) ∧ w'.cell? ⟨g, k * 2 + 1, none⟩ = some (.int .i64 p2)) 11 (by kernel_rfl) ?_
      obtain ⟨W0, hW0⟩ : ∃ W0, z4.drew = W0 := ⟨_, rfl⟩
      have u0 : Upd (fun _ => False) z4 W0 := by rw [← hW0]; exact (Upd.refl _ _).drew
      replace BS := hid ((u0.block _ (heap_lt BS.out) id).trans BS.out)
      replace BT := hid ((u0.block _ (heap_lt BT.out) id).trans BT.out)
      replace UP := hid (UP.out.trans u0)
      rw [hW0]
      clear hW0 u0
      have hS := PC.out W0 UP.out
      refine g_take0 (i := 0) rfl (by kernel_rfl) (by kernel_rfl) (by kernel_rfl) (by decide) (fun _ _ _ h => h) (yields_move (by kernel_rfl) _ rfl rfl) (fun _ => hS) ?_
      (try simp only [List.getElem_toArray, List.getElem_cons_zero, List.getElem_cons_succ])
      (try go_frame)
      refine g_take0 (i := 1) rfl (by kernel_rfl) (by kernel_rfl) (by kernel_rfl) (by decide) (fun _ _ _ h => h) (yields_move (by kernel_rfl) _ rfl rfl) (fun _ => hS) ?_
      (try simp only [List.getElem_toArray, List.getElem_cons_zero, List.getElem_cons_succ])
      (try go_frame)
      refine g_take0 (i := 2) rfl (by kernel_rfl) (by kernel_rfl) (by kernel_rfl) (by decide) (fun _ _ _ h => h) (yields_move (by kernel_rfl) _ rfl rfl) (fun _ => hS) ?_
      (try simp only [List.getElem_toArray, List.getElem_cons_zero, List.getElem_cons_succ])
      (try go_frame)
      refine g_take0 (i := 3) rfl (by kernel_rfl) (by kernel_rfl) (by kernel_rfl) (by decide) (fun _ _ _ h => h) (yields_index (by kernel_rfl) _ _ _ rfl rfl rfl (fun w _ => pr_index hlt hp1 hp2 w)) (fun _ => hS) ?_
      (try simp only [List.getElem_toArray, List.getElem_cons_zero, List.getElem_cons_succ])
      (try go_frame)
      refine g_take0 (i := 4) rfl (by kernel_rfl) (by kernel_rfl) (by kernel_rfl) (by decide) (fun _ _ _ h => h) (yields_index (by kernel_rfl) _ _ _ rfl rfl rfl (fun w _ => pr_elem0 _ _ w)) (fun _ => hS) ?_
      (try simp only [List.getElem_toArray, List.getElem_cons_zero, List.getElem_cons_succ])
      (try go_frame)
      refine g_take (i := 5) rfl (by kernel_rfl) (by kernel_rfl) (by kernel_rfl) (by kernel_rfl) (fun _ _ _ h => h) (yields_load (by kernel_rfl) _ _ rfl rfl (fun w hw => int_load hw.1)) hS ?_
      (try simp only [List.getElem_toArray, List.getElem_cons_zero, List.getElem_cons_succ])
      (try go_frame)
      refine g_take0 (i := 6) rfl (by kernel_rfl) (by kernel_rfl) (by kernel_rfl) (by decide) (fun _ _ _ h => h) (yields_move (by kernel_rfl) _ rfl rfl) (fun _ => hS) ?_
      (try simp only [List.getElem_toArray, List.getElem_cons_zero, List.getElem_cons_succ])
      (try go_frame)
      refine g_take0 (i := 7) rfl (by kernel_rfl) (by kernel_rfl) (by kernel_rfl) (by decide) (fun _ _ _ h => h) (yields_move (by kernel_rfl) _ rfl rfl) (fun _ => hS) ?_
      (try simp only [List.getElem_toArray, List.getElem_cons_zero, List.getElem_cons_succ])
      (try go_frame)
      refine g_take0 (i := 8) rfl (by kernel_rfl) (by kernel_rfl) (by kernel_rfl) (by decide) (fun _ _ _ h => h) (yields_index (by kernel_rfl) _ _ _ rfl rfl rfl (fun w _ => pr_index hlt hp1 hp2 w)) (fun _ => hS) ?_
      (try simp only [List.getElem_toArray, List.getElem_cons_zero, List.getElem_cons_succ])
      (try go_frame)
      refine g_take0 (i := 9) rfl (by kernel_rfl) (by kernel_rfl) (by kernel_rfl) (by decide) (fun _ _ _ h => h) (yields_index (by kernel_rfl) _ _ _ rfl rfl rfl (fun w _ => pr_elem1 _ _ w)) (fun _ => hS) ?_
      (try simp only [List.getElem_toArray, List.getElem_cons_zero, List.getElem_cons_succ])
      (try go_frame)
      refine g_take (i := 10) rfl (by kernel_rfl) (by kernel_rfl) (by kernel_rfl) (by kernel_rfl) (fun _ _ _ h => h) (yields_load (by kernel_rfl) _ _ rfl rfl (fun w hw => int_load hw.2)) hS ?_
      (try simp only [List.getElem_toArray, List.getElem_cons_zero, List.getElem_cons_succ])
      (try go_frame)
      obtain ⟨z5, hz5⟩ : ∃ z, z = W0.alloc (.cells #[.int .i64 p1, .int .i64 p2] 3 (0, 0)) := ⟨_, rfl⟩
      have u5 : Upd (fun _ => False) W0 z5 := by rw [hz5]; exact (Upd.refl _ _).alloc _
      obtain ⟨lb, hlb⟩ : ∃ lb, W0.heap.size = lb := ⟨_, rfl⟩
      have IB := hid (show IntsBlk z5 lb [p1, p2] by rw [hz5, ← hlb]; exact heap_alloc_new)
      replace BS := hid ((u5.block _ (heap_lt BS.out) id).trans BS.out)
      replace BT := hid ((u5.block _ (heap_lt BT.out) id).trans BT.out)
      replace UP := hid (UP.out.trans u5)
      have HZ5 := hid hz5; have HLB := hid hlb
      clear u5 hz5 hlb
      refine g_op (i := 11) (by kernel_rfl) rfl ?_
      go_wp2_with fail
      first | (with_reducible refine And.intro (fun h => absurd h (by simp)) ?_) | skip
      try rw [← HZ5.out]
      try rw [HLB.out]
      clear HZ5 HLB
      refine g_op (i := 12) (by kernel_rfl) rfl ?_
      go_wp2_with fail
      refine (hrestrict_any (HH.out.keep UP.out) (· < z5.heap.size) (.slice (some ⟨lb, 0, none⟩) 2 2) [p1, p2] (lit_ints9 IB.out rfl PI.out (by decide))).mono ?_
      rintro en z6 ⟨bp, Op, rfl, q1, q2, u⟩
      have HPX := hid ((HH.out.keep UP.out).made u q1 (restrict_ok HH.out.plain RL.out [p1, p2]).1 q2)
      replace BS := hid ((u.block _ (heap_lt BS.out) id).trans BS.out)
      replace BT := hid ((u.block _ (heap_lt BT.out) id).trans BT.out)
      replace UP := hid (UP.out.trans u)
      clear q1 q2 u IB
      go_wp2_with fail
      first | (with_reducible refine And.intro (fun h => absurd h (by simp)) ?_) | skip
      refine g_op (i := 13) (by kernel_rfl) rfl ?_
      go_wp2_with fail
      first | (with_reducible refine And.intro (fun h => absurd h (by simp)) ?_) | skip
      refine g_done (by kernel_rfl) ?_
      obtain ⟨s0, s1, s2, _⟩ := cells3 BS.out
      obtain ⟨t0, t1, t2, _⟩ := cells3 BT.out
      have gk0 := GCK.out _ UP.out
      have e1 : (s.key != ga) = false := by rw [HKEY.out]; simp
      go_upto_region 17 with (fail)
      rcases Nat.eq_zero_or_pos k with h0 | h0
      · have d0 : decide ((0 : Int) < (k : Int)) = false := decide_eq_false (by omega)
        have d0' : ¬ (0 : Int) < (k : Int) := by omega
        have d1 : ¬ 0 < k := by omega
        have d2 : decide (0 < k) = false := decide_eq_false d1
        clear h0
        go_quiet (fail)
        have UQ := hid (UP.out.drewN nq)
        replace BS := hid (show (z6.drewN nq).heap[sb]? = _ from BS.out)
        replace BT := hid (show (z6.drewN nq).heap[tb]? = _ from BT.out)
        replace HPX := hid (HPX.out.keep ((Upd.refl _ _).drewN nq))
        clear s0 s1 s2 t0 t1 t2 gk0
        obtain ⟨s0, s1, s2, _⟩ := cells3 BS.out
        obtain ⟨t0, t1, t2, _⟩ := cells3 BT.out
        go_wp2_with fail
        refine (fconvict_any (HH.out.keep UQ.out) s t SMS.out SMT.out).mono ?_
        rintro en z8 ⟨rfl, u⟩
        rw [C1.out]
        replace UQ := hid (UQ.out.trans u)
        replace BS := hid ((u.block _ (heap_lt BS.out) id).trans BS.out)
        replace BT := hid ((u.block _ (heap_lt BT.out) id).trans BT.out)
        replace HPX := hid (HPX.out.keep u)
        clear u s0 s1 s2 t0 t1 t2
        obtain ⟨s0, s1, s2, _⟩ := cells3 BS.out
        obtain ⟨t0, t1, t2, _⟩ := cells3 BT.out
        go_wp2_with fail
        refine (fconvict_any (HH.out.keep UQ.out) t s SMT.out SMS.out).mono ?_
        rintro en z9 ⟨rfl, u⟩
        rw [C2.out]
        replace UQ := hid (UQ.out.trans u)
        replace BS := hid ((u.block _ (heap_lt BS.out) id).trans BS.out)
        replace BT := hid ((u.block _ (heap_lt BT.out) id).trans BT.out)
        replace HPX := hid (HPX.out.keep u)
        clear u s0 s1 s2 t0 t1 t2
        obtain ⟨s0, s1, s2, _⟩ := cells3 BS.out
        obtain ⟨t0, t1, t2, _⟩ := cells3 BT.out
        go_wp2_with fail
        refine (fconvict_any HPX.out s t SMS.out SMT.out).mono ?_
        rintro en z10 ⟨rfl, u⟩
        rw [C3.out]
        replace UQ := hid (UQ.out.trans u)
        replace BS := hid ((u.block _ (heap_lt BS.out) id).trans BS.out)
        clear u s0 s1 s2 t0 t1 t2
        obtain ⟨s0, s1, s2, _⟩ := cells3 BS.out
        go_wp2_with fail
        refine (fstraight_any (HH.out.keep UQ.out).his HH.out.plain HH.out.gnd.ring.ok HH.out.few s.key (iwf (by have := SMS.out.key; omega))).mono ?_
        rintro en z11 ⟨rfl, u⟩
        rw [straight_nay NS.out]
        replace UQ := hid (UQ.out.trans u)
        clear u s0 s1 s2
        go_wp2_with fail
        go_roundg (N - (k + 1))
        case measure => have := HG.out; omega
        case rel => exact ⟨k + 1, by omega, rfl, by go_num, UQ.out⟩
      have d0 : decide ((0 : Int) < (k : Int)) = true := decide_eq_true (by omega)
      have d0' : (0 : Int) < (k : Int) := by omega
      have t3 : (k : Int) - 1 = ((k - 1 : Nat) : Int) := by omega
      have hkb1 : ((k - 1 : Nat) : Int) < N := by omega
      have hkb2 : k - 1 < N := by omega
      have hkb3 : (0 : Int) ≤ ((k - 1 : Nat) : Int) := by omega
      have gk1 := GC.out _ UP.out (k - 1) (by omega)
      have glt := GLT.out h0
      obtain ⟨gp, hgp⟩ : ∃ gp, (guiltyF hs)[k - 1] = gp := ⟨_, rfl⟩
      rw [hgp] at gk1 glt
      have dg : decide (ga ≤ gp) = false := decide_eq_false (by omega)
      have dg' : ¬ ga ≤ gp := by omega
      clear hgp glt
      go_quiet (fail)
      have UQ := hid (UP.out.drewN nq)
      replace BS := hid (show (z6.drewN nq).heap[sb]? = _ from BS.out)
      replace BT := hid (show (z6.drewN nq).heap[tb]? = _ from BT.out)
      replace HPX := hid (HPX.out.keep ((Upd.refl _ _).drewN nq))
      clear s0 s1 s2 t0 t1 t2 gk0 gk1
      obtain ⟨s0, s1, s2, _⟩ := cells3 BS.out
      obtain ⟨t0, t1, t2, _⟩ := cells3 BT.out
      go_wp2_with fail
      refine (fconvict_any (HH.out.keep UQ.out) s t SMS.out SMT.out).mono ?_
      rintro en z8 ⟨rfl, u⟩
      rw [C1.out]
      replace UQ := hid (UQ.out.trans u)
      replace BS := hid ((u.block _ (heap_lt BS.out) id).trans BS.out)
      replace BT := hid ((u.block _ (heap_lt BT.out) id).trans BT.out)
      replace HPX := hid (HPX.out.keep u)
      clear u s0 s1 s2 t0 t1 t2
      obtain ⟨s0, s1, s2, _⟩ := cells3 BS.out
      obtain ⟨t0, t1, t2, _⟩ := cells3 BT.out
      go_wp2_with fail
      refine (fconvict_any (HH.out.keep UQ.out) t s SMT.out SMS.out).mono ?_
      rintro en z9 ⟨rfl, u⟩
      rw [C2.out]
      replace UQ := hid (UQ.out.trans u)
      replace BS := hid ((u.block _ (heap_lt BS.out) id).trans BS.out)
      replace BT := hid ((u.block _ (heap_lt BT.out) id).trans BT.out)
      replace HPX := hid (HPX.out.keep u)
      clear u s0 s1 s2 t0 t1 t2
      obtain ⟨s0, s1, s2, _⟩ := cells3 BS.out
      obtain ⟨t0, t1, t2, _⟩ := cells3 BT.out
      go_wp2_with fail
      refine (fconvict_any HPX.out s t SMS.out SMT.out).mono ?_
      rintro en z10 ⟨rfl, u⟩
      rw [C3.out]
      replace UQ := hid (UQ.out.trans u)
      replace BS := hid ((u.block _ (heap_lt BS.out) id).trans BS.out)
      clear u s0 s1 s2 t0 t1 t2
      obtain ⟨s0, s1, s2, _⟩ := cells3 BS.out
      go_wp2_with fail
      refine (fstraight_any (HH.out.keep UQ.out).his HH.out.plain HH.out.gnd.ring.ok HH.out.few s.key (iwf (by have := SMS.out.key; omega))).mono ?_
      rintro en z11 ⟨rfl, u⟩
      rw [straight_nay NS.out]
      replace UQ := hid (UQ.out.trans u)
      clear u s0 s1 s2
      go_wp2_with fail
      go_roundg (N - (k + 1))
      case measure => have := HG.out; omega
      case rel => exact ⟨k + 1, by omega, rfl, by go_num, UQ.out⟩
    as_aux_lemma =>
    have hlti : ¬ (k : Int) < N := by omega
    replace HH := hid (HH.out.keep UP.out)
    replace SG := hid (ownsRow_upd SG.out UP.out fun _ _ => id : SgsAt wr x1.heap.size (.slice aS sl.length cs) sl)
    replace UX := hid (UX.out.trans UP.out)
    have GR2 := hid (fun (y : World) (u : Upd (fun _ => False) wr y) => GR.out y (UP.out.trans u))
    clear UP GR PCELL GCELL hk HG HS0 FS FL
    obtain ⟨M, hM⟩ : ∃ M, sl.length = M := ⟨_, rfl⟩
    have HM := hid hM
    rw [hM] at hcs1 ⊢
    have hM60 : M ≤ 60 := by rw [← hM]; exact SLEN.out
    clear hM
    rcases Nat.eq_zero_or_pos M with h0 | h0
    · have d0 : ((M : Int) == 0) = true := by rw [h0]; rfl
      go_wp2_with fail
      go_ret
      exact ⟨rfl, UX.out⟩
    have d0 : ((M : Int) == 0) = false := beq_eq_false_iff_ne.2 (by omega)
    have d1 : (M == 0) = false := beq_eq_false_iff_ne.2 (by omega)
    obtain ⟨i, hi⟩ : ∃ i : Nat, na % (M : Int) = i := ⟨(na % (M : Int)).toNat, by have := Int.emod_nonneg na (show (M : Int) ≠ 0 by omega); omega⟩
    have hiM : i < M := by have := Int.emod_lt_of_pos na (show (0 : Int) < M by omega); omega
    obtain ⟨j, hj⟩ : ∃ j : Nat, nb % (M : Int) = j := ⟨(nb % (M : Int)).toNat, by have := Int.emod_nonneg nb (show (M : Int) ≠ 0 by omega); omega⟩
    have hjM : j < M := by have := Int.emod_lt_of_pos nb (show (0 : Int) < M by omega); omega
    have ti : Int.tmod na (M : Int) = i := by rw [Int.tmod_eq_emod_of_nonneg hna.1]; exact hi
    have tj : Int.tmod nb (M : Int) = j := by rw [Int.tmod_eq_emod_of_nonneg hnb.1]; exact hj
    obtain ⟨na0, na1⟩ := hna
    obtain ⟨nb0, nb1⟩ := hnb
    obtain ⟨g2, cap2, e1, _, _, _, hg2l, hc⟩ := SgsAt.get SG.out (by rw [HM.out]; exact h0)
    have e1 : Value.slice aS sl.length cs = .slice (some ⟨g2, 0, none⟩) sl.length cap2 := e1
    injection e1 with e1 _ _
    subst e1
    have hil : i < sl.length := by rw [HM.out]; exact hiM
    have hjl : j < sl.length := by rw [HM.out]; exact hjM
    have hxc := hc i hil
    have hyc := hc j hjl
    have hxs := SS.out _ (List.getElem_mem hil)
    have hys := SS.out _ (List.getElem_mem hjl)
    obtain ⟨x, hx⟩ : ∃ x, sl[i] = x := ⟨_, rfl⟩
    obtain ⟨y, hy⟩ : ∃ y, sl[j] = y := ⟨_, rfl⟩
    rw [hx] at hxc hxs
    rw [hy] at hyc hys
    have XS := hid hxs; have YS := hid hys
    have XC := hid hxc; have YC := hid hyc
    have SAYS := hid (convict_says HH.out.plain x y)
    have G2L := hid hg2l
    clear hc hx hy hxs hys hyc hg2l
    obtain ⟨m0, m1, m2⟩ := hxc
    obtain ⟨z1, hz1⟩ : ∃ z, z = wr.alloc (.cells #[.int .i64 x.key, .string ⟨x.text.toArray⟩, .int .i64 x.mark] 36 (0, 0)) := ⟨_, rfl⟩
    have u1 : Upd (fun _ => False) wr z1 := by rw [hz1]; exact (Upd.refl _ _).alloc _
    obtain ⟨xb, hxb⟩ : ∃ xb, wr.heap.size = xb := ⟨_, rfl⟩
    have BX := hid (show z1.heap[xb]? = some (.cells #[.int .i64 x.key, .string ⟨x.text.toArray⟩, .int .i64 x.mark] 36 (0, 0)) by rw [hz1, ← hxb]; exact heap_alloc_new)
    have HZ1 := hid hz1; have HXB := hid hxb; have UQ := hid u1
    clear hz1 hxb u1
    go_upto_region 24 with (fail)
    try rw [← HZ1.out]
    try rw [HXB.out]
    clear HZ1 HXB m0 m1 m2
    obtain ⟨m0', m1', m2'⟩ := YC.out
    have m0 := cell_kept m0' (UQ.out.block _ G2L.out id); have m1 := cell_kept m1' (UQ.out.block _ G2L.out id); have m2 := cell_kept m2' (UQ.out.block _ G2L.out id)
    clear m0' m1' m2'
    obtain ⟨z2, hz2⟩ : ∃ z, z = z1.alloc (.cells #[.int .i64 y.key, .string ⟨y.text.toArray⟩, .int .i64 y.mark] 36 (0, 0)) := ⟨_, rfl⟩
    have u2 : Upd (fun _ => False) z1 z2 := by rw [hz2]; exact (Upd.refl _ _).alloc _
    obtain ⟨yb, hyb⟩ : ∃ yb, z1.heap.size = yb := ⟨_, rfl⟩
    have BY := hid (show z2.heap[yb]? = some (.cells #[.int .i64 y.key, .string ⟨y.text.toArray⟩, .int .i64 y.mark] 36 (0, 0)) by rw [hz2, ← hyb]; exact heap_alloc_new)
    replace BX := hid ((u2.block _ (heap_lt BX.out) id).trans BX.out)
    have HZ2 := hid hz2; have HYB := hid hyb
    replace UQ := hid (UQ.out.trans u2)
    clear hz2 hyb u2
    go_upto_region 25 with (fail)
    try rw [← HZ2.out]
    try rw [HYB.out]
    clear HZ2 HYB m0 m1 m2 XC YC
    obtain ⟨s0, s1, s2, _⟩ := cells3 BX.out
    obtain ⟨t0, t1, t2, _⟩ := cells3 BY.out
    go_wp2_with fail
    refine (fconvict_any (HH.out.keep UQ.out) x y XS.out YS.out).mono ?_
    rintro en z3 ⟨rfl, u⟩
    obtain ⟨ev, hev⟩ : ∃ ev, convictF R hs x y = ev := ⟨_, rfl⟩
    have SAYS2 := hid (show convictF R hs y x = ev ∧ (ev = 0 → ¬ StraightP hs x.key ∧ x.key ∈ guiltyF hs ∧ x.key = y.key) from hev ▸ SAYS.out)
    rw [hev]
    replace UQ := hid (UQ.out.trans u)
    replace BX := hid ((u.block _ (heap_lt BX.out) id).trans BX.out)
    replace BY := hid ((u.block _ (heap_lt BY.out) id).trans BY.out)
    clear u s0 s1 s2 t0 t1 t2 hev SAYS
    obtain ⟨s0, s1, s2, _⟩ := cells3 BX.out
    obtain ⟨t0, t1, t2, _⟩ := cells3 BY.out
    go_wp2_with fail
    refine (fconvict_any (HH.out.keep UQ.out) y x YS.out XS.out).mono ?_
    rintro en z4 ⟨rfl, u⟩
    rw [SAYS2.out.1]
    replace UQ := hid (UQ.out.trans u)
    replace BX := hid ((u.block _ (heap_lt BX.out) id).trans BX.out)
    replace BY := hid ((u.block _ (heap_lt BY.out) id).trans BY.out)
    clear u s0 s1 s2 t0 t1 t2
    by_cases he : ev = 0
    case neg =>
      have e1 : (ev != 0) = true := bne_iff_ne.2 he
      have e2 : (ev == 0) = false := beq_eq_false_iff_ne.2 he
      go_wp2_with fail
      go_ret
      exact ⟨rfl, UX.out.trans UQ.out⟩
    obtain ⟨c1, c2, c3⟩ := SAYS2.out.2 he
    have NS := hid c1; have GM := hid c2
    have k1 : (x.key == y.key) = true := by rw [c3]; simp
    have e1 : (ev != 0) = false := by rw [he]; rfl
    have HE0 := hid he
    clear he c1 c2 c3
    obtain ⟨s0, s1, s2, _⟩ := cells3 BX.out
    go_wp2_with fail
    refine (fstraight_any (HH.out.keep UQ.out).his HH.out.plain HH.out.gnd.ring.ok HH.out.few x.key (iwf (by have := XS.out.key; omega))).mono ?_
    rintro en z5 ⟨rfl, u⟩
    rw [straight_nay NS.out]
    replace UQ := hid (UQ.out.trans u)
    replace BX := hid ((u.block _ (heap_lt BX.out) id).trans BX.out)
    replace BY := hid ((u.block _ (heap_lt BY.out) id).trans BY.out)
    clear u s0 s1 s2
    obtain ⟨s0, s1, s2, _⟩ := cells3 BX.out
    obtain ⟨t0, t1, t2, _⟩ := cells3 BY.out
    have HG9 := hid (show kInts.rep (fun g => y1.heap.size ≤ g ∧ g < z5.heap.size) z5 [.slice ag N cg] (guiltyF hs) from by
      have q := GR2.out _ UQ.out
      rw [HN2.out] at q
      exact q)
    go_wp2_with fail
    refine (has9_any _ _ _ x.key _ HG9.out).mono ?_
    rintro en yy ⟨rfl, rfl⟩
    rw [decide_eq_true GM.out]
    go_wp2_with fail
    go_ret
    exact ⟨rfl, UX.out.trans UQ.out⟩
theorem u8_range {n : Int} (h : (Lit.int .u8 n).wf = true) : 0 ≤ n ∧ n < 256 := by
  simp [Lit.wf, IntKind.min, IntKind.max, IntKind.signed, IntKind.bits] at h
  omega
theorem convicts_card (v : Value) (l : List Po) (na nb : Int) (w : World) (E : Env w) (hu : UsesIn w) (hz : 6 ≤ w.heap.size) (h : kPos.rep (· < w.heap.size) w [v] l) (wa : (Lit.int .u8 na).wf = true) (wb : (Lit.int .u8 nb).wf = true) : Calls Tryz.prog 10 #[v, .int .u8 na, .int .u8 nb] w fun e w' => e = .returned (.bool true) ∧ Below w.heap.size w w' :=
  (convicts_walk v l na nb w (u8_range wa) (u8_range wb) E hu hz h).mono fun _ _ ⟨a, u⟩ => ⟨a, u.below (Nat.le_refl _) fun _ q => q.elim⟩
end Go.Proofs.YtalhmpggpjbeaaaGreatDoor
