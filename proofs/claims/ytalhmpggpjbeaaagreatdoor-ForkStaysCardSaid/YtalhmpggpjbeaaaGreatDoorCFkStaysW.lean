/- Walks: ForkStays. -/
import Derived.Test.YtalhmpggpjbeaaaGreatDoorJ23
import Derived.Test.YtalhmpggpjbeaaaGreatDoorJ24
import Derived.Test.YtalhmpggpjbeaaaGreatDoorJ14
import Derived.Test.YtalhmpggpjbeaaaGreatDoorJ13
import Derived.Test.YtalhmpggpjbeaaaGreatDoorCDgSpread
namespace Go.Proofs.YtalhmpggpjbeaaaGreatDoor
open Go.RowKit Go.Deep

set_option maxRecDepth 100000 in
set_option maxHeartbeats 16000000 in
theorem stays_walk (v : Value) (l : List Po) (one two au : Int) (w : World) (ha : (Lit.int .i64 au).wf = true) (E : Env w) (hu : UsesIn w) (hz : 6 ≤ w.heap.size) (h : kPos.rep (· < w.heap.size) w [v] l) : Calls Tryz.prog 11 #[v, .int .i64 one, .int .i64 two, .int .i64 au] w fun e w' => e = .returned (.bool true) ∧ Upd (fun _ => False) w w' := by
  have HE := hid E; have HU := hid hu; have HZ := hid hz
  have HP0 := hid h
  obtain ⟨av, cv, rfl, _, hcv, _⟩ := slice_open h
  clear E hu hz h
  go_enter Tryz.func11, Tryz.ntmps11
  go_wp2_with fail
  refine (fsmall_any w HE.out HU.out HZ.out).mono ?_
  rintro en x0 ⟨rfl, u⟩
  have U0 := hid u
  have HP := hid (kPos.mono (kPos.keep HP0.out (Same.of_upd u fun _ _ => id)) fun g hg => (Nat.lt_of_lt_of_le hg u.size : g < x0.heap.size))
  clear u HP0
  go_wp2_with fail
  refine (fewL_any _ _ l 16 _ HP.out (by decide)).mono ?_
  rintro en x1 ⟨rfl, u⟩
  by_cases hf : FewL l 16
  case neg =>
    rw [decide_eq_false hf]
    have U1 := hid (U0.out.trans u)
    clear u
    go_wp2_with fail
    go_ret
    exact ⟨rfl, U1.out⟩
  rw [decide_eq_true hf]
  replace U0 := hid (U0.out.trans u)
  replace HP := hid (kPos.mono (kPos.keep HP.out (Same.of_upd u fun _ _ => id)) fun g hg => (Nat.lt_of_lt_of_le hg u.size : g < x1.heap.size))
  have HF := hid hf
  clear u hf
  go_wp2_with fail
  refine (play_any _ l _ (HE.out.keep0 U0.out) (HU.out.keep U0.out) HP.out (by have := HF.out.1; omega) ⟨Nat.le_refl _, HF.out.2⟩ (Nat.le_trans HZ.out U0.out.size)).mono ?_
  rintro en x2 ⟨r, vs, b, O, Or, rfl, PA⟩
  obtain ⟨hs, hhs⟩ : ∃ hs, playF l = hs := ⟨_, rfl⟩
  obtain ⟨R, hR⟩ : ∃ R, (signedF l).1 = R := ⟨_, rfl⟩
  obtain ⟨sl, hsl⟩ : ∃ sl, (signedF l).2 = sl := ⟨_, rfl⟩
  obtain ⟨aS, cs, e9, hcs1, hcs2⟩ := own_slice PA.sgs
  rw [hsl] at e9 hcs1
  subst e9
  have hcs2 : cs ≤ 9223372036854775807 := hcs2
  have HH := hid (show HPre x2 O Or b r hs R by rw [← hhs, ← hR]; exact PA.pre)
  have SG := hid (show SgsAt x2 x1.heap.size (.slice aS sl.length cs) sl from by have q := PA.sgs; rw [hsl] at q; exact q)
  have SS := hid (show ∀ s ∈ sl, SgSmall s by rw [← hsl]; exact PA.small)
  have HO := hid (show ∀ k, O k → x1.heap.size ≤ k from PA.own)
  have SLEN := hid (show sl.length ≤ 60 by rw [← hsl, PA.len]; have := HF.out.1; omega)
  have FR := hid (show From sl hs by rw [← hhs, ← hsl]; exact all_from _ (fun s q => q) (fun n hn => nomatch hn))
  have UX := hid (U0.out.trans PA.upd)
  have RL := hid (show R.length ≤ 4000 from Nat.le_trans HH.out.few (by decide))
  clear PA hhs hR hsl HF HP U0
  clear SG SS SLEN FR
  go_wp2_with fail
  refine (hmarks_any HH.out.his).mono ?_
  rintro en y1 ⟨vm, rfl, ho, u⟩
  have MI := hid (fun x (hx : x ∈ marksF hs) => (show I64 x from by have := mark_wf HH.out.plain HH.out.few ((mem_marksF hs x).1 hx); unfold I64; omega))
  have ML := hid (show (marksF hs).length ≤ 1000 by
    unfold marksF
    rw [(sortI_perm _).length_eq, List.length_map]
    exact Nat.le_trans HH.out.plain.len (Nat.le_trans HH.out.few (by decide)))
  have MR := hid (fun (y : World) (uy : Upd (fun _ => False) y1 y) => ints_rep (ownsRow_upd ho uy fun _ _ => id) MI.out)
  replace HH := hid (HH.out.keep u)
  have UC := hid u
  obtain ⟨am, cm, rfl, hm1, hm2⟩ := own_slice ho
  have hm2 : cm ≤ 9223372036854775807 := hm2
  clear ho u
  have START := hid (Upd.refl (fun _ => False) y1)
  go_wp2_with fail
  refine (some9_any _ _ _ one _ (MR.out _ START.out) (fun g hg => hg.2) ML.out).mono ?_
  rintro en y2 ⟨l1, hsub, v1, rfl, ho, u⟩
  have R1 := hid (ints_rep ho fun x hx => MI.out x (hsub x hx))
  replace HH := hid (HH.out.keep u); replace START := hid (START.out.trans u); replace UC := hid (UC.out.trans u)
  clear ho u hsub
  go_wp2_with fail
  refine (hrestrict_any HH.out _ _ l1 R1.out).mono ?_
  rintro en y3 ⟨b1, O1, rfl, q1, q2, u⟩
  have H1 := hid (HH.out.made u q1 (restrict_ok HH.out.plain RL.out l1).1 q2)
  have D1H := hid (show ∀ k, O k → ¬ O1 k from fun k hk hk' => by have := (HH.out.his.lt k hk).2; have := q2 k hk'; omega)
  have N1 := hid (show ∀ k, O1 k → x2.heap.size ≤ k from fun k hk => Nat.le_trans UC.out.size (q2 k hk))
  replace HH := hid (HH.out.keep u); replace START := hid (START.out.trans u); replace UC := hid (UC.out.trans u)
  clear q1 q2 u R1
  go_wp2_with fail
  refine (some9_any _ _ _ two _ (MR.out _ START.out) (fun g hg => hg.2) ML.out).mono ?_
  rintro en y4 ⟨l2, hsub, v2, rfl, ho, u⟩
  have R2 := hid (ints_rep ho fun x hx => MI.out x (hsub x hx))
  replace HH := hid (HH.out.keep u); replace START := hid (START.out.trans u); replace UC := hid (UC.out.trans u)
  replace H1 := hid (H1.out.keep u)
  clear ho u hsub
  go_wp2_with fail
  refine (hrestrict_any HH.out _ _ l2 R2.out).mono ?_
  rintro en y5 ⟨b2, O2, rfl, q1, q2, u⟩
  have H2 := hid (HH.out.made u q1 (restrict_ok HH.out.plain RL.out l2).1 q2)
  have D2H := hid (show ∀ k, O k → ¬ O2 k from fun k hk hk' => by have := (HH.out.his.lt k hk).2; have := q2 k hk'; omega)
  have N2 := hid (show ∀ k, O2 k → x2.heap.size ≤ k from fun k hk => Nat.le_trans UC.out.size (q2 k hk))
  replace HH := hid (HH.out.keep u); replace START := hid (START.out.trans u); replace UC := hid (UC.out.trans u)
  replace H1 := hid (H1.out.keep u)
  clear q1 q2 u R2
  clear MR START MI ML
  obtain ⟨g1, hg1⟩ : ∃ g, restrictF rdF R hs l1 = g := ⟨_, rfl⟩
  obtain ⟨g2, hg2⟩ : ∃ g, restrictF rdF R hs l2 = g := ⟨_, rfl⟩
  have S1 := hid (hg1 ▸ sub_part HH.out.plain RL.out l1 : SubM g1 hs)
  have S2 := hid (hg2 ▸ sub_part HH.out.plain RL.out l2 : SubM g2 hs)
  rw [hg1] at H1
  rw [hg2] at H2
  clear hg1 hg2
  go_wp2_with fail
  refine (hcopy_any H1.out).mono ?_
  rintro en y6 ⟨b3, O3, rfl, q1, q2, u⟩
  have H3 := hid (H1.out.made u q1 (copy_same H1.out.plain RL.out).1 q2)
  have D31 := hid (show ∀ k, O1 k → ¬ O3 k from fun k hk hk' => by have := (H1.out.his.lt k hk).2; have := q2 k hk'; omega)
  have D32 := hid (show ∀ k, O2 k → ¬ O3 k from fun k hk hk' => by have := (H2.out.his.lt k hk).2; have := q2 k hk'; omega)
  have D3H := hid (show ∀ k, O k → ¬ O3 k from fun k hk hk' => by have := (HH.out.his.lt k hk).2; have := q2 k hk'; omega)
  have N3 := hid (show ∀ k, O3 k → x2.heap.size ≤ k from fun k hk => Nat.le_trans UC.out.size (q2 k hk))
  replace HH := hid (HH.out.keep u); replace H1 := hid (H1.out.keep u); replace H2 := hid (H2.out.keep u); replace UC := hid (UC.out.trans u)
  clear q1 q2 u
  have BO := hid (both_ok H1.out.plain H2.out.plain RL.out S1.out S2.out)
  go_wp2_with fail
  refine (hjoin_any H3.out H2.out.his H2.out.plain).mono ?_
  rintro en y7 ⟨rfl, O4, q1, q2, u⟩
  rw [BO.out.1]
  have H4 := hid (H3.out.grown u q1 BO.out.2.1 q2)
  replace HH := hid (HH.out.upd u D3H.out H3.out.apart fun k hk => (H3.out.his.lt k hk).1)
  replace H1 := hid (H1.out.upd u D31.out H3.out.apart fun k hk => (H3.out.his.lt k hk).1)
  replace H2 := hid (H2.out.upd u D32.out H3.out.apart fun k hk => (H3.out.his.lt k hk).1)
  replace UC := hid (UC.out.comp u fun i hi e => by have := N3.out i e; omega)
  have S4 := hid BO.out.2.2.1
  have J4 := hid BO.out.2.2.2
  obtain ⟨g4, hg4⟩ : ∃ g, (joinF rdF R (restrictF rdF R g1 (marksF g1)) g2).1 = g := ⟨_, rfl⟩
  rw [hg4] at H4 S4 J4
  clear q1 q2 u hg4 H3 D31 D32 D3H D1H D2H N1 N2 N3 BO
  have GI := hid (fun (g : Hs) (G : His rdF R g) (x : Int) (hx : x ∈ guiltyF g) => (show I64 x from by
    obtain ⟨p, hp, rfl⟩ := List.mem_map.1 (show x ∈ (forksF g).map (fun p => (entM g p.1).author) by rw [forks_authors G]; exact hx)
    have := ent_author G HH.out.gnd.ring.ok (m := p.1)
    unfold I64; omega))
  have GL := hid (fun (g : Hs) (G : His rdF R g) => (show (guiltyF g).length ≤ 100 from by
    rw [← forks_len G]
    exact Nat.le_trans (forks_few G HH.out.few) (by decide)))
  go_wp2_with fail
  refine (fguilty_any HH.out.his HH.out.plain HH.out.gnd.ring.ok HH.out.few).mono ?_
  rintro en y8 ⟨vg0, rfl, ho, u⟩
  replace HH := hid (HH.out.keep u); replace H1 := hid (H1.out.keep u); replace H2 := hid (H2.out.keep u); replace H4 := hid (H4.out.keep u); replace UC := hid (UC.out.trans u)
  have G0R := hid (fun (y : World) (uy : Upd (fun _ => False) y8 y) => ints_rep (ownsRow_upd ho uy fun _ _ => id) (GI.out _ HH.out.plain))
  obtain ⟨ag0, cg0, rfl, hg01, hg02⟩ := own_slice ho
  have hg02 : cg0 ≤ 9223372036854775807 := hg02
  clear ho u
  go_wp2_with fail
  refine (fguilty_any H1.out.his H1.out.plain H1.out.gnd.ring.ok H1.out.few).mono ?_
  rintro en y9 ⟨vg1, rfl, ho, u⟩
  have GR1 := hid ho; have UP := hid u
  clear ho u
  go_wp2_with fail
  refine (fguilty_any (H2.out.keep UP.out).his H2.out.plain H2.out.gnd.ring.ok H2.out.few).mono ?_
  rintro en y10 ⟨vg2, rfl, ho, u⟩
  have GR2 := hid (ints_rep ho (GI.out _ H2.out.plain))
  obtain ⟨ag2, cg2, rfl, _, _⟩ := own_slice ho
  replace GR1 := hid (ownsRow_upd GR1.out u fun _ _ => id)
  replace UP := hid (UP.out.trans u)
  obtain ⟨v11, y11, r1, o1, gr1⟩ := append_srcI GR1.out ag2 cg2 (guiltyF g2) GR2.out (by have := GL.out _ H1.out.plain; have := GL.out _ H2.out.plain; omega) UP.out.size
  have U11 := hid ((UP.out.mono fun _ q => q.elim : Upd (fun j => y8.heap.size ≤ j) y8 y10).grown gr1 fun k hk => .inl (own_lt GR1.out k hk).1)
  have UF11 := hid (U11.out.shut fun i hi q => by omega)
  have O11 := hid o1; have R11 := hid r1
  clear ho u GR1 GR2 UP o1 r1 gr1
  go_wp2_with (at_builtin; refine wpList_append_run rfl _ _ _ _ rfl rfl rfl R11.out ?_)
  refine (fguilty_any (H4.out.keep UF11.out).his H4.out.plain H4.out.gnd.ring.ok H4.out.few).mono ?_
  rintro en y12 ⟨vg4, rfl, ho, u⟩
  have GR4 := hid (ints_rep ho (GI.out _ H4.out.plain))
  obtain ⟨ag4, cg4, rfl, _, _⟩ := own_slice ho
  have o11 := ownsRow_upd O11.out u fun _ _ => id
  have U12 := U11.out.trans (u.mono fun _ q => q.elim : Upd (fun j => y8.heap.size ≤ j) y11 y12)
  obtain ⟨v13, y13, r1, o1, gr1⟩ := append_srcI o11 ag4 cg4 (guiltyF g4) GR4.out (by have := GL.out _ H1.out.plain; have := GL.out _ H2.out.plain; have := GL.out _ H4.out.plain; omega) U12.size
  have U13 := hid (U12.grown gr1 fun k hk => .inl (own_lt o11 k hk).1)
  have UF := hid (U13.out.shut fun i hi q => by omega)
  obtain ⟨pl, hpl⟩ : ∃ pl, guiltyF g1 ++ guiltyF g2 ++ guiltyF g4 = pl := ⟨_, rfl⟩
  have o13 : y13.ownsRow y8.heap.size 3 1 v13 pl.length (pl.map fun x => .int .i64 x) := by
    rw [← hpl, List.length_append, List.length_append, List.map_append, List.map_append]; exact o1
  have PIN := hid (show ∀ x ∈ pl, x ∈ guiltyF hs from fun x hx => by
    rw [← hpl, List.mem_append, List.mem_append] at hx
    rcases hx with (q | q) | q
    · exact guilty_in H1.out.plain HH.out.plain S1.out q
    · exact guilty_in H2.out.plain HH.out.plain S2.out q
    · exact guilty_in H4.out.plain HH.out.plain S4.out q)
  have PLEN := hid (show pl.length ≤ 300 by rw [← hpl, List.length_append, List.length_append]; have := GL.out _ H1.out.plain; have := GL.out _ H2.out.plain; have := GL.out _ H4.out.plain; omega)
  have PR := hid (ints_rep o13 fun x hx => GI.out _ HH.out.plain x (PIN.out x hx))
  obtain ⟨ap, cp, rfl, hp1, hp2⟩ := own_slice o13
  have hp2 : cp ≤ 9223372036854775807 := hp2
  have R13 := hid r1
  replace HH := hid (HH.out.keep UF.out); replace H1 := hid (H1.out.keep UF.out); replace H2 := hid (H2.out.keep UF.out); replace H4 := hid (H4.out.keep UF.out); replace UC := hid (UX.out.trans (UC.out.trans UF.out))
  have G0 := hid (fun (y : World) (uy : Upd (fun _ => False) y13 y) => G0R.out y (UF.out.trans uy))
  have CELL := hid (fun (y : World) (u : Upd (fun _ => False) y13 y) (hp : 0 < pl.length) => (show ∃ g o, ap = some ⟨g, o, none⟩ ∧ ∀ k (hk : k < pl.length), y.cell? ⟨g, o + k, none⟩ = some (.int .i64 pl[k]) from by
    obtain ⟨a, c, e, _, _, h3⟩ := slice_open PR.out
    obtain ⟨g, o, ea, hg, hel⟩ := h3 hp
    injection e with e1 _ _
    exact ⟨g, o, by rw [e1, ea], fun k hk => cell_kept (int_cells hel hk) (u.block g hg.2 id)⟩))
  obtain ⟨N, hN⟩ : ∃ N, pl.length = N := ⟨_, rfl⟩
  have HN := hid hN
  rw [hN] at hp1 R13
  have hN300 : N ≤ 300 := by rw [← hN]; exact PLEN.out
  clear ho u o11 U12 U13 UF o1 o13 r1 gr1 hpl hN GR4 O11 U11 UF11 R11 PR G0R GL
  go_wp2_with (at_builtin; refine wpList_append_run rfl _ _ _ _ rfl rfl rfl R13.out ?_)
  clear R13
  go_loopg [19] N (fun gg s19 wr => ∃ k : Nat, k ≤ N ∧ gg = N - k ∧ s19 = .int .i64 k ∧ y13 = wr)
  case atStart => exact ⟨0, Nat.zero_le _, rfl, rfl, rfl⟩
  case round =>
    obtain ⟨k, hk, hg, rfl, rfl⟩ := hrel
    have HG := hid hg
    clear hg
    by_cases hlt : k < N
    case pos =>
      as_aux_lemma =>
      have hlti : (k : Int) < N := by omega
      have hk1 : (k : Int) + 1 ≤ 1000 := by omega
      have hkl : k < pl.length := by rw [HN.out]; exact hlt
      obtain ⟨g, o, rfl, hcell⟩ := CELL.out _ (Upd.refl _ _) (by omega)
      have m0 := hcell k hkl
      obtain ⟨x, hx⟩ : ∃ x, pl[k] = x := ⟨_, rfl⟩
      have XIN := hid (show x ∈ guiltyF hs from PIN.out x (hx ▸ List.getElem_mem hkl))
      rw [hx] at m0
      clear hcell hx
      go_wp2_with fail
      refine (has9_any _ _ _ x _ (G0.out _ (Upd.refl _ _))).mono ?_
      rintro en yy ⟨rfl, rfl⟩
      rw [decide_eq_true XIN.out]
      go_wp2_with fail
      go_roundg (N - (k + 1))
      case measure => have := HG.out; omega
      case rel => exact ⟨k + 1, by omega, rfl, by go_num, rfl⟩
    as_aux_lemma =>
    have hlti : ¬ (k : Int) < N := by omega
    clear hk HG CELL
    have SP1 := hid (fun q => straight_part H1.out.plain HH.out.plain S1.out (a := au) q)
    have SP2 := hid (fun q => straight_part H2.out.plain HH.out.plain S2.out (a := au) q)
    have SP4 := hid (fun q => straight_part H4.out.plain HH.out.plain S4.out (a := au) q)
    have SNO := hid (fun q => straight_no HH.out.plain (a := au) q)
    have APART := hid (fun p q r => apart_guilty H1.out.plain H2.out.plain H4.out.plain HH.out.plain J4.out S4.out (a := au) p q r)
    have UY := hid (Upd.refl (fun _ => False) y13)
    by_cases p0 : StraightP hs au
    case pos =>
      go_wp2_with fail
      refine (fstraight_any HH.out.his HH.out.plain HH.out.gnd.ring.ok HH.out.few au ha).mono ?_
      rintro en y14 ⟨rfl, u⟩
      rw [straight_yes p0]
      replace HH := hid (HH.out.keep u); replace H1 := hid (H1.out.keep u); replace H2 := hid (H2.out.keep u); replace H4 := hid (H4.out.keep u); replace UC := hid (UC.out.trans u); replace UY := hid (UY.out.trans u)
      clear u
      go_wp2_with fail
      refine (fstraight_any H1.out.his H1.out.plain H1.out.gnd.ring.ok H1.out.few au ha).mono ?_
      rintro en y15 ⟨rfl, u⟩
      rw [straight_yes (SP1.out p0)]
      replace HH := hid (HH.out.keep u); replace H1 := hid (H1.out.keep u); replace H2 := hid (H2.out.keep u); replace H4 := hid (H4.out.keep u); replace UC := hid (UC.out.trans u); replace UY := hid (UY.out.trans u)
      clear u
      go_wp2_with fail
      refine (fstraight_any H2.out.his H2.out.plain H2.out.gnd.ring.ok H2.out.few au ha).mono ?_
      rintro en y16 ⟨rfl, u⟩
      rw [straight_yes (SP2.out p0)]
      replace HH := hid (HH.out.keep u); replace H1 := hid (H1.out.keep u); replace H2 := hid (H2.out.keep u); replace H4 := hid (H4.out.keep u); replace UC := hid (UC.out.trans u); replace UY := hid (UY.out.trans u)
      clear u
      go_wp2_with fail
      refine (fstraight_any H4.out.his H4.out.plain H4.out.gnd.ring.ok H4.out.few au ha).mono ?_
      rintro en y17 ⟨rfl, u⟩
      rw [straight_yes (SP4.out p0)]
      replace HH := hid (HH.out.keep u); replace H1 := hid (H1.out.keep u); replace H2 := hid (H2.out.keep u); replace H4 := hid (H4.out.keep u); replace UC := hid (UC.out.trans u); replace UY := hid (UY.out.trans u)
      clear u
      go_wp2_with fail
      refine (has9_any _ _ _ au _ (G0.out _ UY.out)).mono ?_
      rintro en yy ⟨rfl, rfl⟩
      rw [decide_eq_false (SNO.out p0)]
      go_wp2_with fail
      refine (fstraight_any H1.out.his H1.out.plain H1.out.gnd.ring.ok H1.out.few au ha).mono ?_
      rintro en y18 ⟨rfl, u⟩
      rw [straight_yes (SP1.out p0)]
      replace HH := hid (HH.out.keep u); replace H1 := hid (H1.out.keep u); replace H2 := hid (H2.out.keep u); replace H4 := hid (H4.out.keep u); replace UC := hid (UC.out.trans u); replace UY := hid (UY.out.trans u)
      clear u
      go_wp2_with fail
      refine (fstraight_any H2.out.his H2.out.plain H2.out.gnd.ring.ok H2.out.few au ha).mono ?_
      rintro en y19 ⟨rfl, u⟩
      rw [straight_yes (SP2.out p0)]
      replace HH := hid (HH.out.keep u); replace H1 := hid (H1.out.keep u); replace H2 := hid (H2.out.keep u); replace H4 := hid (H4.out.keep u); replace UC := hid (UC.out.trans u); replace UY := hid (UY.out.trans u)
      clear u
      go_wp2_with fail
      refine (fstraight_any H4.out.his H4.out.plain H4.out.gnd.ring.ok H4.out.few au ha).mono ?_
      rintro en y20 ⟨rfl, u⟩
      rw [straight_yes (SP4.out p0)]
      replace HH := hid (HH.out.keep u); replace H1 := hid (H1.out.keep u); replace H2 := hid (H2.out.keep u); replace H4 := hid (H4.out.keep u); replace UC := hid (UC.out.trans u); replace UY := hid (UY.out.trans u)
      clear u
      go_wp2_with fail
      go_ret
      exact ⟨rfl, UC.out⟩
    go_wp2_with fail
    refine (fstraight_any HH.out.his HH.out.plain HH.out.gnd.ring.ok HH.out.few au ha).mono ?_
    rintro en y21 ⟨rfl, u⟩
    rw [straight_nay p0]
    replace HH := hid (HH.out.keep u); replace H1 := hid (H1.out.keep u); replace H2 := hid (H2.out.keep u); replace H4 := hid (H4.out.keep u); replace UC := hid (UC.out.trans u); replace UY := hid (UY.out.trans u)
    clear u
    by_cases p1 : StraightP g1 au
    case neg =>
      go_wp2_with fail
      refine (fstraight_any H1.out.his H1.out.plain H1.out.gnd.ring.ok H1.out.few au ha).mono ?_
      rintro en y22 ⟨rfl, u⟩
      rw [straight_nay p1]
      replace HH := hid (HH.out.keep u); replace H1 := hid (H1.out.keep u); replace H2 := hid (H2.out.keep u); replace H4 := hid (H4.out.keep u); replace UC := hid (UC.out.trans u); replace UY := hid (UY.out.trans u)
      clear u
      go_wp2_with fail
      go_ret
      exact ⟨rfl, UC.out⟩
    go_wp2_with fail
    refine (fstraight_any H1.out.his H1.out.plain H1.out.gnd.ring.ok H1.out.few au ha).mono ?_
    rintro en y23 ⟨rfl, u⟩
    rw [straight_yes p1]
    replace HH := hid (HH.out.keep u); replace H1 := hid (H1.out.keep u); replace H2 := hid (H2.out.keep u); replace H4 := hid (H4.out.keep u); replace UC := hid (UC.out.trans u); replace UY := hid (UY.out.trans u)
    clear u
    by_cases p2 : StraightP g2 au
    case neg =>
      go_wp2_with fail
      refine (fstraight_any H2.out.his H2.out.plain H2.out.gnd.ring.ok H2.out.few au ha).mono ?_
      rintro en y24 ⟨rfl, u⟩
      rw [straight_nay p2]
      replace HH := hid (HH.out.keep u); replace H1 := hid (H1.out.keep u); replace H2 := hid (H2.out.keep u); replace H4 := hid (H4.out.keep u); replace UC := hid (UC.out.trans u); replace UY := hid (UY.out.trans u)
      clear u
      go_wp2_with fail
      go_ret
      exact ⟨rfl, UC.out⟩
    go_wp2_with fail
    refine (fstraight_any H2.out.his H2.out.plain H2.out.gnd.ring.ok H2.out.few au ha).mono ?_
    rintro en y25 ⟨rfl, u⟩
    rw [straight_yes p2]
    replace HH := hid (HH.out.keep u); replace H1 := hid (H1.out.keep u); replace H2 := hid (H2.out.keep u); replace H4 := hid (H4.out.keep u); replace UC := hid (UC.out.trans u); replace UY := hid (UY.out.trans u)
    clear u
    by_cases p4 : StraightP g4 au
    case pos =>
      go_wp2_with fail
      refine (fstraight_any H4.out.his H4.out.plain H4.out.gnd.ring.ok H4.out.few au ha).mono ?_
      rintro en y26 ⟨rfl, u⟩
      rw [straight_yes p4]
      replace HH := hid (HH.out.keep u); replace H1 := hid (H1.out.keep u); replace H2 := hid (H2.out.keep u); replace H4 := hid (H4.out.keep u); replace UC := hid (UC.out.trans u); replace UY := hid (UY.out.trans u)
      clear u
      go_wp2_with fail
      go_ret
      exact ⟨rfl, UC.out⟩
    go_wp2_with fail
    refine (fstraight_any H4.out.his H4.out.plain H4.out.gnd.ring.ok H4.out.few au ha).mono ?_
    rintro en y27 ⟨rfl, u⟩
    rw [straight_nay p4]
    replace HH := hid (HH.out.keep u); replace H1 := hid (H1.out.keep u); replace H2 := hid (H2.out.keep u); replace H4 := hid (H4.out.keep u); replace UC := hid (UC.out.trans u); replace UY := hid (UY.out.trans u)
    clear u
    have AG := APART.out p1 p2 p4
    go_wp2_with fail
    refine (fguilty_any H4.out.his H4.out.plain H4.out.gnd.ring.ok H4.out.few).mono ?_
    rintro en y28 ⟨vq, rfl, ho, u⟩
    have GQ := hid (ints_rep ho (GI.out _ H4.out.plain))
    replace HH := hid (HH.out.keep u); replace H1 := hid (H1.out.keep u); replace H2 := hid (H2.out.keep u); replace H4 := hid (H4.out.keep u); replace UC := hid (UC.out.trans u); replace UY := hid (UY.out.trans u)
    clear u
    go_wp2_with fail
    refine (has9_any _ _ _ au _ GQ.out).mono ?_
    rintro en yy ⟨rfl, rfl⟩
    rw [decide_eq_true AG.1]
    go_wp2_with fail
    refine (has9_any _ _ _ au _ (G0.out _ UY.out)).mono ?_
    rintro en yy ⟨rfl, rfl⟩
    rw [decide_eq_true AG.2]
    go_wp2_with fail
    go_ret
    exact ⟨rfl, UC.out⟩
theorem stays_card (v : Value) (l : List Po) (one two au : Int) (w : World) (E : Env w) (hu : UsesIn w) (hz : 6 ≤ w.heap.size) (h : kPos.rep (· < w.heap.size) w [v] l) (_ : (Lit.int .i64 one).wf = true) (_ : (Lit.int .i64 two).wf = true) (ha : (Lit.int .i64 au).wf = true) : Calls Tryz.prog 11 #[v, .int .i64 one, .int .i64 two, .int .i64 au] w fun e w' => e = .returned (.bool true) ∧ Below w.heap.size w w' :=
  (stays_walk v l one two au w ha E hu hz h).mono fun _ _ ⟨a, u⟩ => ⟨a, u.below (Nat.le_refl _) fun _ q => q.elim⟩
end Go.Proofs.YtalhmpggpjbeaaaGreatDoor
