/- Walks: DagOrders. -/
import Derived.Test.YtalhmpggpjbeaaaGreatDoorJ19
import Derived.Test.YtalhmpggpjbeaaaGreatDoorCDgAlike
namespace Go.Proofs.YtalhmpggpjbeaaaGreatDoor
open Go.RowKit Go.Deep

theorem rev_take {l : List Sg} {k j : Nat} (hk : k < l.length) (hj : l.length - 1 - k = j) (hjl : j < l.length) : l.reverse.take (k + 1) = l.reverse.take k ++ [l[j]] := by
  rw [List.take_succ_eq_append_getElem (by rw [List.length_reverse]; exact hk), List.getElem_reverse]
  simp [hj]
/-- The first ones of a row of numbers. -/
theorem ints_take {w : World} {B : Nat} {v : Value} {l : List Int} {g cap n : Nat} (h : w.ownsRow B 3 1 v l.length (l.map fun x => .int .i64 x)) (hv : v = .slice (some ⟨g, 0, none⟩) l.length cap) (hw : ∀ x ∈ l, I64 x) (hn : n ≤ l.length) : kInts.rep (· < w.heap.size) w [.slice (some ⟨g, 0, none⟩) n cap] (l.take n) := by
  have hr := ints_rep h hw
  subst hv
  rcases Nat.eq_zero_or_pos n with h0 | hp
  · subst h0
    obtain ⟨_, _, e, h1, h2, _⟩ := slice_open hr
    injection e with _ _ e3
    exact .inl ⟨_, _, rfl, by rw [e3]; exact h2, by simp⟩
  · obtain ⟨a, c, e, h1, h2, h3⟩ := slice_open hr
    obtain ⟨b, o, ea, hA, hel⟩ := h3 (by omega)
    injection e with e1 e2 e3
    rw [ea] at e1
    injection e1 with e1
    injection e1 with eb eo _
    refine .inr ⟨g, 0, cap, by rw [List.length_take, Nat.min_eq_left hn], by rw [List.length_take]; omega, by rw [e3]; exact h2, by rw [eb]; exact hA.2, fun i hi => ?_⟩
    rw [List.length_take] at hi
    have := hel i (by omega)
    rw [List.getElem_take, eb, eo]
    exact this
theorem ints_drop {w : World} {B : Nat} {v : Value} {l : List Int} {g cap n : Nat} (h : w.ownsRow B 3 1 v l.length (l.map fun x => .int .i64 x)) (hv : v = .slice (some ⟨g, 0, none⟩) l.length cap) (hw : ∀ x ∈ l, I64 x) (hn : n ≤ l.length) (hc : ¬ n = cap) : kInts.rep (· < w.heap.size) w [.slice (some ⟨g, n, none⟩) (l.length - n) (cap - n)] (l.drop n) := by
  have hr := ints_rep h hw
  subst hv
  obtain ⟨a, c, e, h1, h2, h3⟩ := slice_open hr
  injection e with e1 e2 e3
  rcases Nat.eq_zero_or_pos (l.length - n) with h0 | hp
  · exact .inl ⟨_, _, by rw [h0], by rw [e3]; exact Nat.le_trans (Nat.sub_le _ _) h2, by rw [List.drop_eq_nil_of_le]; omega⟩
  · obtain ⟨b, o, ea, hA, hel⟩ := h3 (by omega)
    rw [ea] at e1
    injection e1 with e1
    injection e1 with eb eo _
    refine .inr ⟨g, n, cap - n, by rw [List.length_drop], by rw [List.length_drop]; omega, by rw [e3]; exact Nat.le_trans (Nat.sub_le _ _) h2, by rw [eb]; exact hA.2, fun i hi => ?_⟩
    rw [List.length_drop] at hi
    have := hel (n + i) (by omega)
    rw [List.getElem_drop, eb]
    subst eo
    rw [Nat.zero_add] at this
    simpa [Nat.add_mul, kInt] using this
set_option maxRecDepth 100000 in
set_option maxHeartbeats 16000000 in
theorem orders_walk (v : Value) (l : List Po) (cut : Int) (w : World) (E : Env w) (hu : UsesIn w) (hz : 6 ≤ w.heap.size) (h : kPos.rep (· < w.heap.size) w [v] l) (hcw : (Lit.int .i64 cut).wf = true) : Calls Tryz.prog 4 #[v, .int .i64 cut] w fun e w' => e = .returned (.bool true) ∧ Upd (fun _ => False) w w' := by
  have HE := hid E; have HU := hid hu; have HZ := hid hz
  have HP0 := hid h
  obtain ⟨av, cv, rfl, _, hcv, _⟩ := slice_open h
  clear E hu hz h
  go_enter Tryz.func4, Tryz.ntmps4
  go_wp2_with fail
  refine (small_any w HE.out HU.out HZ.out).mono ?_
  rintro en x0 ⟨rfl, u⟩
  have U0 := hid u
  have HP := hid (kPos.mono (kPos.keep HP0.out (Same.of_upd u fun _ _ => id)) fun g hg => (Nat.lt_of_lt_of_le hg u.size : g < x0.heap.size))
  clear u HP0
  go_wp2_with fail
  refine (fewL_any _ _ l 16 _ HP.out (by decide)).mono ?_
  rintro en x1 ⟨rfl, u⟩
  by_cases hf : FewL l 16
  case neg =>
    rw [decide_eq_false hf]
    have U1 := hid (U0.out.trans u)
    clear u
    go_wp2_with fail
    go_ret
    exact ⟨rfl, U1.out⟩
  rw [decide_eq_true hf]
  replace U0 := hid (U0.out.trans u)
  replace HP := hid (kPos.mono (kPos.keep HP.out (Same.of_upd u fun _ _ => id)) fun g hg => (Nat.lt_of_lt_of_le hg u.size : g < x1.heap.size))
  have HF := hid hf
  clear u hf
  go_wp2_with fail
  refine (signed_any _ l _ HP.out (by have := HF.out.1; omega) HF.out.2 (Nat.le_trans HZ.out U0.out.size)).mono ?_
  rintro en x2 ⟨r, vs, Or, rfl, q1, q2, q3, q4, u⟩
  have LI := hid (law_in HE.out HU.out HZ.out U0.out HP.out HF.out (by decide) q1 q2 q3 q4 u)
  obtain ⟨aS, cs, rfl, hs1, hs2⟩ := own_slice q2
  have hs2 : cs ≤ 9223372036854775807 := hs2
  clear q1 q2 q3 q4 u HP
  obtain ⟨R, hR⟩ : ∃ R, (signedF l).1 = R := ⟨_, rfl⟩
  obtain ⟨sl, hsl⟩ : ∃ sl, (signedF l).2 = sl := ⟨_, rfl⟩
  have GN := hid (hR ▸ LI.out.gnd : Gnd x2 Or r R)
  have SG := hid (hsl ▸ LI.out.sgs : SgsAt x2 x1.heap.size (.slice aS (signedF l).2.length cs) sl)
  have SS := hid (hsl ▸ LI.out.small : ∀ s ∈ sl, SgSmall s)
  have FW := hid (hR ▸ LI.out.few : R.length ≤ 60)
  have SLL := hid (show sl.length ≤ 60 by rw [← hsl, LI.out.len]; have := HF.out.1; omega)
  have UX := hid (U0.out.trans LI.out.upd)
  rw [hsl] at SG hs1 ⊢
  have LX := hid LI.out.upd.size; have LU := hid LI.out.upd
  clear LI hR hsl HF
  have HC := hid hcw
  clear hcw
  go_wp2_with fail
  go_loopg [8, 9] sl.length (fun gg s8 s9 wr => ∃ k : Nat, k ≤ sl.length ∧ gg = sl.length - k ∧ s9 = .int .i64 k ∧ wr.ownsRow x2.heap.size 36 3 s8 (sl.reverse.take k).length (sgFlat (sl.reverse.take k)) ∧ Upd (fun _ => False) x2 wr)
  case atStart => exact ⟨0, Nat.zero_le _, rfl, rfl, World.ownsRow_nil _ _ _ _, Upd.refl _ _⟩
  case round =>
    obtain ⟨k, hk, hg, rfl, hown, u⟩ := hrel
    have HG := hid hg; have OWN := hid hown; have UU := hid u
    clear hg hown u
    have HLK := hid (show (sl.reverse.take k).length ≤ 60 by rw [List.length_take, List.length_reverse]; have := SLL.out; omega)
    by_cases hlt : k < sl.length
    case pos =>
      as_aux_lemma =>
      have hlti : (k : Int) < sl.length := by omega
      have hk1 : (k : Int) + 1 ≤ 1000 := by have := SLL.out; omega
      obtain ⟨j, hj⟩ : ∃ j, sl.length - 1 - k = j := ⟨_, rfl⟩
      have hjl : j < sl.length := by omega
      have HRT := hid (rev_take hlt hj hjl)
      obtain ⟨n1, hn1⟩ : ∃ n1 : Int, (sl.length : Int) - 1 = n1 := ⟨_, rfl⟩
      have hn2 : n1 - (k : Int) = (j : Int) := by omega
      have hn3 : n1 ≤ 1000 := by have := SLL.out; omega
      have hn4 : 0 ≤ n1 := by omega
      have hji : (j : Int) < sl.length := by omega
      have hj1000 : (j : Int) ≤ 1000 := by have := SLL.out; omega
      obtain ⟨s, hse⟩ : ∃ s, sl[j] = s := ⟨_, rfl⟩
      obtain ⟨g, cap, e1, _, _, _, hgl, hc⟩ := SgsAt.get SG.out (Nat.lt_of_le_of_lt (Nat.zero_le _) hlt)
      cases e1
      obtain ⟨m0, m1, m2⟩ := hc j hjl
      rw [hse] at m0 m1 m2 HRT
      have m0 := cell_kept m0 (UU.out.block g hgl id)
      have m1 := cell_kept m1 (UU.out.block g hgl id)
      have m2 := cell_kept m2 (UU.out.block g hgl id)
      obtain ⟨v', w4, r4, o4, u4, n4⟩ := append_one elemSg OWN.out #[.int .i64 s.key, .string ⟨s.text.toArray⟩, .int .i64 s.mark] rfl (by simp [Value.oneCell']) (by have := HLK.out; unfold maxLen; omega) (by have := HLK.out; omega) UU.out.size 26 (0, 0)
      have O4 := hid o4; have U4 := hid u4
      clear o4 u4 n4 hse hc hj
      have hn1' : (sl.length : Int) - 1 = n1 := hn1
      go_wp2_with (at_builtin; refine wpList_append_run rfl _ _ _ _ rfl rfl rfl r4 ?_)
      go_roundg (sl.length - (k + 1))
      case measure => have := HG.out; omega
      case rel =>
        refine ⟨k + 1, by omega, rfl, by go_num, ?_, UU.out.comp U4.out fun i hi e => by have := (row_lt OWN.out i e).1; omega⟩
        rw [HRT.out, sgFlat_snoc, List.length_append]
        exact O4.out
    as_aux_lemma =>
    have hlti : ¬ (k : Int) < sl.length := by omega
    have HTT := hid (show sl.reverse.take k = sl.reverse by rw [List.take_of_length_le]; rw [List.length_reverse]; omega)
    rw [HTT.out] at OWN
    obtain ⟨vt, hvt⟩ : ∃ vt, u8 = vt := ⟨_, rfl⟩
    rw [hvt] at OWN ⊢
    clear hvt HLK HTT HG hlt hk
    have GNr := hid (GN.out.keep UU.out)
    have MEM := hid (show ∀ s, s ∈ sl ↔ s ∈ sl.reverse from fun s => List.mem_reverse.symm)
    go_wp2_with fail
    refine (known_any GNr.out FW.out (ownsRow_upd SG.out UU.out fun _ _ => id) (by have := SLL.out; omega) SS.out).mono ?_
    rintro en y1 ⟨b1, O1, h1, rfl, q1, q2, q3, q4, q5, u⟩
    have PA := hid q2; have FX1 := hid q3; have FR1 := hid q4
    have HA := hid (show HPre y1 O1 Or b1 r h1 R from ⟨q1, GNr.out.keep u, q2, fun k hk hk' => by have := (GNr.out.ring.lt k hk).2; have := q5 k hk'; omega, FW.out⟩)
    have UC := hid (UU.out.trans u)
    replace OWN := hid (ownsRow_upd OWN.out u fun _ _ => id)
    clear q1 q2 q3 q4 q5 u
    go_wp2_with fail
    refine (known_any HA.out.gnd FW.out (show SgsAt _ _ _ sl.reverse from OWN.out) (by rw [List.length_reverse]; have := SLL.out; omega) (fun s hs => SS.out s (List.mem_reverse.1 hs))).mono ?_
    rintro en y2 ⟨b2, O2, h2, rfl, q1, q2, q3, q4, q5, u⟩
    have PB := hid q2
    have SAME := hid (fix_same PA.out q2 (Nat.le_trans FW.out (by decide)) MEM.out FR1.out FX1.out q4 q3)
    have HB := hid q1
    replace HA := hid (HA.out.keep u)
    replace UC := hid (UC.out.trans u)
    clear q1 q2 q3 q4 q5 u OWN
    go_wp2_with fail
    refine (alike_any HA.out.his HB.out PA.out PB.out FW.out SAME.out).mono ?_
    rintro en y3 ⟨rfl, u⟩
    replace HA := hid (HA.out.keep u)
    replace UC := hid (UC.out.trans u)
    clear u HB PB SAME FX1 FR1 MEM
    go_wp2_with fail
    refine (hmarks_any HA.out.his).mono ?_
    rintro en y4 ⟨vm, rfl, ho, u⟩
    replace HA := hid (HA.out.keep u)
    replace UC := hid (UC.out.trans u)
    have OM := hid ho
    have ML := hid (marksF_len h1)
    have MI := hid (mark_i64 PA.out FW.out)
    obtain ⟨n, hn⟩ : ∃ n : Nat, min (max cut 0) ((marksF h1).length : Int) = (n : Int) := ⟨(min (max cut 0) ((marksF h1).length : Int)).toNat, by omega⟩
    have hnl : n ≤ (marksF h1).length := by omega
    have hnl60 : (marksF h1).length ≤ 60 := by rw [ML.out]; exact Nat.le_trans PA.out.len FW.out
    have HNL := hid hnl
    have hnli : (n : Int) ≤ (marksF h1).length := by omega
    have hcw2 := wfi HC.out
    have three : (vm = .slice none 0 0 ∧ (marksF h1).length = 0) ∨ ∃ g cap, vm = .slice (some ⟨g, 0, none⟩) (marksF h1).length cap ∧ (marksF h1).length ≤ cap ∧ cap ≤ maxLen := by
      rcases ownsRow_fits ho with ⟨q1, q2⟩ | ⟨g, cap, q1, _, _, q2, q3⟩
      · exact .inl ⟨q1, q2⟩
      · exact .inr ⟨g, cap, q1, q2, q3⟩
    clear ho u
    rcases three with ⟨rfl, hz0⟩ | ⟨g, cap, rfl, hc1, hc2⟩
    · have n0 : n = 0 := by omega
      subst n0
      rw [hz0] at hn hnli hnl60
      have hn0 : min (max cut 0) (0 : Int) = 0 := by omega
      clear hn hnli hnl60
      have RT := hid (fun (y : World) (_ : Upd (fun _ => False) y4 y) => (show kInts.rep (· < y.heap.size) y [.slice none 0 0] ((marksF h1).take 0) from by rw [List.take_zero]; exact ints_nil))
      have RD := hid (fun (y : World) (_ : Upd (fun _ => False) y4 y) => (show kInts.rep (· < y.heap.size) y [.slice none 0 0] ((marksF h1).drop 0) from by rw [List.length_eq_zero_iff.1 hz0]; exact ints_nil))
      clear hz0 hnl
      go_upto_region 18 with (fail)
      first | rw [hn] | rw [hn0] | skip
      go_wp2_with fail
      refine (hrestrict_any HA.out _ _ ((marksF h1).take 0) (RT.out _ (Upd.refl _ _))).mono ?_
      rintro en z1 ⟨bx, Ox, rfl, q1, q2, u⟩
      have HX := hid (HA.out.made u q1 (restrict_ok PA.out (Nat.le_trans FW.out (by decide)) _).1 q2)
      have W4 := hid u
      replace HA := hid (HA.out.keep u)
      replace UC := hid (UC.out.trans u)
      clear q1 q2 u
      go_wp2_with fail
      refine (hrestrict_any HA.out _ _ ((marksF h1).drop 0) (RD.out _ W4.out)).mono ?_
      rintro en z2 ⟨bY, Oy, rfl, q1, q2, u⟩
      have HY := hid (HA.out.made u q1 (restrict_ok PA.out (Nat.le_trans FW.out (by decide)) _).1 q2)
      replace HX := hid (HX.out.keep u)
      replace HA := hid (HA.out.keep u)
      replace UC := hid (UC.out.trans u)
      clear q1 q2 u RT RD W4
      have RX := hid (restrict_ok PA.out (Nat.le_trans FW.out (by decide)) ((marksF h1).take 0))
      have RY := hid (restrict_ok PA.out (Nat.le_trans FW.out (by decide)) ((marksF h1).drop 0))
      obtain ⟨X, hX⟩ : ∃ X, restrictF rdF R h1 ((marksF h1).take 0) = X := ⟨_, rfl⟩
      obtain ⟨Y, hY⟩ : ∃ Y, restrictF rdF R h1 ((marksF h1).drop 0) = Y := ⟨_, rfl⟩
      have EX := hid hX; have EY := hid hY
      rw [hX] at HX RX
      rw [hY] at HY RY
      clear hX hY
      go_wp2_with fail
      refine (hcopy_any HX.out).mono ?_
      rintro en z3 ⟨bu, Ou, rfl, q1, q2, u⟩
      have CX := hid (copy_same RX.out.1 (Nat.le_trans FW.out (by decide)))
      have HU' := hid (HX.out.made u q1 CX.out.1 q2)
      have DUX := hid (show ∀ k, Ox k → ¬ Ou k from fun k hk hk' => by have := (HX.out.his.lt k hk).2; have := q2 k hk'; omega)
      have DUY := hid (show ∀ k, Oy k → ¬ Ou k from fun k hk hk' => by have := (HY.out.his.lt k hk).2; have := q2 k hk'; omega)
      have DUA := hid (show ∀ k, O1 k → ¬ Ou k from fun k hk hk' => by have := (HA.out.his.lt k hk).2; have := q2 k hk'; omega)
      have NU := hid (show ∀ k, Ou k → x2.heap.size ≤ k from fun k hk => Nat.le_trans UC.out.size (q2 k hk))
      replace HX := hid (HX.out.keep u); replace HY := hid (HY.out.keep u); replace HA := hid (HA.out.keep u)
      replace UC := hid (UC.out.trans u)
      clear q1 q2 u
      go_wp2_with fail
      refine (hcopy_any HY.out).mono ?_
      rintro en z4 ⟨bv, Ov, rfl, q1, q2, u⟩
      have CY := hid (copy_same RY.out.1 (Nat.le_trans FW.out (by decide)))
      have HV := hid (HY.out.made u q1 CY.out.1 q2)
      have DVU := hid (show ∀ k, Ou k → ¬ Ov k from fun k hk hk' => by have := (HU'.out.his.lt k hk).2; have := q2 k hk'; omega)
      have DVX := hid (show ∀ k, Ox k → ¬ Ov k from fun k hk hk' => by have := (HX.out.his.lt k hk).2; have := q2 k hk'; omega)
      have DVA := hid (show ∀ k, O1 k → ¬ Ov k from fun k hk hk' => by have := (HA.out.his.lt k hk).2; have := q2 k hk'; omega)
      have NV := hid (show ∀ k, Ov k → x2.heap.size ≤ k from fun k hk => Nat.le_trans UC.out.size (q2 k hk))
      replace HX := hid (HX.out.keep u); replace HY := hid (HY.out.keep u); replace HA := hid (HA.out.keep u); replace HU' := hid (HU'.out.keep u)
      replace UC := hid (UC.out.trans u)
      clear q1 q2 u
      have JU := hid (join_parts PA.out (Nat.le_trans FW.out (by decide)) 0 CX.out.1 RY.out.1 (by rw [EX.out]; exact CX.out.2) (by rw [EY.out]; exact fun m => Iff.rfl))
      have JV := hid (join_parts' PA.out (Nat.le_trans FW.out (by decide)) 0 CY.out.1 RX.out.1 (by rw [EY.out]; exact CY.out.2) (by rw [EX.out]; exact fun m => Iff.rfl))
      go_wp2_with fail
      refine (hjoin_any HU'.out HY.out.his RY.out.1).mono ?_
      rintro en z5 ⟨rfl, Ou2, q1, q2, u⟩
      rw [JU.out.1]
      have HX2 := hid (HX.out.upd u DUX.out HU'.out.apart fun k hk => (HU'.out.his.lt k hk).1)
      have HA2 := hid (HA.out.upd u DUA.out HU'.out.apart fun k hk => (HU'.out.his.lt k hk).1)
      have HV2 := hid (HV.out.upd u (fun k hk hk' => DVU.out k hk' hk) HU'.out.apart fun k hk => (HU'.out.his.lt k hk).1)
      have HU2 := hid (HU'.out.grown u q1 JU.out.2.1 q2)
      have DVU2 := hid (show ∀ k, Ou2 k → ¬ Ov k from fun k hk hk' => (q2 k hk).elim (fun z => DVU.out k z hk') fun z => by have := (HV.out.his.lt k hk').2; omega)
      replace UC := hid (UC.out.comp u fun i hi e => by have := NU.out i e; omega)
      clear q1 q2 u HX HA HV HU' DUX DUY DUA DVU NU HY
      go_wp2_with fail
      refine (hjoin_any HV2.out HX2.out.his RX.out.1).mono ?_
      rintro en z6 ⟨rfl, Ov2, q1, q2, u⟩
      rw [JV.out.1]
      have HA3 := hid (HA2.out.upd u DVA.out HV2.out.apart fun k hk => (HV2.out.his.lt k hk).1)
      have HU3 := hid (HU2.out.upd u DVU2.out HV2.out.apart fun k hk => (HV2.out.his.lt k hk).1)
      have HV3 := hid (HV2.out.grown u q1 JV.out.2.1 q2)
      replace UC := hid (UC.out.comp u fun i hi e => by have := NV.out i e; omega)
      clear q1 q2 u HA2 HU2 HV2 HX2 DVX DVA DVU2 NV
      go_wp2_with fail
      refine (alike_any HU3.out.his HA3.out.his JU.out.2.1 PA.out FW.out JU.out.2.2).mono ?_
      rintro en z7 ⟨rfl, u⟩
      replace HA3 := hid (HA3.out.keep u); replace HV3 := hid (HV3.out.keep u)
      replace UC := hid (UC.out.trans u)
      clear u
      go_wp2_with fail
      refine (alike_any HV3.out.his HA3.out.his JV.out.2.1 PA.out FW.out JV.out.2.2).mono ?_
      rintro en z8 ⟨rfl, u⟩
      replace UC := hid (UC.out.trans u)
      clear u
      go_wp2_with fail
      go_ret
      exact ⟨rfl, UX.out.trans UC.out⟩
    · have hc2 : cap ≤ 9223372036854775807 := hc2
      have RT := hid (fun (y : World) (u : Upd (fun _ => False) y4 y) => (ints_take (ownsRow_upd OM.out u fun _ _ => id) rfl MI.out HNL.out : kInts.rep (· < y.heap.size) y [.slice (some ⟨g, 0, none⟩) n cap] ((marksF h1).take n)))
      obtain ⟨ln, hln⟩ : ∃ ln, (marksF h1).length = ln := ⟨_, rfl⟩
      obtain ⟨dn, hdn⟩ : ∃ dn, ln - n = dn := ⟨_, rfl⟩
      have hdi : (ln : Int) - n = dn := by omega
      by_cases hnc : n = cap
      · have RD := hid (fun (y : World) (_ : Upd (fun _ => False) y4 y) => (show kInts.rep (· < y.heap.size) y [.slice (some ⟨g, 0, none⟩) 0 0] ((marksF h1).drop n) from .inl ⟨_, _, rfl, Nat.zero_le _, by rw [List.drop_eq_nil_of_le]; omega⟩))
        rw [hln] at hc1 hnl hnl60 hn hnli ⊢
        have hl2 : n = ln := by omega
        subst hl2
        subst hnc
        clear hdn hdi
        go_upto_region 18 with (fail)
        first | rw [hn] | rw [hn0] | skip
        go_wp2_with fail
        refine (hrestrict_any HA.out _ _ ((marksF h1).take n) (RT.out _ (Upd.refl _ _))).mono ?_
        rintro en z1 ⟨bx, Ox, rfl, q1, q2, u⟩
        have HX := hid (HA.out.made u q1 (restrict_ok PA.out (Nat.le_trans FW.out (by decide)) _).1 q2)
        have W4 := hid u
        replace HA := hid (HA.out.keep u)
        replace UC := hid (UC.out.trans u)
        clear q1 q2 u
        go_wp2_with fail
        refine (hrestrict_any HA.out _ _ ((marksF h1).drop n) (RD.out _ W4.out)).mono ?_
        rintro en z2 ⟨bY, Oy, rfl, q1, q2, u⟩
        have HY := hid (HA.out.made u q1 (restrict_ok PA.out (Nat.le_trans FW.out (by decide)) _).1 q2)
        replace HX := hid (HX.out.keep u)
        replace HA := hid (HA.out.keep u)
        replace UC := hid (UC.out.trans u)
        clear q1 q2 u RT RD W4
        have RX := hid (restrict_ok PA.out (Nat.le_trans FW.out (by decide)) ((marksF h1).take n))
        have RY := hid (restrict_ok PA.out (Nat.le_trans FW.out (by decide)) ((marksF h1).drop n))
        obtain ⟨X, hX⟩ : ∃ X, restrictF rdF R h1 ((marksF h1).take n) = X := ⟨_, rfl⟩
        obtain ⟨Y, hY⟩ : ∃ Y, restrictF rdF R h1 ((marksF h1).drop n) = Y := ⟨_, rfl⟩
        have EX := hid hX; have EY := hid hY
        rw [hX] at HX RX
        rw [hY] at HY RY
        clear hX hY
        go_wp2_with fail
        refine (hcopy_any HX.out).mono ?_
        rintro en z3 ⟨bu, Ou, rfl, q1, q2, u⟩
        have CX := hid (copy_same RX.out.1 (Nat.le_trans FW.out (by decide)))
        have HU' := hid (HX.out.made u q1 CX.out.1 q2)
        have DUX := hid (show ∀ k, Ox k → ¬ Ou k from fun k hk hk' => by have := (HX.out.his.lt k hk).2; have := q2 k hk'; omega)
        have DUY := hid (show ∀ k, Oy k → ¬ Ou k from fun k hk hk' => by have := (HY.out.his.lt k hk).2; have := q2 k hk'; omega)
        have DUA := hid (show ∀ k, O1 k → ¬ Ou k from fun k hk hk' => by have := (HA.out.his.lt k hk).2; have := q2 k hk'; omega)
        have NU := hid (show ∀ k, Ou k → x2.heap.size ≤ k from fun k hk => Nat.le_trans UC.out.size (q2 k hk))
        replace HX := hid (HX.out.keep u); replace HY := hid (HY.out.keep u); replace HA := hid (HA.out.keep u)
        replace UC := hid (UC.out.trans u)
        clear q1 q2 u
        go_wp2_with fail
        refine (hcopy_any HY.out).mono ?_
        rintro en z4 ⟨bv, Ov, rfl, q1, q2, u⟩
        have CY := hid (copy_same RY.out.1 (Nat.le_trans FW.out (by decide)))
        have HV := hid (HY.out.made u q1 CY.out.1 q2)
        have DVU := hid (show ∀ k, Ou k → ¬ Ov k from fun k hk hk' => by have := (HU'.out.his.lt k hk).2; have := q2 k hk'; omega)
        have DVX := hid (show ∀ k, Ox k → ¬ Ov k from fun k hk hk' => by have := (HX.out.his.lt k hk).2; have := q2 k hk'; omega)
        have DVA := hid (show ∀ k, O1 k → ¬ Ov k from fun k hk hk' => by have := (HA.out.his.lt k hk).2; have := q2 k hk'; omega)
        have NV := hid (show ∀ k, Ov k → x2.heap.size ≤ k from fun k hk => Nat.le_trans UC.out.size (q2 k hk))
        replace HX := hid (HX.out.keep u); replace HY := hid (HY.out.keep u); replace HA := hid (HA.out.keep u); replace HU' := hid (HU'.out.keep u)
        replace UC := hid (UC.out.trans u)
        clear q1 q2 u
        have JU := hid (join_parts PA.out (Nat.le_trans FW.out (by decide)) n CX.out.1 RY.out.1 (by rw [EX.out]; exact CX.out.2) (by rw [EY.out]; exact fun m => Iff.rfl))
        have JV := hid (join_parts' PA.out (Nat.le_trans FW.out (by decide)) n CY.out.1 RX.out.1 (by rw [EY.out]; exact CY.out.2) (by rw [EX.out]; exact fun m => Iff.rfl))
        go_wp2_with fail
        refine (hjoin_any HU'.out HY.out.his RY.out.1).mono ?_
        rintro en z5 ⟨rfl, Ou2, q1, q2, u⟩
        rw [JU.out.1]
        have HX2 := hid (HX.out.upd u DUX.out HU'.out.apart fun k hk => (HU'.out.his.lt k hk).1)
        have HA2 := hid (HA.out.upd u DUA.out HU'.out.apart fun k hk => (HU'.out.his.lt k hk).1)
        have HV2 := hid (HV.out.upd u (fun k hk hk' => DVU.out k hk' hk) HU'.out.apart fun k hk => (HU'.out.his.lt k hk).1)
        have HU2 := hid (HU'.out.grown u q1 JU.out.2.1 q2)
        have DVU2 := hid (show ∀ k, Ou2 k → ¬ Ov k from fun k hk hk' => (q2 k hk).elim (fun z => DVU.out k z hk') fun z => by have := (HV.out.his.lt k hk').2; omega)
        replace UC := hid (UC.out.comp u fun i hi e => by have := NU.out i e; omega)
        clear q1 q2 u HX HA HV HU' DUX DUY DUA DVU NU HY
        go_wp2_with fail
        refine (hjoin_any HV2.out HX2.out.his RX.out.1).mono ?_
        rintro en z6 ⟨rfl, Ov2, q1, q2, u⟩
        rw [JV.out.1]
        have HA3 := hid (HA2.out.upd u DVA.out HV2.out.apart fun k hk => (HV2.out.his.lt k hk).1)
        have HU3 := hid (HU2.out.upd u DVU2.out HV2.out.apart fun k hk => (HV2.out.his.lt k hk).1)
        have HV3 := hid (HV2.out.grown u q1 JV.out.2.1 q2)
        replace UC := hid (UC.out.comp u fun i hi e => by have := NV.out i e; omega)
        clear q1 q2 u HA2 HU2 HV2 HX2 DVX DVA DVU2 NV
        go_wp2_with fail
        refine (alike_any HU3.out.his HA3.out.his JU.out.2.1 PA.out FW.out JU.out.2.2).mono ?_
        rintro en z7 ⟨rfl, u⟩
        replace HA3 := hid (HA3.out.keep u); replace HV3 := hid (HV3.out.keep u)
        replace UC := hid (UC.out.trans u)
        clear u
        go_wp2_with fail
        refine (alike_any HV3.out.his HA3.out.his JV.out.2.1 PA.out FW.out JV.out.2.2).mono ?_
        rintro en z8 ⟨rfl, u⟩
        replace UC := hid (UC.out.trans u)
        clear u
        go_wp2_with fail
        go_ret
        exact ⟨rfl, UX.out.trans UC.out⟩
      · have RD := hid (fun (y : World) (u : Upd (fun _ => False) y4 y) => (show kInts.rep (· < y.heap.size) y [.slice (some ⟨g, n, none⟩) dn (cap - n)] ((marksF h1).drop n) from by have q := ints_drop (ownsRow_upd OM.out u fun _ _ => id) rfl MI.out HNL.out hnc; rw [hln, hdn] at q; exact q))
        rw [hln] at hc1 hnl hnl60 hn hnli ⊢
        clear hln
        have hnc2 : ¬ cap = n := fun e => hnc e.symm
        go_upto_region 18 with (fail)
        first | rw [hn] | rw [hn0] | skip
        go_wp2_with fail
        refine (hrestrict_any HA.out _ _ ((marksF h1).take n) (RT.out _ (Upd.refl _ _))).mono ?_
        rintro en z1 ⟨bx, Ox, rfl, q1, q2, u⟩
        have HX := hid (HA.out.made u q1 (restrict_ok PA.out (Nat.le_trans FW.out (by decide)) _).1 q2)
        have W4 := hid u
        replace HA := hid (HA.out.keep u)
        replace UC := hid (UC.out.trans u)
        clear q1 q2 u
        go_wp2_with fail
        refine (hrestrict_any HA.out _ _ ((marksF h1).drop n) (RD.out _ W4.out)).mono ?_
        rintro en z2 ⟨bY, Oy, rfl, q1, q2, u⟩
        have HY := hid (HA.out.made u q1 (restrict_ok PA.out (Nat.le_trans FW.out (by decide)) _).1 q2)
        replace HX := hid (HX.out.keep u)
        replace HA := hid (HA.out.keep u)
        replace UC := hid (UC.out.trans u)
        clear q1 q2 u RT RD W4
        have RX := hid (restrict_ok PA.out (Nat.le_trans FW.out (by decide)) ((marksF h1).take n))
        have RY := hid (restrict_ok PA.out (Nat.le_trans FW.out (by decide)) ((marksF h1).drop n))
        obtain ⟨X, hX⟩ : ∃ X, restrictF rdF R h1 ((marksF h1).take n) = X := ⟨_, rfl⟩
        obtain ⟨Y, hY⟩ : ∃ Y, restrictF rdF R h1 ((marksF h1).drop n) = Y := ⟨_, rfl⟩
        have EX := hid hX; have EY := hid hY
        rw [hX] at HX RX
        rw [hY] at HY RY
        clear hX hY
        go_wp2_with fail
        refine (hcopy_any HX.out).mono ?_
        rintro en z3 ⟨bu, Ou, rfl, q1, q2, u⟩
        have CX := hid (copy_same RX.out.1 (Nat.le_trans FW.out (by decide)))
        have HU' := hid (HX.out.made u q1 CX.out.1 q2)
        have DUX := hid (show ∀ k, Ox k → ¬ Ou k from fun k hk hk' => by have := (HX.out.his.lt k hk).2; have := q2 k hk'; omega)
        have DUY := hid (show ∀ k, Oy k → ¬ Ou k from fun k hk hk' => by have := (HY.out.his.lt k hk).2; have := q2 k hk'; omega)
        have DUA := hid (show ∀ k, O1 k → ¬ Ou k from fun k hk hk' => by have := (HA.out.his.lt k hk).2; have := q2 k hk'; omega)
        have NU := hid (show ∀ k, Ou k → x2.heap.size ≤ k from fun k hk => Nat.le_trans UC.out.size (q2 k hk))
        replace HX := hid (HX.out.keep u); replace HY := hid (HY.out.keep u); replace HA := hid (HA.out.keep u)
        replace UC := hid (UC.out.trans u)
        clear q1 q2 u
        go_wp2_with fail
        refine (hcopy_any HY.out).mono ?_
        rintro en z4 ⟨bv, Ov, rfl, q1, q2, u⟩
        have CY := hid (copy_same RY.out.1 (Nat.le_trans FW.out (by decide)))
        have HV := hid (HY.out.made u q1 CY.out.1 q2)
        have DVU := hid (show ∀ k, Ou k → ¬ Ov k from fun k hk hk' => by have := (HU'.out.his.lt k hk).2; have := q2 k hk'; omega)
        have DVX := hid (show ∀ k, Ox k → ¬ Ov k from fun k hk hk' => by have := (HX.out.his.lt k hk).2; have := q2 k hk'; omega)
        have DVA := hid (show ∀ k, O1 k → ¬ Ov k from fun k hk hk' => by have := (HA.out.his.lt k hk).2; have := q2 k hk'; omega)
        have NV := hid (show ∀ k, Ov k → x2.heap.size ≤ k from fun k hk => Nat.le_trans UC.out.size (q2 k hk))
        replace HX := hid (HX.out.keep u); replace HY := hid (HY.out.keep u); replace HA := hid (HA.out.keep u); replace HU' := hid (HU'.out.keep u)
        replace UC := hid (UC.out.trans u)
        clear q1 q2 u
        have JU := hid (join_parts PA.out (Nat.le_trans FW.out (by decide)) n CX.out.1 RY.out.1 (by rw [EX.out]; exact CX.out.2) (by rw [EY.out]; exact fun m => Iff.rfl))
        have JV := hid (join_parts' PA.out (Nat.le_trans FW.out (by decide)) n CY.out.1 RX.out.1 (by rw [EY.out]; exact CY.out.2) (by rw [EX.out]; exact fun m => Iff.rfl))
        go_wp2_with fail
        refine (hjoin_any HU'.out HY.out.his RY.out.1).mono ?_
        rintro en z5 ⟨rfl, Ou2, q1, q2, u⟩
        rw [JU.out.1]
        have HX2 := hid (HX.out.upd u DUX.out HU'.out.apart fun k hk => (HU'.out.his.lt k hk).1)
        have HA2 := hid (HA.out.upd u DUA.out HU'.out.apart fun k hk => (HU'.out.his.lt k hk).1)
        have HV2 := hid (HV.out.upd u (fun k hk hk' => DVU.out k hk' hk) HU'.out.apart fun k hk => (HU'.out.his.lt k hk).1)
        have HU2 := hid (HU'.out.grown u q1 JU.out.2.1 q2)
        have DVU2 := hid (show ∀ k, Ou2 k → ¬ Ov k from fun k hk hk' => (q2 k hk).elim (fun z => DVU.out k z hk') fun z => by have := (HV.out.his.lt k hk').2; omega)
        replace UC := hid (UC.out.comp u fun i hi e => by have := NU.out i e; omega)
        clear q1 q2 u HX HA HV HU' DUX DUY DUA DVU NU HY
        go_wp2_with fail
        refine (hjoin_any HV2.out HX2.out.his RX.out.1).mono ?_
        rintro en z6 ⟨rfl, Ov2, q1, q2, u⟩
        rw [JV.out.1]
        have HA3 := hid (HA2.out.upd u DVA.out HV2.out.apart fun k hk => (HV2.out.his.lt k hk).1)
        have HU3 := hid (HU2.out.upd u DVU2.out HV2.out.apart fun k hk => (HV2.out.his.lt k hk).1)
        have HV3 := hid (HV2.out.grown u q1 JV.out.2.1 q2)
        replace UC := hid (UC.out.comp u fun i hi e => by have := NV.out i e; omega)
        clear q1 q2 u HA2 HU2 HV2 HX2 DVX DVA DVU2 NV
        go_wp2_with fail
        refine (alike_any HU3.out.his HA3.out.his JU.out.2.1 PA.out FW.out JU.out.2.2).mono ?_
        rintro en z7 ⟨rfl, u⟩
        replace HA3 := hid (HA3.out.keep u); replace HV3 := hid (HV3.out.keep u)
        replace UC := hid (UC.out.trans u)
        clear u
        go_wp2_with fail
        refine (alike_any HV3.out.his HA3.out.his JV.out.2.1 PA.out FW.out JV.out.2.2).mono ?_
        rintro en z8 ⟨rfl, u⟩
        replace UC := hid (UC.out.trans u)
        clear u
        go_wp2_with fail
        go_ret
        exact ⟨rfl, UX.out.trans UC.out⟩
theorem orders_card (v : Value) (l : List Po) (cut : Int) (w : World) (E : Env w) (hu : UsesIn w) (hz : 6 ≤ w.heap.size) (h : kPos.rep (· < w.heap.size) w [v] l) (hcw : (Lit.int .i64 cut).wf = true) : Calls Tryz.prog 4 #[v, .int .i64 cut] w fun e w' => e = .returned (.bool true) ∧ Below w.heap.size w w' :=
  (orders_walk v l cut w E hu hz h hcw).mono fun _ _ ⟨a, u⟩ => ⟨a, u.below (Nat.le_refl _) fun _ q => q.elim⟩
end Go.Proofs.YtalhmpggpjbeaaaGreatDoor
