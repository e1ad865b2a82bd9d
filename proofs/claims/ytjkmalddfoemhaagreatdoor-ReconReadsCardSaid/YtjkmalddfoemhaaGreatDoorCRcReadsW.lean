/- Walks: ReconReads. -/
import Derived.Test.YtjkmalddfoemhaaGreatDoorCRcSmall
import Derived.Test.YtjkmalddfoemhaaGreatDoorJ23
import Derived.Test.YtjkmalddfoemhaaGreatDoorJ22
import Derived.Test.YtjkmalddfoemhaaGreatDoorJ14
namespace Go.Proofs.YtjkmalddfoemhaaGreatDoor
open Go.RowKit Go.Deep

theorem readL_small {M n : Int} : ∀ (k : Nat) {r r' : RS} {last : Int} {out l : List (Int × Int)}, readL M n k r last out = some (l, r') → -1 ≤ last → (∀ p ∈ out, 0 ≤ p.1 ∧ p.1 < p.2 ∧ p.2 ≤ M) → ∀ p ∈ l, 0 ≤ p.1 ∧ p.1 < p.2 ∧ p.2 ≤ M
  | 0, r, r', last, out, l, h, _, ho => by cases h; exact ho
  | k + 1, r, r', last, out, l, h, hl, ho => by
    unfold readL at h
    split at h
    · split at h
      · cases h
      · rename_i c
        refine readL_small k h (by omega) fun p hp => ?_
        rcases List.mem_append.1 hp with q | q
        · exact ho p q
        · rw [List.mem_singleton.1 q]
          show 0 ≤ (numF r).1 ∧ (numF r).1 < (numF (numF r).2).1 ∧ (numF (numF r).2).1 ≤ M
          omega
    · cases h; exact ho
theorem readO_small {M : Int} {s : List UInt8} : ∀ p ∈ (readO M s).1, 0 ≤ p.1 ∧ p.1 < p.2 ∧ p.2 ≤ M := by
  unfold readO
  cases e : readL M (numF ⟨s, false⟩).1 s.length (numF ⟨s, false⟩).2 (-1) [] with
  | none => exact fun p hp => nomatch hp
  | some x =>
    obtain ⟨l, r⟩ := x
    have key := readL_small _ e (by omega) fun p hp => nomatch hp
    unfold readEnd
    by_cases h : r.bad = false ∧ r.rest = [] ∧ (l.length : Int) = (numF ⟨s, false⟩).1
    · dsimp only
      rw [if_pos h]; exact key
    · dsimp only
      rw [if_neg h]; exact fun p hp => nomatch hp
theorem rgsTo_few {l : List (Int × Int)} (hl : l.length ≤ 100000) (hb : ∀ p ∈ l, I64 p.1 ∧ I64 p.2) : ∀ k, k ≤ l.length → (rgsTo l k).length ≤ 21 + 42 * k
  | 0, _ => by rw [rgsTo_zero]; have := numE_len (n := (l.length : Int)) (by unfold I64; omega); omega
  | k + 1, hk => by
    rw [rgsTo_succ (by omega), List.length_append, rgE, List.length_append]
    have h1 := rgsTo_few hl hb k (by omega)
    obtain ⟨i1, i2⟩ := hb _ (List.getElem_mem (show k < l.length by omega))
    have h2 := numE_len i1
    have h3 := numE_len i2
    omega
def sumTo (l : List (Int × Int)) (k : Nat) : Int := sumR (l.take k)
theorem sumTo_succ {l : List (Int × Int)} {k : Nat} (hk : k < l.length) : sumTo l (k + 1) = sumTo l k + l[k].2 - l[k].1 := by
  unfold sumTo
  rw [List.take_succ_eq_append_getElem hk, sumR_append, sumR_one]; omega
theorem sumTo_all {l : List (Int × Int)} {k : Nat} (hk : l.length ≤ k) : sumTo l k = sumR l := by unfold sumTo; rw [List.take_of_length_le hk]
theorem sumTo_le {l : List (Int × Int)} (hb : ∀ p ∈ l, 0 ≤ p.1 ∧ p.1 < p.2 ∧ p.2 ≤ 1000) : ∀ k, k ≤ l.length → 0 ≤ sumTo l k ∧ sumTo l k ≤ 1000 * k
  | 0, _ => by
    have : sumTo l 0 = 0 := rfl
    rw [this]; omega
  | k + 1, hk => by
    obtain ⟨h1, h2⟩ := sumTo_le hb k (by omega)
    have := hb _ (List.getElem_mem (show k < l.length by omega))
    rw [sumTo_succ (by omega)]
    omega
set_option maxRecDepth 100000 in
set_option maxHeartbeats 16000000 in
theorem reads_walk (v : Value) (l : List Po) (one : Int) (s : List UInt8) (w : World) (E : Env w) (hu : UsesIn w) (hz : 6 ≤ w.heap.size) (h : kPos.rep (· < w.heap.size) w [v] l) : Calls Tryz.prog 3 #[v, .int .i64 one, .string ⟨s.toArray⟩] w fun e w' => e = .returned (.bool true) ∧ Upd (fun _ => False) w w' := by
  have HE := hid E; have HU := hid hu; have HZ := hid hz
  have HP0 := hid h
  obtain ⟨av, cv, rfl, _, hcv, _⟩ := slice_open h
  clear E hu hz h
  go_enter Tryz.func3, Tryz.ntmps3
  go_wp2_with fail
  refine (rcsmall_any w HE.out HU.out HZ.out).mono ?_
  rintro en x0 ⟨rfl, u⟩
  have U0 := hid u
  have HP := hid (kPos.mono (kPos.keep HP0.out (Same.of_upd u fun _ _ => id)) fun g hg => (Nat.lt_of_lt_of_le hg u.size : g < x0.heap.size))
  clear u HP0
  go_wp2_with fail
  refine (fewL_any _ _ l 14 _ HP.out (by decide)).mono ?_
  rintro en x1 ⟨rfl, u⟩
  by_cases hf : FewL l 14
  case neg =>
    rw [decide_eq_false hf]
    have U1 := hid (U0.out.trans u)
    clear u
    go_wp2_with fail
    go_ret
    exact ⟨rfl, U1.out⟩
  rw [decide_eq_true hf]
  replace U0 := hid (U0.out.trans u)
  replace HP := hid (kPos.mono (kPos.keep HP.out (Same.of_upd u fun _ _ => id)) fun g hg => (Nat.lt_of_lt_of_le hg u.size : g < x1.heap.size))
  have HF := hid hf
  clear u hf
  by_cases hs15 : s.length ≤ 1500
  case neg =>
    have t15 : (1500 : Int) < (s.length : Int) := by omega
    have d15 : decide ((1500 : Int) < (s.length : Int)) = true := decide_eq_true t15
    go_wp2_with fail
    go_ret
    exact ⟨rfl, U0.out⟩
  have t15 : ¬ (1500 : Int) < (s.length : Int) := by omega
  have d15 : decide ((1500 : Int) < (s.length : Int)) = false := decide_eq_false t15
  have H15 := hid hs15
  clear hs15
  go_wp2_with fail
  refine (play_any _ l _ (HE.out.keep0 U0.out) (HU.out.keep U0.out) HP.out (by have := HF.out.1; omega) ⟨Nat.le_refl _, HF.out.2⟩ (Nat.le_trans HZ.out U0.out.size)).mono ?_
  rintro en x2 ⟨r, vs, b, O, Or, rfl, PA⟩
  obtain ⟨hs, hhs⟩ : ∃ hs, playF l = hs := ⟨_, rfl⟩
  obtain ⟨R, hR⟩ : ∃ R, (signedF l).1 = R := ⟨_, rfl⟩
  have HH := hid (show HPre x2 O Or b r hs R by rw [← hhs, ← hR]; exact PA.pre)
  have HO := hid (show ∀ k, O k → w.heap.size ≤ k from fun k hk => Nat.le_trans U0.out.size (PA.own k hk))
  have UX := hid (U0.out.trans PA.upd)
  have RL := hid (show R.length ≤ 4000 from Nat.le_trans HH.out.few (by decide))
  have MI := hid (fun x (hx : x ∈ marksF hs) => (show I64 x from by have := marks_small HH.out.plain hx; have := HH.out.few; unfold I64; omega))
  have ML := hid (show (marksF hs).length ≤ 1000 by rw [marksF_len]; have := HH.out.plain.len; have := HH.out.few; omega)
  clear PA hhs hR HF HP U0 t15 d15
  go_wp2_with fail
  refine (hmarks_any HH.out.his).mono ?_
  rintro en za1 ⟨vm, rfl, ho, u⟩
  have MR := hid (ints_rep ho MI.out)
  replace HH := hid (HH.out.keep u); replace UX := hid (UX.out.trans u)
  clear ho u
  go_wp2_with fail
  refine (some12_any _ _ _ one _ MR.out (fun g hg => hg.2) ML.out).mono ?_
  rintro en za2 ⟨l1, hsub, v1, rfl, ho, u⟩
  have R1 := hid (ints_rep ho fun x hx => MI.out x (hsub x hx))
  replace HH := hid (HH.out.keep u); replace UX := hid (UX.out.trans u)
  clear ho u hsub MR
  go_wp2_with fail
  refine (hrestrict_any HH.out _ _ l1 R1.out).mono ?_
  rintro en za3 ⟨b1, O1, rfl, q1, q2, u⟩
  have H1 := hid (HH.out.made u q1 (restrict_ok HH.out.plain RL.out l1).1 q2)
  have W1 := hid (show ∀ k, O1 k → w.heap.size ≤ k from fun k hk => Nat.le_trans UX.out.size (q2 k hk))
  replace HH := hid (HH.out.keep u); replace UX := hid (UX.out.trans u)
  obtain ⟨g1, hg1⟩ : ∃ g, restrictF rdF R hs l1 = g := ⟨_, rfl⟩
  rw [hg1] at H1
  clear q1 q2 u R1 hg1
  clear HH HO ML MI
  have OI := hid (offer_inv H1.out.plain)
  have OE := hid (offer_end H1.out.plain)
  have ORD := hid (offer_read H1.out.plain (Nat.le_trans RL.out (by decide)))
  have OLN := hid (offer_len g1)
  have OBY := hid (offer_bytes H1.out.plain H1.out.few)
  have MK := hid (show (marksF g1).length = g1.length from marksF_len g1)
  have ML := hid (show (marksF g1).length ≤ 60 by rw [marksF_len]; have := H1.out.plain.len; have := H1.out.few; omega)
  have MI := hid (fun x (hx : x ∈ marksF g1) => (show I64 x from by have := marks_small H1.out.plain hx; have := H1.out.few; unfold I64; omega))
  go_wp2_with fail
  refine (offer_any H1.out).mono ?_
  rintro en y1 ⟨rfl, u⟩
  replace H1 := hid (H1.out.keep u); replace UX := hid (UX.out.trans u)
  clear u
  go_wp2_with fail
  refine (readO_any (offerF g1) _ H1.out.gnd.env H1.out.gnd.six (by have := OBY.out; omega)).mono ?_
  rintro en y2 ⟨vx, rfl, ho, u⟩
  replace H1 := hid (H1.out.keep u); replace UX := hid (UX.out.trans u)
  rw [ORD.out] at ho ⊢
  dsimp only at ho ⊢
  have RX := hid ho
  obtain ⟨X, hX⟩ : ∃ X, offerR g1 = X := ⟨_, rfl⟩
  rw [hX] at RX OI OE OLN
  have XB := hid (show ∀ p ∈ X, 0 ≤ p.1 ∧ p.1 < p.2 ∧ p.2 ≤ 1000 from fun p hp => by have h1 := OI.out.ap.each p hp; have h2 := OE.out p hp; have := H1.out.few; omega)
  have XS := hid (sumTo_le XB.out)
  have XL := hid (show X.length ≤ 60 by have := OLN.out; have := H1.out.plain.len; have := H1.out.few; omega)
  obtain ⟨ax, cx, rfl, hx1, hx2⟩ := prs_slice RX.out
  have hx2 : cx ≤ 9223372036854775807 := hx2
  have CX := hid (fun (y : World) (u : Upd (fun _ => False) y2 y) (hp : 0 < X.length) => (show ∃ g, ax = some ⟨g, 0, none⟩ ∧ ∀ k (hk : k < X.length), y.cell? ⟨g, k * 2, none⟩ = some (.int .i64 X[k].1) ∧ y.cell? ⟨g, k * 2 + 1, none⟩ = some (.int .i64 X[k].2) from by
    obtain ⟨g, c2, e, _, _, _, hgl, hc⟩ := PrsAt.get RX.out hp
    injection e with e1 _ _
    exact ⟨g, e1, fun k hk => ⟨cell_kept (hc k hk).1 (u.block g hgl id), cell_kept (hc k hk).2 (u.block g hgl id)⟩⟩))
  have XAP := hid (fun (i : Nat) (hi : i < X.length) (h0 : 0 < i) => (show X[i - 1].2 < X[i].1 from List.pairwise_iff_getElem.1 OI.out.ap.asc (i - 1) i (by omega) hi (by omega)))
  obtain ⟨N, hN⟩ : ∃ N, X.length = N := ⟨_, rfl⟩
  have HN := hid hN
  have hN60 : N ≤ 60 := by rw [← hN]; exact XL.out
  rw [hN] at hx1 ⊢
  clear ho u hX hN OLN OBY ORD OE
  go_wp2_with (first | go_quiet (fail) | fail)
  go_loopg [13, 14] N (fun gg s9 s10 wr => ∃ k : Nat, k ≤ N ∧ gg = N - k ∧ s10 = .int .i64 k ∧ s9 = .int .i64 (sumTo X k) ∧ Upd (fun _ => False) y2 wr)
  case atStart => exact ⟨0, Nat.zero_le _, rfl, rfl, rfl, Upd.refl _ _⟩
  case round =>
    obtain ⟨k, hk, hg, rfl, rfl, u⟩ := hrel
    have HG := hid hg; have UR := hid u
    clear hg u
    by_cases hlt : k < N
    case pos =>
      as_aux_lemma =>
      have hlti : (k : Int) < N := by omega
      have hk1 : (k : Int) + 1 ≤ 1000 := by omega
      have hkl : k < X.length := by rw [HN.out]; exact hlt
      obtain ⟨g, rfl, hc⟩ := CX.out _ UR.out (by omega)
      obtain ⟨c0, c1⟩ := hc k hkl
      have ST := hid (sumTo_succ hkl)
      obtain ⟨z0, z1⟩ := XS.out k (by omega)
      obtain ⟨b0, b1, b2⟩ := XB.out _ (List.getElem_mem hkl)
      have AP := hid (XAP.out k hkl)
      have HCC := hid hc
      obtain ⟨p, hp⟩ : ∃ p, X[k] = p := ⟨_, rfl⟩
      rw [hp] at c0 c1 ST b0 b1 b2 AP
      obtain ⟨x1, x2⟩ := p
      dsimp only at c0 c1 ST b0 b1 b2 AP
      obtain ⟨z, hz⟩ : ∃ z, sumTo X k = z := ⟨_, rfl⟩
      rw [hz] at ST z0 z1 ⊢
      have t0 : ¬ x1 < 0 := by omega
      have t1 : ¬ x2 ≤ x1 := by omega
      have d0 : decide (x1 < 0) = false := decide_eq_false t0
      have d1 : decide (x2 ≤ x1) = false := decide_eq_false t1
      have s0 : z + x2 ≤ 9223372036854775807 := by omega
      have s1 : -9223372036854775808 ≤ z + x2 := by omega
      have s2 : z + x2 - x1 ≤ 9223372036854775807 := by omega
      have s3 : -9223372036854775808 ≤ z + x2 - x1 := by omega
      clear hc hp hz
      cases k with
      | zero =>
        clear AP HCC
        have e0 := fun p : UW wr => p.cell c0
        have e1 := fun p : UW wr => p.cell c1
        go_upto_region 15 with (fail)
        refine region_upd (by kernel_rfl) (by kernel_rfl) ?_
        repeat (go_big_quiet_step (fail))
        refine wpQuiet_nil ?_
        intro w3 hw1
        obtain ⟨pw, hpw⟩ := hw1
        have uq : Upd (fun _ => False) wr w3 := by rw [hpw]; exact pw.u
        have U3 := hid (UR.out.trans uq)
        have f0 : w3.cell? ⟨g, 0 * 2, none⟩ = some (.int .i64 x1) := by rw [hpw]; exact e0 pw
        have f1 : w3.cell? ⟨g, 0 * 2 + 1, none⟩ = some (.int .i64 x2) := by rw [hpw]; exact e1 pw
        clear hpw pw uq e0 e1 c0 c1
        go_upto_region 17 with (fail)
        have e0 := fun p : UW w3 => p.cell f0
        have e1 := fun p : UW w3 => p.cell f1
        refine region_upd (by kernel_rfl) (by kernel_rfl) ?_
        repeat (go_big_quiet_step (fail))
        refine wpQuiet_nil ?_
        intro w4 hw1
        obtain ⟨pw, hpw⟩ := hw1
        have uq : Upd (fun _ => False) w3 w4 := by rw [hpw]; exact pw.u
        have U4 := hid (U3.out.trans uq)
        clear hpw pw uq e0 e1 f0 f1
        go_wp2_with fail
        go_roundg (N - (0 + 1))
        case measure => have := HG.out; omega
        case rel => exact ⟨1, by omega, rfl, by go_num, by rw [ST.out], U4.out⟩
      | succ j =>
        have hjl : j < X.length := by omega
        obtain ⟨_, c3⟩ := HCC.out j hjl
        have A := AP.out (by omega)
        have A : X[j].2 < x1 := A
        obtain ⟨y, hy⟩ : ∃ y, X[j].2 = y := ⟨_, rfl⟩
        rw [hy] at c3 A
        have t2 : ¬ x1 ≤ y := by omega
        have d2 : decide (x1 ≤ y) = false := decide_eq_false t2
        have e1 : ((j + 1 : Nat) : Int) - 1 = j := by omega
        have e2 : (0 : Int) ≤ j := by omega
        have e3 : (j : Int) < N := by omega
        have e4 : (0 : Int) < ((j + 1 : Nat) : Int) := by omega
        clear AP HCC hy
        have e0 := fun p : UW wr => p.cell c0
        have e1 := fun p : UW wr => p.cell c1
        have e3 := fun p : UW wr => p.cell c3
        go_upto_region 15 with (fail)
        refine region_upd (by kernel_rfl) (by kernel_rfl) ?_
        repeat (go_big_quiet_step (fail))
        refine wpQuiet_nil ?_
        intro w3 hw1
        obtain ⟨pw, hpw⟩ := hw1
        have uq : Upd (fun _ => False) wr w3 := by rw [hpw]; exact pw.u
        have U3 := hid (UR.out.trans uq)
        have f0 : w3.cell? ⟨g, (j + 1) * 2, none⟩ = some (.int .i64 x1) := by rw [hpw]; exact e0 pw
        have f1 : w3.cell? ⟨g, (j + 1) * 2 + 1, none⟩ = some (.int .i64 x2) := by rw [hpw]; exact e1 pw
        clear hpw pw uq e0 e1 c0 c1 e3 c3
        go_upto_region 17 with (fail)
        have e0 := fun p : UW w3 => p.cell f0
        have e1 := fun p : UW w3 => p.cell f1
        refine region_upd (by kernel_rfl) (by kernel_rfl) ?_
        repeat (go_big_quiet_step (fail))
        refine wpQuiet_nil ?_
        intro w4 hw1
        obtain ⟨pw, hpw⟩ := hw1
        have uq : Upd (fun _ => False) w3 w4 := by rw [hpw]; exact pw.u
        have U4 := hid (U3.out.trans uq)
        clear hpw pw uq e0 e1 f0 f1
        go_wp2_with fail
        go_roundg (N - (j + 1 + 1))
        case measure => have := HG.out; omega
        case rel => exact ⟨j + 1 + 1, by omega, rfl, by go_num, by rw [ST.out], U4.out⟩
    as_aux_lemma =>
    have hlti : ¬ (k : Int) < N := by omega
    have KS := hid (show sumTo X k = (marksF g1).length from by rw [sumTo_all (by rw [HN.out]; omega), OI.out.sum])
    rw [KS.out]
    have MEM := hid (fun m => OI.out.mem m)
    replace H1 := hid (H1.out.keep UR.out); replace UX := hid (UX.out.trans UR.out)
    replace RX := hid (ownsRow_upd RX.out UR.out fun _ _ => id : PrsAt wr y1.heap.size (.slice ax X.length cx) X)
    clear HG hk XS XB XAP CX OI KS UR
    go_wp2_with fail
    refine (hmarks_any H1.out.his).mono ?_
    rintro en y3 ⟨vm, rfl, ho, u⟩
    replace H1 := hid (H1.out.keep u); replace UX := hid (UX.out.trans u)
    replace RX := hid (ownsRow_upd RX.out u fun _ _ => id : PrsAt y3 y1.heap.size (.slice ax X.length cx) X)
    obtain ⟨ms, hms⟩ : ∃ ms, marksF g1 = ms := ⟨_, rfl⟩
    rw [hms] at ho MI ML MEM ⊢
    have RS_ := hid (ints_rep ho MI.out)
    obtain ⟨am, cm, rfl, hm1, hm2⟩ := own_slice ho
    have hm2 : cm ≤ 9223372036854775807 := hm2
    have CM := hid (fun (hp : 0 < ms.length) => (show ∃ g o, am = some ⟨g, o, none⟩ ∧ ∀ k (hk : k < ms.length), y3.cell? ⟨g, o + k, none⟩ = some (.int .i64 ms[k]) from by
      obtain ⟨a, c, e, _, _, h3⟩ := slice_open RS_.out
      obtain ⟨g, o, ea, hg, hel⟩ := h3 hp
      injection e with e1 _ _
      exact ⟨g, o, by rw [e1, ea], fun k hk => int_cells hel hk⟩))
    obtain ⟨K, hK⟩ : ∃ K, ms.length = K := ⟨_, rfl⟩
    have HK := hid hK
    have hK60 : K ≤ 60 := by rw [← hK]; exact ML.out
    rw [hK] at hm1 ⊢
    clear ho u hms hK RS_ MK
    go_wp2_with fail
    go_loopg [16] K (fun gg s12 wx => ∃ k : Nat, k ≤ K ∧ gg = K - k ∧ s12 = .int .i64 k ∧ y3 = wx)
    case atStart => exact ⟨0, Nat.zero_le _, rfl, rfl, rfl⟩
    case round =>
      obtain ⟨j, hj, hg, rfl, rfl⟩ := hrel
      have HG := hid hg
      clear hg
      by_cases hlj : j < K
      case pos =>
        as_aux_lemma =>
        have hlji : (j : Int) < K := by omega
        have hj1 : (j : Int) + 1 ≤ 1000 := by omega
        have hjl : j < ms.length := by rw [HK.out]; exact hlj
        obtain ⟨g, o, rfl, hcell⟩ := CM.out (by omega)
        have m0 := hcell j hjl
        have IN := hid ((MEM.out ms[j]).2 (List.getElem_mem hjl))
        obtain ⟨m, hm⟩ : ∃ m, ms[j] = m := ⟨_, rfl⟩
        rw [hm] at m0 IN
        clear hcell hm
        go_wp2_with fail
        try rw [← HN.out]
        refine (rin12_any _ _ X m _ RX.out (by have := XL.out; omega)).mono ?_
        rintro en yy ⟨rfl, rfl⟩
        rw [decide_eq_true IN.out]
        try rw [HN.out]
        go_wp2_with fail
        go_roundg (K - (j + 1))
        case measure => have := HG.out; omega
        case rel => exact ⟨j + 1, by omega, rfl, by go_num, rfl⟩
      as_aux_lemma =>
      have hlji : ¬ (j : Int) < K := by omega
      clear HG hj CM MEM RX
      go_wp2_with fail
      refine (readO_any s _ H1.out.gnd.env H1.out.gnd.six (by have := H15.out; omega)).mono ?_
      rintro en y4 ⟨vy, rfl, ho, u⟩
      replace H1 := hid (H1.out.keep u); replace UX := hid (UX.out.trans u)
      have RY := hid ho
      have RGOOD := hid (readO_good (M := MM) (s := s))
      have YB := hid (readO_small (M := MM) (s := s))
      have YLN := hid (readO_len MM s)
      obtain ⟨Y, hY⟩ : ∃ Y, (readO MM s).1 = Y := ⟨_, rfl⟩
      have HYE := hid (show ∀ q, readO MM s = ([], q) → Y = [] from fun q e => by rw [← hY, e])
      rw [hY] at RY YB YLN RGOOD
      have YI := hid (show ∀ p ∈ Y, I64 p.1 ∧ I64 p.2 from fun p hp => by have := YB.out p hp; unfold MM at this; unfold I64; omega)
      have YL := hid (show Y.length ≤ 1500 from Nat.le_trans YLN.out H15.out)
      have YT := hid (rgsTo_few (Nat.le_trans YL.out (by decide)) YI.out)
      have YN := hid (show I64 (Y.length : Int) by have := YL.out; unfold I64; omega)
      obtain ⟨ay, cy, rfl, hy1, hy2⟩ := prs_slice RY.out
      have hy2 : cy ≤ 9223372036854775807 := hy2
      have CY := hid (fun (y : World) (u : Upd (fun _ => False) y4 y) (hp : 0 < Y.length) => (show ∃ g, ay = some ⟨g, 0, none⟩ ∧ ∀ k (hk : k < Y.length), y.cell? ⟨g, k * 2, none⟩ = some (.int .i64 Y[k].1) ∧ y.cell? ⟨g, k * 2 + 1, none⟩ = some (.int .i64 Y[k].2) from by
        obtain ⟨g, c2, e, _, _, _, hgl, hc⟩ := PrsAt.get RY.out hp
        injection e with e1 _ _
        exact ⟨g, e1, fun k hk => ⟨cell_kept (hc k hk).1 (u.block g hgl id), cell_kept (hc k hk).2 (u.block g hgl id)⟩⟩))
      clear ho u hY YLN YB RY
      go_wp2_with fail
      refine (numE_any (Y.length : Int) YN.out _ H1.out.gnd.env).mono ?_
      rintro en y5 ⟨rfl, u⟩
      have U5 := hid u
      replace H1 := hid (H1.out.keep u); replace UX := hid (UX.out.trans u)
      rw [← rgsTo_zero Y]
      obtain ⟨M, hM⟩ : ∃ M, Y.length = M := ⟨_, rfl⟩
      have HM := hid hM
      have hM15 : M ≤ 1500 := by rw [← hM]; exact YL.out
      rw [hM] at hy1 ⊢
      clear u hM YN YL
      go_wp2_with fail
      go_loopg [19, 20] M (fun gg s15 s16 wz => ∃ k : Nat, k ≤ M ∧ gg = M - k ∧ s16 = .int .i64 k ∧ s15 = .string ⟨(rgsTo Y k).toArray⟩ ∧ Upd (fun _ => False) y5 wz)
      case atStart => exact ⟨0, Nat.zero_le _, rfl, rfl, rfl, Upd.refl _ _⟩
      case round =>
        obtain ⟨i, hi, hg, rfl, rfl, u⟩ := hrel
        have HG := hid hg; have UR := hid u
        clear hg u
        by_cases hli : i < M
        case pos =>
          as_aux_lemma =>
          have hlii : (i : Int) < M := by omega
          have hi1 : (i : Int) + 1 ≤ 10000 := by omega
          have hil : i < Y.length := by rw [HM.out]; exact hli
          obtain ⟨g, rfl, hc⟩ := CY.out _ (U5.out.trans UR.out) (by omega)
          obtain ⟨m0, m1⟩ := hc i hil
          have HSC := hid (rgsTo_succ hil)
          have hpk0 := YT.out i (by omega)
          obtain ⟨xp, hx⟩ : ∃ x, Y[i] = x := ⟨_, rfl⟩
          have hxo := YI.out xp (hx ▸ List.getElem_mem hil)
          obtain ⟨x1, x2⟩ := xp
          rw [hx] at m0 m1 HSC
          have J0 : Hid (I64 x1) := hid hxo.1
          have J1 : Hid (I64 x2) := hid hxo.2
          have n0 : (numE x1).length ≤ 21 := numE_len hxo.1
          have n1 : (numE x2).length ≤ 21 := numE_len hxo.2
          obtain ⟨T, hT⟩ : ∃ T, rgsTo Y i = T := ⟨_, rfl⟩
          rw [hT] at HSC hpk0 ⊢
          obtain ⟨p1, v1⟩ : ∃ y, T ++ numE x1 = y := ⟨_, rfl⟩
          obtain ⟨p2, v2⟩ : ∃ y, p1 ++ numE x2 = y := ⟨_, rfl⟩
          have hsp : T ++ rgE (x1, x2) = p2 := by unfold rgE; rw [← v2, ← v1, List.append_assoc]
          have vl1 : p1.length = T.length + (numE x1).length := by rw [← v1, List.length_append]
          rw [hsp] at HSC
          have va1 : ∀ w, (Op.stringOp .add ⟨T.toArray⟩ ⟨(numE x1).toArray⟩).run Tryz.prog w = .ok (.string ⟨p1.toArray⟩) w := fun w => by rw [← v1]; exact add_lists _ _ (by omega) w
          have va2 : ∀ w, (Op.stringOp .add ⟨p1.toArray⟩ ⟨(numE x2).toArray⟩).run Tryz.prog w = .ok (.string ⟨p2.toArray⟩) w := fun w => by rw [← v2]; exact add_lists _ _ (by omega) w
          have KEEP := hid (fun (y : World) (u : Upd (fun _ => False) wr y) => (show y.cell? ⟨g, i * 2, none⟩ = some (.int .i64 x1) ∧ y.cell? ⟨g, i * 2 + 1, none⟩ = some (.int .i64 x2) from ⟨cell_kept m0 (u.block g (World.block_lt_of_cell? _ _ m0) id), cell_kept m1 (u.block g (World.block_lt_of_cell? _ _ m0) id)⟩))
          have HEW := hid (H1.out.gnd.env.keep0 UR.out)
          have qV0 := hid ((Upd.refl (fun _ => False) wr).drew)
          have gcy : Hid (i * 2 + 1 < 1000000000) := hid (by omega)
          clear hc hx hxo v1 v2 vl1 hsp hpk0 n0 n1 hT m0 m1
          go_upto_region 29 with (fail)
          first | (go_region_held3 (fun w' => w'.cell? ⟨g, i * 2, none⟩ = some (.int .i64 x1) ∧ w'.cell? ⟨g, i * 2 + 1, none⟩ = some (.int .i64 x2)) (first | with_reducible exact KEEP.out _ qV0.out | with_reducible exact KEEP.out _ qV1.out | with_reducible exact KEEP.out _ qV2.out | go_keep) (first | (go_at_call 25; with_reducible refine (numE_any x1 J0.out _ (HEW.out.keep0 qV0.out)).mono ?_; rintro en wq1 ⟨rfl, u⟩; have qV1 := hid (qV0.out.trans u); clear u) | (go_at_call 25; with_reducible refine (numE_any x2 J1.out _ (HEW.out.keep0 qV1.out)).mono ?_; rintro en wq2 ⟨rfl, u⟩; have qV2 := hid (qV1.out.trans u); clear u))) | fail
          have UZ := hid (UR.out.trans qV2.out)
          clear qV0 qV1 qV2 va1 va2 KEEP HEW
          go_wp2_with fail
          go_roundg (M - (i + 1))
          case measure => have := HG.out; omega
          case rel => exact ⟨i + 1, by omega, rfl, by go_num, by rw [HSC.out], UZ.out⟩
        as_aux_lemma =>
        have hlii : ¬ (i : Int) < M := by omega
        have KE := hid (rgsTo_all (l := Y) (k := i) (by rw [HM.out]; omega))
        rw [KE.out]
        have UZ := hid (UX.out.trans UR.out)
        have kk : ((K : Int) == (K : Int)) = true := beq_self_eq_true _
        rcases RGOOD.out with ⟨e1, e2⟩ | e1
        · rw [e1, e2]
          clear e1 e2 HG hi CY YT YI HYE RGOOD KE
          go_wp2_with fail
          go_ret
          exact ⟨rfl, UZ.out⟩
        · have M0 := HYE.out _ e1
          have hM0 : M = 0 := by rw [← HM.out, M0]; rfl
          rw [show (readO MM s).2 = 2 by rw [e1]]
          subst hM0
          clear e1 M0 HG hi CY YT YI HYE RGOOD KE
          go_wp2_with fail
          go_ret
          exact ⟨rfl, UZ.out⟩
theorem reads_card (v : Value) (l : List Po) (one : Int) (s : List UInt8) (w : World) (E : Env w) (hu : UsesIn w) (hz : 6 ≤ w.heap.size) (h : kPos.rep (· < w.heap.size) w [v] l) (_ : (Lit.int .i64 one).wf = true) (_ : s.length ≤ maxLen) : Calls Tryz.prog 3 #[v, .int .i64 one, .string ⟨s.toArray⟩] w fun e w' => e = .returned (.bool true) ∧ Below w.heap.size w w' :=
  (reads_walk v l one s w E hu hz h).mono fun _ _ ⟨a, u⟩ => ⟨a, u.below (Nat.le_refl _) fun _ q => q.elim⟩
end Go.Proofs.YtjkmalddfoemhaaGreatDoor
