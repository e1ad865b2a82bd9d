/- Walks: DagPast. -/
import Derived.Test.YtalhmpggpjbeaaaGreatDoorJ19
import Derived.Test.YtalhmpggpjbeaaaGreatDoorCDgAlike
import Derived.Test.YtalhmpggpjbeaaaGreatDoorCDgEntry
namespace Go.Proofs.YtalhmpggpjbeaaaGreatDoor
open Go.RowKit Go.Deep

/-- What stands between two rounds: a history, its marks in a row. -/
structure PastSt (W0 w : World) (O : Nat → Prop) (b r : Nat) (hs : Hs) (am : Option Addr) (n cm : Nat) : Prop where
  his : IsHis w O b r hs
  marks : w.ownsRow W0.heap.size 3 1 (.slice am n cm) (marksF hs).length ((marksF hs).map fun x => .int .i64 x)
  upd : Upd (fun _ => False) W0 w
theorem PastSt.keep {W0 w w' : World} {O : Nat → Prop} {b r : Nat} {hs : Hs} {am : Option Addr} {n cm : Nat} (h : PastSt W0 w O b r hs am n cm) (u : Upd (fun _ => False) w w') : PastSt W0 w' O b r hs am n cm := ⟨h.his.keep u, ownsRow_upd h.marks u fun _ _ => id, h.upd.trans u⟩
theorem PastSt.cell {W0 w : World} {O : Nat → Prop} {b r : Nat} {hs : Hs} {R : Rg} {am : Option Addr} {n cm : Nat} (h : PastSt W0 w O b r hs am n cm) (H : His rdF R hs) (hR : R.length ≤ 60) (hp : 0 < (marksF hs).length) : ∃ g o, am = some ⟨g, o, none⟩ ∧ g < w.heap.size ∧ ∀ k (hk : k < (marksF hs).length), w.cell? ⟨g, o + k, none⟩ = some (.int .i64 (marksF hs)[k]) := by
  obtain ⟨a, c, e, _, _, h3⟩ := slice_open (ints_rep h.marks (mark_i64 H hR))
  obtain ⟨g, o, ea, hA, hel⟩ := h3 hp
  injection e with e1 _ _
  exact ⟨g, o, by rw [e1, ea], hA.2, fun k hk => int_cells hel hk⟩
/-- An entry that was read, in a block of its own. -/
structure EnSt (w : World) (eb : Nat) (x : En) (a1 a2 a3 : Option Addr) (c1 c2 c3 : Nat) : Prop where
  blk : w.heap[eb]? = some (.cells (en13 x a1 a2 a3 c1 c2 c3) 39 (0, 0))
  rep : EnRep (· < w.heap.size) w x a1 a2 a3 c1 c2 c3
theorem EnSt.keep {w w' : World} {eb : Nat} {x : En} {a1 a2 a3 : Option Addr} {c1 c2 c3 : Nat} (h : EnSt w eb x a1 a2 a3 c1 c2 c3) (u : Upd (fun _ => False) w w') : EnSt w' eb x a1 a2 a3 c1 c2 c3 := ⟨(u.block _ (heap_lt h.blk) id).trans h.blk, (h.rep.keep u).wide fun g hg => Nat.lt_of_lt_of_le hg u.size⟩
def throughTo (h : Hs) (a : Int) (ks : List Int) (k : Nat) : Bool := decide (a ∈ ks) || (ks.take k).any fun x => beforeB h a x
theorem throughTo_zero (h : Hs) (a : Int) (ks : List Int) : throughTo h a ks 0 = decide (a ∈ ks) := by simp [throughTo]
theorem throughTo_succ {h : Hs} {a : Int} {ks : List Int} {k : Nat} (hk : k < ks.length) : throughTo h a ks (k + 1) = (throughTo h a ks k || beforeB h a ks[k]) := by
  unfold throughTo
  rw [List.take_succ_eq_append_getElem hk, List.any_append]
  simp [Bool.or_assoc]
theorem throughTo_all {rd : List UInt8 → En × Int} {R : Rg} {h : Hs} (H : His rd R h) {m a : Int} (hm : (idxF h m).isSome) (ha : (idxF h a).isSome) {x : En} (hx : (entryM h m).1 = x) : throughTo h a x.knows x.knows.length = decide (a ∈ pastF h m) := by
  unfold throughTo
  rw [List.take_length]
  have q := past_through H hm ha
  rw [hx] at q
  rw [Bool.eq_iff_iff, Bool.or_eq_true, decide_eq_true_eq, decide_eq_true_eq, q, List.any_eq_true]
theorem before_past {rd : List UInt8 → En × Int} {R : Rg} {h : Hs} (H : His rd R h) (a m : Int) : beforeB h a m = decide (a ∈ pastF h m) := by
  rw [Bool.eq_iff_iff, before_iff, decide_eq_true_eq, mem_past H]
set_option maxRecDepth 100000 in
set_option maxHeartbeats 16000000 in
theorem past_walk (v : Value) (l : List Po) (w : World) (E : Env w) (hu : UsesIn w) (hz : 6 ≤ w.heap.size) (h : kPos.rep (· < w.heap.size) w [v] l) : Calls Tryz.prog 6 #[v] w fun e w' => e = .returned (.bool true) ∧ Upd (fun _ => False) w w' := by
  have HE := hid E; have HU := hid hu; have HZ := hid hz
  have HP0 := hid h
  obtain ⟨av, cv, rfl, _, hcv, _⟩ := slice_open h
  clear E hu hz h
  go_enter Tryz.func6, Tryz.ntmps6
  go_wp2_with fail
  refine (small_any w HE.out HU.out HZ.out).mono ?_
  rintro en x0 ⟨rfl, u⟩
  have U0 := hid u
  have HP := hid (kPos.mono (kPos.keep HP0.out (Same.of_upd u fun _ _ => id)) fun g hg => (Nat.lt_of_lt_of_le hg u.size : g < x0.heap.size))
  clear u HP0
  go_wp2_with fail
  refine (fewL_any _ _ l 16 _ HP.out (by decide)).mono ?_
  rintro en x1 ⟨rfl, u⟩
  by_cases hf : FewL l 16
  case neg =>
    rw [decide_eq_false hf]
    have U1 := hid (U0.out.trans u)
    clear u
    go_wp2_with fail
    go_ret
    exact ⟨rfl, U1.out⟩
  rw [decide_eq_true hf]
  replace U0 := hid (U0.out.trans u)
  replace HP := hid (kPos.mono (kPos.keep HP.out (Same.of_upd u fun _ _ => id)) fun g hg => (Nat.lt_of_lt_of_le hg u.size : g < x1.heap.size))
  have HF := hid hf
  clear u hf
  go_wp2_with fail
  refine (signed_any _ l _ HP.out (by have := HF.out.1; omega) HF.out.2 (Nat.le_trans HZ.out U0.out.size)).mono ?_
  rintro en x2 ⟨r, vs, Or, rfl, q1, q2, q3, q4, u⟩
  have LI := hid (law_in HE.out HU.out HZ.out U0.out HP.out HF.out (by decide) q1 q2 q3 q4 u)
  obtain ⟨aS, cs, rfl, hs1, hs2⟩ := own_slice q2
  have hs2 : cs ≤ 9223372036854775807 := hs2
  clear q1 q2 q3 q4 u HP
  obtain ⟨R, hR⟩ : ∃ R, (signedF l).1 = R := ⟨_, rfl⟩
  obtain ⟨sl, hsl⟩ : ∃ sl, (signedF l).2 = sl := ⟨_, rfl⟩
  have GN := hid (hR ▸ LI.out.gnd : Gnd x2 Or r R)
  have SG := hid (hsl ▸ LI.out.sgs : SgsAt x2 x1.heap.size (.slice aS (signedF l).2.length cs) sl)
  have SS := hid (hsl ▸ LI.out.small : ∀ s ∈ sl, SgSmall s)
  have FW := hid (hR ▸ LI.out.few : R.length ≤ 60)
  have SLL := hid (show sl.length ≤ 60 by rw [← hsl, LI.out.len]; have := HF.out.1; omega)
  have UX := hid (U0.out.trans LI.out.upd)
  rw [hsl] at SG hs1 ⊢
  have LX := hid LI.out.upd.size; have LU := hid LI.out.upd
  clear LI hR hsl HF
  go_wp2_with fail
  refine (known_any GN.out FW.out SG.out (by have := SLL.out; omega) SS.out).mono ?_
  rintro en y1 ⟨b, O, hs, rfl, q1, q2, q3, q4, q5, u⟩
  have PA := hid q2; have HA := hid q1; have UC := hid u
  clear q1 q2 q3 q4 q5 u
  go_wp2_with fail
  refine (hmarks_any HA.out).mono ?_
  rintro en y2 ⟨vm, rfl, ho, u⟩
  obtain ⟨am, cm, rfl, hm1, hm2⟩ := own_slice ho
  have hm2 : cm ≤ 9223372036854775807 := hm2
  have ST := hid (show PastSt x2 y2 O b r hs am (marksF hs).length cm from ⟨HA.out.keep u, ownsRow_base ho UC.out.size, UC.out.trans u⟩)
  obtain ⟨M, hM⟩ : ∃ M, (marksF hs).length = M := ⟨_, rfl⟩
  have HM := hid hM
  have hM60 : M ≤ 60 := by rw [← hM, marksF_len]; exact Nat.le_trans PA.out.len FW.out
  rw [hM] at ST hm1 ⊢
  clear ho u HA UC hM
  go_wp2_with fail
  go_loopg [8] M (fun gg s8 wr => ∃ k : Nat, k ≤ M ∧ gg = M - k ∧ s8 = .int .i64 k ∧ PastSt x2 wr O b r hs am M cm)
  case atStart => exact ⟨0, Nat.zero_le _, rfl, rfl, ST.out⟩
  case round =>
    obtain ⟨i, hi, hg, rfl, hst⟩ := hrel
    clear ST
    have ST := hid hst; have HG := hid hg
    clear hst hg
    by_cases hlt : i < M
    case neg =>
      have hlti : ¬ (i : Int) < M := by omega
      go_wp2_with fail
      go_ret
      exact ⟨rfl, UX.out.trans ST.out.upd⟩
    have hlti : (i : Int) < M := by omega
    have hk1 : (i : Int) + 1 ≤ 1000 := by omega
    have hml : i < (marksF hs).length := by rw [HM.out]; exact hlt
    obtain ⟨g, o, rfl, _, _⟩ := ST.out.cell PA.out FW.out (Nat.lt_of_le_of_lt (Nat.zero_le _) hml)
    obtain ⟨m, hme⟩ : ∃ m, (marksF hs)[i] = m := ⟨_, rfl⟩
    have MIS := hid (show (idxF hs m).isSome from (mem_marksF hs m).1 (hme ▸ List.getElem_mem hml))
    have MW := hid (show (Lit.int .i64 m).wf = true from iwf (by have := mark_i64 PA.out FW.out _ (List.getElem_mem hml); rw [hme] at this; exact this))
    have CELL := hid (fun (y : World) (z : PastSt x2 y O b r hs (some ⟨g, o, none⟩) M cm) => (show (∀ k (hk : k < (marksF hs).length), y.cell? ⟨g, o + k, none⟩ = some (.int .i64 (marksF hs)[k])) ∧ y.cell? ⟨g, o + i, none⟩ = some (.int .i64 m) from by
      obtain ⟨g', o', e, _, q⟩ := z.cell PA.out FW.out (Nat.lt_of_le_of_lt (Nat.zero_le _) hml)
      cases e
      have := q i hml
      rw [hme] at this
      exact ⟨q, this⟩))
    clear hme hml
    have m0 := (CELL.out _ ST.out).2
    go_wp2_with fail
    refine (hentry_any ST.out.his PA.out m MW.out).mono ?_
    rintro en y3 ⟨a1, a2, a3, c1, c2, c3, rfl, hrep, u⟩
    have PR := hid (past_ref PA.out MIS.out)
    have PK := hid (fun x hx => past_knows PA.out (x := x) MIS.out hx)
    have PT := hid (fun a (ha : (idxF hs a).isSome) => throughTo_all PA.out MIS.out ha rfl)
    have PI := hid (show (entryM hs m).2 = true by
      obtain ⟨j, hj⟩ := Option.isSome_iff_exists.1 MIS.out
      obtain ⟨_, e⟩ := entry_at hj
      rw [e])
    have WFX := hid (show EnWf (entryM hs m).1 ∧ (entryM hs m).1.knows.length ≤ 40 from by
      obtain ⟨j, hj⟩ := Option.isSome_iff_exists.1 MIS.out
      obtain ⟨lj, e⟩ := entry_at hj
      rw [e]
      have hre := (PA.out.at lj).read
      obtain ⟨D, v, mb, ll, L, H, hL⟩ := ST.out.his
      have hlL : j < L.length := by have := lj; rw [← hL, List.length_map] at this; exact this
      have hn := (H.nodes L[j] (List.getElem_mem hlL)).wf
      have hnn : hs[j] = L[j].n := by simp [← hL]
      rcases rd_cases hs[j].sg.text with ⟨_, q, _⟩ | q
      · rw [hre] at q
        exact ⟨by rw [hnn]; exact hn, q.knows.1⟩
      · rw [hre] at q; cases congrArg Prod.snd q)
    obtain ⟨x, hx⟩ : ∃ x, (entryM hs m).1 = x := ⟨_, rfl⟩
    rw [hx] at hrep PR PK PT WFX ⊢
    rw [PI.out]
    have hkl40 := WFX.out.2
    clear hx PI
    obtain ⟨W3, hW3⟩ : ∃ W3, W3 = y3.alloc (.cells (en13 x a1 a2 a3 c1 c2 c3) 39 (0, 0)) := ⟨_, rfl⟩
    have u3 : Upd (fun _ => False) y3 W3 := by rw [hW3]; exact (Upd.refl _ _).alloc _
    obtain ⟨eb, heb⟩ : ∃ eb, y3.heap.size = eb := ⟨_, rfl⟩
    have ES := hid (show EnSt W3 eb x a1 a2 a3 c1 c2 c3 from ⟨by rw [hW3, ← heb]; exact heap_alloc_new, (hrep.keep u3).wide fun q hq => Nat.lt_of_lt_of_le hq.2 u3.size⟩)
    replace ST := hid (ST.out.keep (u.trans u3))
    have HW3 := hid hW3; have HEB := hid heb
    clear hW3 heb u u3 hrep m0
    unfold enV
    go_upto_region 13 with (fail)
    rw [← (show W3 = y3.alloc (.cells #[.int .i64 x.author, .int .i64 x.seq, .int .i64 x.day, .slice a1 x.knows.length c1, .int .i64 x.kind, .int .i64 x.circle, .int .i64 x.who, .int .i64 x.n, .int .i64 x.m, .int .i64 x.ref, .slice a2 x.keys.length c2, .slice a3 x.spans.length c3, .string ⟨x.text.toArray⟩] 39 (0, 0)) from HW3.out)]
    try rw [HEB.out]
    clear HW3 HEB
    have m0 := (CELL.out _ ST.out).2
    go_wp2_with fail
    refine (hpast_any ST.out.his m MW.out).mono ?_
    rintro en y4 ⟨vp, rfl, ho, u⟩
    replace ST := hid (ST.out.keep u)
    replace ES := hid (ES.out.keep u)
    obtain ⟨ap, cp, rfl, hp1, hp2⟩ := own_slice ho
    have hp2 : cp ≤ 9223372036854775807 := hp2
    have PI64 := hid (past_i64 PA.out FW.out m)
    have OP := hid (show ∃ B, y4.ownsRow B 3 1 (.slice ap (pastF hs m).length cp) (pastF hs m).length ((pastF hs m).map fun x => .int .i64 x) from ⟨_, ho⟩)
    have PREP := hid (fun (y : World) (u : Upd (fun _ => False) y4 y) => (show kInts.rep (· < y.heap.size) y [.slice ap (pastF hs m).length cp] (pastF hs m) from let ⟨B, q⟩ := OP.out; kInts.mono (ints_rep (ownsRow_upd q u fun _ _ => id) PI64.out) fun _ z => z.2))
    have UP := hid (Upd.refl (fun _ => False) y4)
    clear ho u m0
    obtain ⟨e0, e1, e2, e3, e4, e5, e6, e7, e8, e9, e10, e11, e12⟩ := cells13 ES.out.blk
    have m0 := (CELL.out _ ST.out).2
    have hxr : -9223372036854775808 ≤ x.ref ∧ x.ref ≤ 9223372036854775807 := WFX.out.1.ref
    obtain ⟨np, hnp⟩ : ∃ np, (pastF hs m).length = np := ⟨_, rfl⟩
    have HNP := hid hnp
    rw [hnp] at PREP hp1 ⊢
    clear hnp OP
    go_upto_region 14 with (fail)
    go_cut [81] (fun s81 wx => s81 = .bool false ∧ y4 = wx)
    case first =>
      as_aux_lemma =>
      have PS := hid (decide_eq_false (past_self PA.out m))
      by_cases h1 : (0 : Int) ≤ x.ref
      case neg =>
        have d1 : decide ((0 : Int) ≤ x.ref) = false := decide_eq_false h1
        clear h1
        go_wp2_with fail
        refine (lhas_any _ _ _ m _ (PREP.out _ (Upd.refl _ _))).mono ?_
        rintro en yy ⟨rfl, rfl⟩
        rw [PS.out]
        go_wp2_with fail
        go_meet
        case rel => exact ⟨rfl, rfl⟩
      have d1 : decide ((0 : Int) ≤ x.ref) = true := decide_eq_true h1
      by_cases h2 : x.kind = 8
      · have d2 : (x.kind != 8) = false := by rw [h2]; rfl
        have HK8 := hid h2
        clear h1 h2
        go_wp2_with fail
        refine (lhas_any _ _ _ m _ (PREP.out _ (Upd.refl _ _))).mono ?_
        rintro en yy ⟨rfl, rfl⟩
        rw [PS.out]
        go_wp2_with fail
        go_meet
        case rel => exact ⟨rfl, rfl⟩
      · have d2 : (x.kind != 8) = true := bne_iff_ne.2 h2
        have HRF := hid (show x.ref ∈ pastF hs m from by
          rcases PR.out with q | q | q
          · omega
          · exact absurd q h2
          · exact q)
        clear h1 h2
        go_wp2_with fail
        refine (lhas_any _ _ _ m _ (PREP.out _ (Upd.refl _ _))).mono ?_
        rintro en yy ⟨rfl, rfl⟩
        rw [PS.out]
        go_wp2_with fail
        refine (lhas_any _ _ _ x.ref _ (PREP.out _ (Upd.refl _ _))).mono ?_
        rintro en yy ⟨rfl, rfl⟩
        rw [decide_eq_true HRF.out]
        go_wp2_with fail
        go_meet
        case rel => exact ⟨rfl, rfl⟩
    case rest =>
    obtain ⟨rfl, rfl⟩ := hcut
    clear e0 e1 e2 e3 e4 e5 e6 e7 e8 e9 e10 e11 e12 m0 PR
    have START := hid (show PastSt x2 y4 O b r hs (some ⟨g, o, none⟩) M cm ∧ EnSt y4 eb x a1 a2 a3 c1 c2 c3 ∧ Upd (fun _ => False) y4 y4 from ⟨ST.out, ES.out, UP.out⟩)
    obtain ⟨nk, hnk⟩ : ∃ nk, x.knows.length = nk := ⟨_, rfl⟩
    have HNK := hid hnk
    have hnk40 : nk ≤ 40 := by rw [← hnk]; exact hkl40
    have hc1 : nk ≤ c1 ∧ c1 ≤ 9223372036854775807 := by
      obtain ⟨_, _, e, q1, q2, _⟩ := slice_open ES.out.rep.knows
      injection e with _ _ e3
      rw [← hnk, e3]
      exact ⟨q1, q2⟩
    obtain ⟨hc1, hc12⟩ := hc1
    have KN := hid (fun (y : World) (z : EnSt y eb x a1 a2 a3 c1 c2 c3) => (show y.cell? ⟨eb, 3, none⟩ = some (.slice a1 nk c1) from by have := (cells13 z.blk).2.2.2.1; rw [hnk] at this; exact this))
    have KE := hid (fun (hp : 0 < nk) => (show ∃ kb ko, a1 = some ⟨kb, ko, none⟩ ∧ ∀ (y : World), EnSt y eb x a1 a2 a3 c1 c2 c3 → ∀ n (hn : n < x.knows.length), y.cell? ⟨kb, ko + n, none⟩ = some (.int .i64 x.knows[n]) from by
      obtain ⟨a, c, e, _, _, h3⟩ := slice_open ES.out.rep.knows
      obtain ⟨kb, ko, ea, _, _⟩ := h3 (by omega)
      injection e with e1 _ _
      refine ⟨kb, ko, by rw [e1, ea], fun y z n hn => ?_⟩
      obtain ⟨a', c', e', _, _, h3'⟩ := slice_open z.rep.knows
      obtain ⟨kb', ko', ea', _, hel'⟩ := h3' (by omega)
      injection e' with e1' _ _
      rw [e1, ea] at e1'
      rw [ea'] at e1'
      cases e1'
      exact int_cells hel' hn))
    clear hnk ST ES UP hkl40
    go_wp2_with fail
    go_loopg [12] nk (fun gg s12 wr => ∃ k : Nat, k ≤ nk ∧ gg = nk - k ∧ s12 = .int .i64 k ∧ PastSt x2 wr O b r hs (some ⟨g, o, none⟩) M cm ∧ EnSt wr eb x a1 a2 a3 c1 c2 c3 ∧ Upd (fun _ => False) y4 wr)
    case atStart => exact ⟨0, Nat.zero_le _, rfl, rfl, START.out⟩
    case round =>
      obtain ⟨k, hk, hg, rfl, hst, hes, hu⟩ := hrel
      have ST := hid hst; have ES := hid hes; have UP := hid hu; have HGK := hid hg
      clear hst hes hu hg
      have e3 := KN.out _ ES.out
      by_cases hlk : k < nk
      case pos =>
        as_aux_lemma =>
        have hlki : (k : Int) < nk := by omega
        have hkk1 : (k : Int) + 1 ≤ 1000 := by omega
        have hlx : k < x.knows.length := by rw [HNK.out]; exact hlk
        obtain ⟨kb, ko, rfl, hcell⟩ := KE.out (by omega)
        have m1 := hcell _ ES.out k hlx
        obtain ⟨y, hy⟩ : ∃ y, x.knows[k] = y := ⟨_, rfl⟩
        have HIN := hid (PK.out _ (List.getElem_mem hlx))
        rw [hy] at m1 HIN
        clear hcell hy
        go_wp2_with fail
        refine (lhas_any _ _ _ y _ (PREP.out _ UP.out)).mono ?_
        rintro en yy ⟨rfl, rfl⟩
        rw [decide_eq_true HIN.out]
        go_wp2_with fail
        go_roundg (nk - (k + 1))
        case measure => have := HGK.out; omega
        case rel => exact ⟨k + 1, by omega, rfl, by go_num, ST.out, ES.out, UP.out⟩
      as_aux_lemma =>
      have hlki : ¬ (k : Int) < nk := by omega
      have START2 := hid (show PastSt x2 wr O b r hs (some ⟨g, o, none⟩) M cm ∧ EnSt wr eb x a1 a2 a3 c1 c2 c3 ∧ Upd (fun _ => False) y4 wr from ⟨ST.out, ES.out, UP.out⟩)
      clear ST ES UP HGK START hk
      go_wp2_with fail
      clear e3
      go_loopg [13] M (fun gg s13 wx => ∃ k : Nat, k ≤ M ∧ gg = M - k ∧ s13 = .int .i64 k ∧ PastSt x2 wx O b r hs (some ⟨g, o, none⟩) M cm ∧ EnSt wx eb x a1 a2 a3 c1 c2 c3 ∧ Upd (fun _ => False) y4 wx)
      case atStart => exact ⟨0, Nat.zero_le _, rfl, rfl, START2.out⟩
      case round =>
        obtain ⟨j, hj, hg, rfl, hst, hes, hu⟩ := hrel
        have ST := hid hst; have ES := hid hes; have UP := hid hu; have HGJ := hid hg
        clear hst hes hu hg START2
        by_cases hlj : j < M
        case neg =>
          as_aux_lemma =>
          have hlji : ¬ (j : Int) < M := by omega
          go_wp2_with fail
          go_roundg (M - (i + 1))
          case measure => have := HG.out; omega
          case rel => exact ⟨i + 1, by omega, rfl, by go_num, ST.out⟩
        have hlji : (j : Int) < M := by omega
        have hjk1 : (j : Int) + 1 ≤ 1000 := by omega
        have hjl : j < (marksF hs).length := by rw [HM.out]; exact hlj
        obtain ⟨a, ha⟩ : ∃ a, (marksF hs)[j] = a := ⟨_, rfl⟩
        have AIS := hid (show (idxF hs a).isSome from (mem_marksF hs a).1 (ha ▸ List.getElem_mem hjl))
        have AW := hid (show (Lit.int .i64 a).wf = true from iwf (by have := mark_i64 PA.out FW.out _ (List.getElem_mem hjl); rw [ha] at this; exact this))
        have AC := hid (fun (y : World) (z : PastSt x2 y O b r hs (some ⟨g, o, none⟩) M cm) => (show y.cell? ⟨g, o + j, none⟩ = some (.int .i64 a) from by have := (CELL.out y z).1 j hjl; rw [ha] at this; exact this))
        have PTA := hid (PT.out a AIS.out)
        have BPA := hid (before_past PA.out a m)
        have PLV := hid (fun q => past_level PA.out (m := m) (a := a) q)
        clear ha hjl
        go_upto_region 24 with (fail)
        have e3 := fun p : UW wr => p.cell (KN.out _ ES.out)
        have m1 := fun p : UW wr => p.cell (AC.out _ ST.out)
        have HASP := fun p : UW wr => lhas_any _ _ x.knows a p.w (show kInts.rep (· < p.w.heap.size) p.w [.slice a1 nk c1] x.knows from by have := (ES.out.keep p.u).rep.knows; rw [HNK.out] at this; exact this)
        refine region_upd (by kernel_rfl) (by kernel_rfl) ?_
        repeat (go_big_quiet_step ((go_at_call 29; exact Calls.upd_same (HASP _))))
        refine wpQuiet_nil ?_
        intro _ hw1
        refine uw_out hw1 ?_
        rintro w1 u1 e
        obtain rfl := e.symm
        clear e hw1 e3 m1 HASP
        rw [← throughTo_zero hs a x.knows]
        have ST1 := hid (ST.out.keep u1); have ES1 := hid (ES.out.keep u1); have UP1 := hid (UP.out.trans u1)
        have START3 := hid (show PastSt x2 w1 O b r hs (some ⟨g, o, none⟩) M cm ∧ EnSt w1 eb x a1 a2 a3 c1 c2 c3 ∧ Upd (fun _ => False) y4 w1 from ⟨ST1.out, ES1.out, UP1.out⟩)
        clear ST ES UP u1 ST1 ES1 UP1
        go_wp2_with fail
        go_loopg [14, 15] nk (fun gg s14 s15 wx => ∃ n : Nat, n ≤ nk ∧ gg = nk - n ∧ s14 = .bool (throughTo hs a x.knows n) ∧ s15 = .int .i64 n ∧ PastSt x2 wx O b r hs (some ⟨g, o, none⟩) M cm ∧ EnSt wx eb x a1 a2 a3 c1 c2 c3 ∧ Upd (fun _ => False) y4 wx)
        case atStart => exact ⟨0, Nat.zero_le _, rfl, rfl, rfl, START3.out⟩
        case round =>
          obtain ⟨n, hn, hg, rfl, rfl, hst, hes, hu⟩ := hrel
          have ST := hid hst; have ES := hid hes; have UP := hid hu; have HGN := hid hg
          clear hst hes hu hg START3
          have e3 := KN.out _ ES.out
          by_cases hln : n < nk
          case pos =>
            as_aux_lemma =>
            have hlni : (n : Int) < nk := by omega
            have hnk1 : (n : Int) + 1 ≤ 1000 := by omega
            have hlx : n < x.knows.length := by rw [HNK.out]; exact hln
            obtain ⟨kb, ko, rfl, hcell⟩ := KE.out (by omega)
            have m2 := hcell _ ES.out n hlx
            have TS := hid (throughTo_succ (h := hs) (a := a) hlx)
            obtain ⟨y, hy⟩ : ∃ y, x.knows[n] = y := ⟨_, rfl⟩
            have YW := hid (show (Lit.int .i64 y).wf = true from iwf (by have := WFX.out.1.knows.2 _ (List.getElem_mem hlx); rw [hy] at this; exact this))
            rw [hy] at m2 TS
            clear hcell hy
            obtain ⟨tb, htb⟩ : ∃ tb, throughTo hs a x.knows n = tb := ⟨_, rfl⟩
            rw [htb] at TS ⊢
            clear htb
            obtain ⟨bb, hbb⟩ : ∃ bb, beforeB hs a y = bb := ⟨_, rfl⟩
            have BB := hid hbb
            rw [hbb] at TS
            clear hbb
            go_upto_region 28 with (fail)
            have e3p := fun p : UW wr => p.cell e3
            have m1p := fun p : UW wr => p.cell (AC.out _ ST.out)
            have m2p := fun p : UW wr => p.cell m2
            have BEFP := fun p : UW wr => hbefore_any (ST.out.his.keep p.u) a y AW.out YW.out
            rw [BB.out] at BEFP
            clear e3 m2
            cases tb with
            | true =>
              refine region_upd (by kernel_rfl) (by kernel_rfl) ?_
              repeat (go_big_quiet_step (fail))
              refine wpQuiet_nil ?_
              intro _ hw1
              refine uw_out hw1 ?_
              rintro w1 u1 e
              obtain rfl := e.symm
              clear e hw1 e3p m1p m2p BEFP
              go_wp2_with fail
              go_roundg (nk - (n + 1))
              case measure => have := HGN.out; omega
              case rel => exact ⟨n + 1, by omega, rfl, by rw [TS.out]; rfl, by go_num, ST.out.keep u1, ES.out.keep u1, UP.out.trans u1⟩
            | false =>
              refine region_upd (by kernel_rfl) (by kernel_rfl) ?_
              repeat (go_big_quiet_step ((go_at_call 30; exact Calls.upd_same (BEFP _))))
              refine wpQuiet_nil ?_
              intro _ hw1
              refine uw_out hw1 ?_
              rintro w1 u1 e
              obtain rfl := e.symm
              clear e hw1 e3p m1p m2p BEFP
              go_wp2_with fail
              go_roundg (nk - (n + 1))
              case measure => have := HGN.out; omega
              case rel => exact ⟨n + 1, by omega, rfl, by rw [TS.out]; rfl, by go_num, ST.out.keep u1, ES.out.keep u1, UP.out.trans u1⟩
          as_aux_lemma =>
          have hlni : ¬ (n : Int) < nk := by omega
          obtain ⟨inb, hib⟩ : ∃ inb, decide (a ∈ pastF hs m) = inb := ⟨_, rfl⟩
          have HIB := hid hib
          have HTH : throughTo hs a x.knows n = inb := by rw [show n = x.knows.length by rw [HNK.out]; omega, PTA.out, hib]
          rw [HTH]
          rw [hib] at BPA
          clear HTH hib hn HGN
          have m1 := AC.out _ ST.out
          go_wp2_with fail
          refine (lhas_any _ _ _ a _ (PREP.out _ UP.out)).mono ?_
          rintro en yy ⟨rfl, rfl⟩
          rw [HIB.out]
          clear m1 e3
          go_upto_region 30 with (fail)
          have m1p := fun p : UW wr => p.cell (AC.out _ ST.out)
          have m2p := fun p : UW wr => p.cell (CELL.out _ ST.out).2
          have BEFP := fun p : UW wr => hbefore_any (ST.out.his.keep p.u) a m AW.out MW.out
          rw [BPA.out] at BEFP
          have LEVP := fun p : UW wr => hlevel_any (ST.out.his.keep p.u) a AW.out
          have LEVQ := fun p : UW wr => hlevel_any (ST.out.his.keep p.u) m MW.out
          obtain ⟨la, hla⟩ : ∃ la, levelM hs a = la := ⟨_, rfl⟩
          obtain ⟨lm, hlm⟩ : ∃ lm, levelM hs m = lm := ⟨_, rfl⟩
          rw [hla] at LEVP PLV
          rw [hlm] at LEVQ PLV
          clear hla hlm
          cases inb with
          | false =>
            refine region_upd (by kernel_rfl) (by kernel_rfl) ?_
            repeat (go_big_quiet_step ((go_at_call 30; exact Calls.upd_same (BEFP _))))
            refine wpQuiet_nil ?_
            intro _ hw1
            refine uw_out hw1 ?_
            rintro w1 u1 e
            obtain rfl := e.symm
            clear e hw1 m1p m2p BEFP LEVP LEVQ
            go_wp2_with fail
            go_roundg (M - (j + 1))
            case measure => have := HGJ.out; omega
            case rel => exact ⟨j + 1, by omega, rfl, by go_num, ST.out.keep u1, ES.out.keep u1, UP.out.trans u1⟩
          | true =>
            have lv := PLV.out (of_decide_eq_true HIB.out)
            have lv1 : ¬ lm ≤ la := by omega
            have lv2 : decide (lm ≤ la) = false := decide_eq_false lv1
            clear lv
            refine region_upd (by kernel_rfl) (by kernel_rfl) ?_
            repeat (go_big_quiet_step ((go_at_call 30; exact Calls.upd_same (BEFP _))))
            go_big_quiet_step ((go_at_call 31; exact Calls.upd_same (LEVP _)))
            repeat (go_big_quiet_step (fail))
            go_big_quiet_step ((go_at_call 31; exact Calls.upd_same (LEVQ _)))
            repeat (go_big_quiet_step (fail))
            refine wpQuiet_nil ?_
            intro _ hw1
            refine uw_out hw1 ?_
            rintro w1 u1 e
            obtain rfl := e.symm
            clear e hw1 m1p m2p BEFP LEVP LEVQ
            go_wp2_with fail
            go_roundg (M - (j + 1))
            case measure => have := HGJ.out; omega
            case rel => exact ⟨j + 1, by omega, rfl, by go_num, ST.out.keep u1, ES.out.keep u1, UP.out.trans u1⟩
theorem past_card (v : Value) (l : List Po) (w : World) (E : Env w) (hu : UsesIn w) (hz : 6 ≤ w.heap.size) (h : kPos.rep (· < w.heap.size) w [v] l) : Calls Tryz.prog 6 #[v] w fun e w' => e = .returned (.bool true) ∧ Below w.heap.size w w' :=
  (past_walk v l w E hu hz h).mono fun _ _ ⟨a, u⟩ => ⟨a, u.below (Nat.le_refl _) fun _ q => q.elim⟩
end Go.Proofs.YtalhmpggpjbeaaaGreatDoor
