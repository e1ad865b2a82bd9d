/- Walks: DagSorted. -/
import Derived.Test.YtalhmpggpjbeaaaGreatDoorJ19
import Derived.Test.YtalhmpggpjbeaaaGreatDoorCDgAlike
import Derived.Test.YtalhmpggpjbeaaaGreatDoorCDgSpread
import Derived.Test.YtalhmpggpjbeaaaGreatDoorJ18
namespace Go.Proofs.YtalhmpggpjbeaaaGreatDoor
open Go.RowKit Go.Deep

/-- The first ones of an order that are asked for. -/
def lessF (ord ms : List Int) (k : Nat) : List Int := (ord.take k).filter fun x => decide (x ∈ ms)
theorem lessF_zero (ord ms : List Int) : lessF ord ms 0 = [] := by simp [lessF]
theorem lessF_succ {ord ms : List Int} {k : Nat} (hk : k < ord.length) : lessF ord ms (k + 1) = lessF ord ms k ++ (if ord[k] ∈ ms then [ord[k]] else []) := by
  unfold lessF
  rw [List.take_succ_eq_append_getElem hk, List.filter_append]
  congr 1
  by_cases h : ord[k] ∈ ms
  · simp [h]
  · simp [h]
theorem lessF_all {ord ms : List Int} : lessF ord ms ord.length = ord.filter fun x => decide (x ∈ ms) := by unfold lessF; rw [List.take_length]
theorem lessF_len {ord ms : List Int} {k : Nat} : (lessF ord ms k).length ≤ ord.length := Nat.le_trans (List.length_filter_le _ _) (by rw [List.length_take]; omega)
/-- What stands between two rounds: a history, its marks and its order in rows. -/
structure SrtSt (W0 w : World) (O : Nat → Prop) (b r : Nat) (hs : Hs) (am : Option Addr) (n cm : Nat) (ao : Option Addr) (co : Nat) (ord : List Int) : Prop where
  his : IsHis w O b r hs
  marks : w.ownsRow W0.heap.size 3 1 (.slice am n cm) (marksF hs).length ((marksF hs).map fun x => .int .i64 x)
  order : w.ownsRow W0.heap.size 3 1 (.slice ao n co) ord.length (ord.map fun x => .int .i64 x)
  upd : Upd (fun _ => False) W0 w
theorem SrtSt.keep {W0 w w' : World} {O : Nat → Prop} {b r : Nat} {hs : Hs} {am : Option Addr} {n cm : Nat} {ao : Option Addr} {co : Nat} {ord : List Int} (h : SrtSt W0 w O b r hs am n cm ao co ord) (u : Upd (fun _ => False) w w') : SrtSt W0 w' O b r hs am n cm ao co ord := ⟨h.his.keep u, ownsRow_upd h.marks u fun _ _ => id, ownsRow_upd h.order u fun _ _ => id, h.upd.trans u⟩
theorem SrtSt.cell {W0 w : World} {O : Nat → Prop} {b r : Nat} {hs : Hs} {am : Option Addr} {n cm : Nat} {ao : Option Addr} {co : Nat} {ord : List Int} (h : SrtSt W0 w O b r hs am n cm ao co ord) (hw : ∀ x ∈ ord, I64 x) (hp : 0 < ord.length) : ∃ g o, ao = some ⟨g, o, none⟩ ∧ ∀ k (hk : k < ord.length), w.cell? ⟨g, o + k, none⟩ = some (.int .i64 ord[k]) := by
  obtain ⟨a, c, e, _, _, h3⟩ := slice_open (ints_rep h.order hw)
  obtain ⟨g, o, ea, _, hel⟩ := h3 hp
  injection e with e1 _ _
  exact ⟨g, o, by rw [e1, ea], fun k hk => int_cells hel hk⟩
set_option maxRecDepth 100000 in
set_option maxHeartbeats 16000000 in
theorem sorted_walk (v vm : Value) (l : List Po) (ms : List Int) (w : World) (E : Env w) (hu : UsesIn w) (hz : 6 ≤ w.heap.size) (h : kPos.rep (· < w.heap.size) w [v] l) (hms : kInts.rep (· < w.heap.size) w [vm] ms) : Calls Tryz.prog 7 #[v, vm] w fun e w' => e = .returned (.bool true) ∧ Upd (fun _ => False) w w' := by
  obtain ⟨am0, cm0, rfl, hq1, hq2, _⟩ := slice_open hms
  have hq2 : cm0 ≤ 9223372036854775807 := hq2
  have MS := hid (fun (y : World) (u : Upd (fun _ => False) w y) => (show kInts.rep (· < w.heap.size) y [.slice am0 ms.length cm0] ms from kInts.keep hms (Same.of_upd u fun _ _ => id)))
  clear hms
  have HE := hid E; have HU := hid hu; have HZ := hid hz
  have HP0 := hid h
  obtain ⟨av, cv, rfl, _, hcv, _⟩ := slice_open h
  clear E hu hz h
  go_enter Tryz.func7, Tryz.ntmps7
  go_wp2_with fail
  refine (small_any w HE.out HU.out HZ.out).mono ?_
  rintro en x0 ⟨rfl, u⟩
  have U0 := hid u
  have HP := hid (kPos.mono (kPos.keep HP0.out (Same.of_upd u fun _ _ => id)) fun g hg => (Nat.lt_of_lt_of_le hg u.size : g < x0.heap.size))
  clear u HP0
  go_wp2_with fail
  refine (fewL_any _ _ l 16 _ HP.out (by decide)).mono ?_
  rintro en x1 ⟨rfl, u⟩
  by_cases hf : FewL l 16
  case neg =>
    rw [decide_eq_false hf]
    have U1 := hid (U0.out.trans u)
    clear u
    go_wp2_with fail
    go_ret
    exact ⟨rfl, U1.out⟩
  rw [decide_eq_true hf]
  replace U0 := hid (U0.out.trans u)
  replace HP := hid (kPos.mono (kPos.keep HP.out (Same.of_upd u fun _ _ => id)) fun g hg => (Nat.lt_of_lt_of_le hg u.size : g < x1.heap.size))
  have HF := hid hf
  clear u hf
  by_cases hl20 : ms.length ≤ 20
  case neg =>
    have hl20i : (20 : Int) < ms.length := by omega
    go_wp2_with fail
    go_ret
    exact ⟨rfl, U0.out⟩
  have hl20i : ¬ (20 : Int) < ms.length := by omega
  go_wp2_with fail
  refine (signed_any _ l _ HP.out (by have := HF.out.1; omega) HF.out.2 (Nat.le_trans HZ.out U0.out.size)).mono ?_
  rintro en x2 ⟨r, vs, Or, rfl, q1, q2, q3, q4, u⟩
  have LI := hid (law_in HE.out HU.out HZ.out U0.out HP.out HF.out (by decide) q1 q2 q3 q4 u)
  obtain ⟨aS, cs, rfl, hs1, hs2⟩ := own_slice q2
  have hs2 : cs ≤ 9223372036854775807 := hs2
  clear q1 q2 q3 q4 u HP
  obtain ⟨R, hR⟩ : ∃ R, (signedF l).1 = R := ⟨_, rfl⟩
  obtain ⟨sl, hsl⟩ : ∃ sl, (signedF l).2 = sl := ⟨_, rfl⟩
  have GN := hid (hR ▸ LI.out.gnd : Gnd x2 Or r R)
  have SG := hid (hsl ▸ LI.out.sgs : SgsAt x2 x1.heap.size (.slice aS (signedF l).2.length cs) sl)
  have SS := hid (hsl ▸ LI.out.small : ∀ s ∈ sl, SgSmall s)
  have FW := hid (hR ▸ LI.out.few : R.length ≤ 60)
  have SLL := hid (show sl.length ≤ 60 by rw [← hsl, LI.out.len]; have := HF.out.1; omega)
  have UX := hid (U0.out.trans LI.out.upd)
  rw [hsl] at SG hs1 ⊢
  have LX := hid LI.out.upd.size; have LU := hid LI.out.upd
  clear LI hR hsl HF
  clear hl20i
  go_wp2_with fail
  refine (known_any GN.out FW.out SG.out (by have := SLL.out; omega) SS.out).mono ?_
  rintro en y1 ⟨b, O, hs, rfl, q1, q2, q3, q4, q5, u⟩
  have PA := hid q2; have HA := hid q1; have UC := hid u
  clear q1 q2 q3 q4 q5 u
  go_wp2_with fail
  refine (hmarks_any HA.out).mono ?_
  rintro en y2 ⟨vm, rfl, ho, u⟩
  obtain ⟨am, cm, rfl, hm1, hm2⟩ := own_slice ho
  have hm2 : cm ≤ 9223372036854775807 := hm2
  replace HA := hid (HA.out.keep u)
  have OM := hid (show y2.ownsRow x2.heap.size _ _ _ _ _ from ownsRow_base ho UC.out.size)
  replace UC := hid (UC.out.trans u)
  have hM60 : (marksF hs).length ≤ 60 := by rw [marksF_len]; exact Nat.le_trans PA.out.len FW.out
  have MI := hid (mark_i64 PA.out FW.out)
  have MREP := ints_rep ho MI.out
  obtain ⟨v1, w1, v2, w2, r1, r2, o2, u2⟩ := both_ints am am cm cm (marksF hs) (marksF hs) y2 (fun g z => z.2) MREP MREP (by omega)
  replace HA := hid (HA.out.keep u2)
  replace OM := hid (ownsRow_upd OM.out u2 fun _ _ => id)
  have RO := hid (show kInts.rep _ w2 [v2] (marksF hs ++ marksF hs) from ints_rep o2 (fun x hx => (List.mem_append.1 hx).elim (MI.out x) (MI.out x)))
  replace UC := hid (UC.out.trans u2)
  have ORL := hid (sorted_all PA.out (ms := marksF hs ++ marksF hs) fun m hm => List.mem_append.2 (.inl ((mem_marksF hs m).2 hm)))
  clear ho u MREP o2 u2
  go_wp2_with (at_builtin; first | refine wpList_append_run rfl _ _ _ _ rfl rfl rfl r1 ?_ | refine wpList_append_run rfl _ _ _ _ rfl rfl rfl r2 ?_)
  refine (hsorted_any HA.out PA.out FW.out _ _ _ RO.out).mono ?_
  rintro en y3 ⟨vo, rfl, ho, u⟩
  clear r1 r2 RO
  replace HA := hid (HA.out.keep u)
  replace OM := hid (ownsRow_upd OM.out u fun _ _ => id)
  have OO := hid (show y3.ownsRow x2.heap.size _ _ _ _ _ from ownsRow_base ho UC.out.size)
  replace UC := hid (UC.out.trans u)
  obtain ⟨ao, co, rfl, ho1, ho2⟩ := own_slice ho
  have ho2 : co ≤ 9223372036854775807 := ho2
  have SF := hid (sorted_filter PA.out (ms := marksF hs ++ marksF hs) (fun m hm => List.mem_append.2 (.inl ((mem_marksF hs m).2 hm))) ms)
  have PW := hid (sorted_ok PA.out (marksF hs ++ marksF hs)).1
  obtain ⟨ord, hord⟩ : ∃ ord, sortedF hs (marksF hs ++ marksF hs) = ord := ⟨_, rfl⟩
  rw [hord] at OO ORL SF PW ho1 ⊢
  obtain ⟨M, hM⟩ : ∃ M, (marksF hs).length = M := ⟨_, rfl⟩
  have HM := hid hM
  have hol : ord.length = M := by rw [ORL.out.length_eq, hM]
  have HOL := hid hol
  rw [hol] at ho1 ⊢
  rw [hM] at hm1 hM60 ⊢
  have ST := hid (show SrtSt x2 y3 O b r hs am M cm ao co ord from ⟨HA.out, by have := OM.out; rw [hM] at this ⊢; exact this, by have := OO.out; rw [hol] at this ⊢; exact this, UC.out⟩)
  have MIO := hid (fun x (hx : x ∈ ord) => MI.out x (ORL.out.mem_iff.1 hx))
  clear ho u hord hM hol HA OM OO UC
  have MREP := hid (fun (y : World) (u : Upd (fun _ => False) y3 y) => (show kInts.rep _ y [.slice am M cm] (marksF hs) from ints_rep (ST.out.keep u).marks MI.out))
  have OCELL := hid (fun (y : World) (u : Upd (fun _ => False) y3 y) => (ST.out.keep u).cell MIO.out)
  go_wp2_with fail
  go_loopg [11, 12] M (fun gg s11 s12 wr => ∃ k : Nat, k ≤ M ∧ gg = M - k ∧ s12 = .int .i64 k ∧ wr.ownsRow y3.heap.size 3 1 s11 (lessF ord ms k).length ((lessF ord ms k).map fun x => .int .i64 x) ∧ Upd (fun _ => False) y3 wr)
  case atStart => exact ⟨0, Nat.zero_le _, rfl, rfl, by rw [lessF_zero]; exact World.ownsRow_nil _ _ _ _, Upd.refl _ _⟩
  case round =>
    obtain ⟨i, hi, hg, rfl, hless, hu⟩ := hrel
    have UP := hid hu; have HG := hid hg; have LESS := hid hless
    obtain ⟨al, cl, rfl, hl1, hl2⟩ := own_slice hless
    have hl2 : cl ≤ 9223372036854775807 := hl2
    clear hu hg hless
    by_cases hlt : i < M
    case neg =>
      as_aux_lemma =>
      have hlti : ¬ (i : Int) < M := by omega
      have MSU := MS.out _ (UX.out.trans (ST.out.upd.trans UP.out))
      have LF := hid (show lessF ord ms i = sortedF hs ms from by rw [show i = ord.length by rw [HOL.out]; omega, lessF_all, SF.out])
      go_wp2_with fail
      refine (hsorted_any (ST.out.keep UP.out).his PA.out FW.out _ _ ms MSU).mono ?_
      rintro en y6 ⟨vq, rfl, hq, uq⟩
      have RQ := hid (ints_rep hq fun x hx => MI.out x ((mem_marksF hs x).2 ((sorted_ok PA.out ms).2 x |>.1 hx).2))
      have RL := hid (show kInts.rep _ y6 [.slice al (lessF ord ms i).length cl] (lessF ord ms i) from ints_rep (ownsRow_upd LESS.out uq fun _ _ => id) fun x hx => MIO.out x (List.mem_of_mem_take (by unfold lessF at hx; exact (List.mem_filter.1 hx).1)))
      have UQ := hid (UX.out.trans (ST.out.upd.trans (UP.out.trans uq)))
      clear hq uq MSU
      go_wp2_with fail
      refine (ints8_any _ _ _ _ _ _ _ RQ.out RL.out (fun _ q => q.2) (fun _ q => q.2)).mono ?_
      rintro en y7 ⟨rfl, u⟩
      rw [decide_eq_true LF.out.symm]
      have U9 := hid (UQ.out.trans u)
      clear u
      go_wp2_with fail
      go_ret
      exact ⟨rfl, U9.out⟩
    have hlti : (i : Int) < M := by omega
    have hi1 : (i : Int) + 1 ≤ 1000 := by omega
    have hil : i < ord.length := by rw [HOL.out]; exact hlt
    obtain ⟨g, o, rfl, _⟩ := OCELL.out _ (Upd.refl _ _) (by omega)
    have OC := hid (fun (y : World) (u : Upd (fun _ => False) y3 y) (k : Nat) (hk : k < ord.length) => (show y.cell? ⟨g, o + k, none⟩ = some (.int .i64 ord[k]) from by
      obtain ⟨g', o', e, q⟩ := OCELL.out y u (by omega)
      cases e
      exact q k hk))
    clear OCELL
    obtain ⟨m, hme⟩ : ∃ m, ord[i] = m := ⟨_, rfl⟩
    have HME := hid hme
    have MMEM := hid (show m ∈ marksF hs from ORL.out.mem_iff.1 (hme ▸ List.getElem_mem hil))
    have MW := hid (show (Lit.int .i64 m).wf = true from iwf (MI.out m MMEM.out))
    have LS := hid (lessF_succ (ms := ms) hil)
    have MC := hid (fun (y : World) (u : Upd (fun _ => False) y3 y) => (show y.cell? ⟨g, o + i, none⟩ = some (.int .i64 m) from by have := OC.out y u i hil; rw [hme] at this; exact this))
    rw [hme] at LS
    clear hme
    have m0 := MC.out _ UP.out
    go_wp2_with fail
    refine (lhas_any _ _ _ m _ (MREP.out _ UP.out)).mono ?_
    rintro en yy ⟨rfl, rfl⟩
    rw [decide_eq_true MMEM.out]
    go_wp2_with fail
    clear m0
    have US := hid (Upd.refl (fun _ => False) wr)
    go_loopg [13] i (fun gg s13 wx => ∃ k : Nat, k ≤ i ∧ gg = i - k ∧ s13 = .int .i64 k ∧ Upd (fun _ => False) wr wx)
    case atStart => exact ⟨0, Nat.zero_le _, rfl, rfl, US.out⟩
    case round =>
      obtain ⟨k, hk, hg, rfl, hu⟩ := hrel
      have UK := hid (UP.out.trans hu); have UV := hid hu; have HGK := hid hg
      clear hu hg US
      by_cases hlk : k < i
      case neg =>
        as_aux_lemma =>
        have hlki : ¬ (k : Int) < i := by omega
        have m0 := MC.out _ UK.out
        have HLL := hid (show (lessF ord ms i).length ≤ 60 from Nat.le_trans lessF_len (by rw [HOL.out]; exact hM60))
        have MSU := MS.out _ (UX.out.trans (ST.out.upd.trans UK.out))
        by_cases hin : m ∈ ms
        case neg =>
          rw [if_neg hin, List.append_nil] at LS
          go_wp2_with fail
          refine (lhas_any _ _ _ m _ MSU).mono ?_
          rintro en yy ⟨rfl, rfl⟩
          rw [decide_eq_false hin]
          go_wp2_with fail
          go_roundg (M - (i + 1))
          case measure => have := HG.out; omega
          case rel => exact ⟨i + 1, by omega, rfl, by go_num, by rw [LS.out]; exact ownsRow_upd LESS.out UV.out fun _ _ => id, UK.out⟩
        rw [if_pos hin] at LS
        obtain ⟨v', w4, r4, o4, u4, n4⟩ := append_one elemI (ownsRow_upd LESS.out UV.out fun _ _ => id) #[.int .i64 m] rfl (by simp [Value.oneCell']) (by have := HLL.out; unfold maxLen; omega) (by have := HLL.out; omega) UK.out.size 31 (0, 0)
        have O4 := hid o4; have U4 := hid u4
        clear o4 u4 n4
        go_wp2_with fail
        refine (lhas_any _ _ _ m _ MSU).mono ?_
        rintro en yy ⟨rfl, rfl⟩
        rw [decide_eq_true hin]
        go_wp2_with (at_builtin; refine wpList_append_run rfl _ _ _ _ rfl rfl rfl r4 ?_)
        go_roundg (M - (i + 1))
        case measure => have := HG.out; omega
        case rel =>
          refine ⟨i + 1, by omega, rfl, by go_num, ?_, UK.out.comp U4.out fun q hq e => by have := (own_lt (ownsRow_upd LESS.out UV.out fun _ _ => id) q e).1; omega⟩
          rw [LS.out, List.length_append, List.map_append]
          exact O4.out
      as_aux_lemma =>
      have hlki : (k : Int) < i := by omega
      have hk1 : (k : Int) + 1 ≤ 1000 := by omega
      have hkl : k < ord.length := by omega
      obtain ⟨a, ha⟩ : ∃ a, ord[k] = a := ⟨_, rfl⟩
      have AMEM := hid (show a ∈ marksF hs from ORL.out.mem_iff.1 (ha ▸ List.getElem_mem hkl))
      have AW := hid (show (Lit.int .i64 a).wf = true from iwf (MI.out a AMEM.out))
      have BEF := hid (show BefM hs a m from by have := List.pairwise_iff_getElem.1 PW.out k i hkl hil hlk; rw [ha, HME.out] at this; exact this)
      have AC := hid (fun (y : World) (u : Upd (fun _ => False) y3 y) => (show y.cell? ⟨g, o + k, none⟩ = some (.int .i64 a) from by have := OC.out y u k hkl; rw [ha] at this; exact this))
      have AHD := hid (show levelM hs a < levelM hs m ∨ levelM hs a = levelM hs m ∧ ((entryM hs a).1.author < (entryM hs m).1.author ∨ (entryM hs a).1.author = (entryM hs m).1.author ∧ ((entryM hs a).1.seq < (entryM hs m).1.seq ∨ (entryM hs a).1.seq = (entryM hs m).1.seq ∧ a < m)) from by have := ahead_of BEF.out; unfold aheadB at this; simpa only [Bool.or_eq_true, Bool.and_eq_true, decide_eq_true_eq] using this)
      have NBF := hid (not_before PA.out BEF.out)
      obtain ⟨la, hla⟩ : ∃ la, levelM hs a = la := ⟨_, rfl⟩
      obtain ⟨lm, hlm⟩ : ∃ lm, levelM hs m = lm := ⟨_, rfl⟩
      obtain ⟨x, hx⟩ : ∃ x, (entryM hs a).1 = x := ⟨_, rfl⟩
      obtain ⟨z, hz'⟩ : ∃ z, (entryM hs m).1 = z := ⟨_, rfl⟩
      obtain ⟨bx, hbx⟩ : ∃ bx, (entryM hs a).2 = bx := ⟨_, rfl⟩
      obtain ⟨bz, hbz⟩ : ∃ bz, (entryM hs m).2 = bz := ⟨_, rfl⟩
      rw [hla, hlm, hx, hz'] at AHD
      have HLA := hid hla; have HLM := hid hlm; have HX := hid hx; have HZ' := hid hz'; have HBX := hid hbx; have HBZ := hid hbz
      clear ha hla hlm hx hz' hbx hbz BEF
      have m0 := AC.out _ UK.out
      go_wp2_with fail
      refine (hentry_any (ST.out.keep UK.out).his PA.out a AW.out).mono ?_
      rintro en y4 ⟨a1, a2, a3, c1, c2, c3, rfl, hrep, u⟩
      rw [HX.out, HBX.out]
      clear hrep m0
      obtain ⟨W3, hW3⟩ : ∃ W', W' = y4.alloc (.cells (en13 x a1 a2 a3 c1 c2 c3) 39 (0, 0)) := ⟨_, rfl⟩
      have u3 : Upd (fun _ => False) y4 W3 := by rw [hW3]; exact (Upd.refl _ _).alloc _
      obtain ⟨eb, heb⟩ : ∃ eb, y4.heap.size = eb := ⟨_, rfl⟩
      have EC := hid (fun (y' : World) (u' : Upd (fun _ => False) W3 y') => (show y'.cell? ⟨eb, 0, none⟩ = some (.int .i64 x.author) ∧ y'.cell? ⟨eb, 1, none⟩ = some (.int .i64 x.seq) from by
        have h0 : W3.heap[eb]? = some (.cells (en13 x a1 a2 a3 c1 c2 c3) 39 (0, 0)) := by rw [hW3, ← heb]; exact heap_alloc_new
        obtain ⟨f0, f1, _⟩ := cells13 ((u'.block _ (heap_lt h0) id).trans h0)
        exact ⟨f0, f1⟩))
      replace UK := hid (UK.out.trans (u.trans u3)); replace UV := hid (UV.out.trans (u.trans u3))
      have UE := hid (u.trans u3)
      have HW3 := hid hW3; have HEB := hid heb
      clear hW3 heb u u3
      unfold enV
      go_upto_region 22 with (fail)
      rw [← (show W3 = y4.alloc (.cells #[.int .i64 x.author, .int .i64 x.seq, .int .i64 x.day, .slice a1 x.knows.length c1, .int .i64 x.kind, .int .i64 x.circle, .int .i64 x.who, .int .i64 x.n, .int .i64 x.m, .int .i64 x.ref, .slice a2 x.keys.length c2, .slice a3 x.spans.length c3, .string ⟨x.text.toArray⟩] 39 (0, 0)) from HW3.out)]
      try rw [HEB.out]
      clear HW3 HEB
      have m0 := MC.out _ UK.out
      clear UE
      go_wp2_with fail
      refine (hentry_any (ST.out.keep UK.out).his PA.out m MW.out).mono ?_
      rintro en y5 ⟨a1, a2, a3, c1, c2, c3, rfl, hrep, u⟩
      rw [HZ'.out, HBZ.out]
      clear hrep m0
      obtain ⟨W4, hW4⟩ : ∃ W', W' = y5.alloc (.cells (en13 z a1 a2 a3 c1 c2 c3) 39 (0, 0)) := ⟨_, rfl⟩
      have u3 : Upd (fun _ => False) y5 W4 := by rw [hW4]; exact (Upd.refl _ _).alloc _
      obtain ⟨ec, hec⟩ : ∃ eb, y5.heap.size = eb := ⟨_, rfl⟩
      have EZ := hid (fun (y' : World) (u' : Upd (fun _ => False) W4 y') => (show y'.cell? ⟨ec, 0, none⟩ = some (.int .i64 z.author) ∧ y'.cell? ⟨ec, 1, none⟩ = some (.int .i64 z.seq) from by
        have h0 : W4.heap[ec]? = some (.cells (en13 z a1 a2 a3 c1 c2 c3) 39 (0, 0)) := by rw [hW4, ← hec]; exact heap_alloc_new
        obtain ⟨f0, f1, _⟩ := cells13 ((u'.block _ (heap_lt h0) id).trans h0)
        exact ⟨f0, f1⟩))
      replace UK := hid (UK.out.trans (u.trans u3)); replace UV := hid (UV.out.trans (u.trans u3))
      have UE := hid (u.trans u3)
      have HW3 := hid hW4; have HEB := hid hec
      clear hW4 hec u u3
      unfold enV
      go_upto_region 23 with (fail)
      rw [← (show W4 = y5.alloc (.cells #[.int .i64 z.author, .int .i64 z.seq, .int .i64 z.day, .slice a1 z.knows.length c1, .int .i64 z.kind, .int .i64 z.circle, .int .i64 z.who, .int .i64 z.n, .int .i64 z.m, .int .i64 z.ref, .slice a2 z.keys.length c2, .slice a3 z.spans.length c3, .string ⟨z.text.toArray⟩] 39 (0, 0)) from HW3.out)]
      try rw [HEB.out]
      clear HW3 HEB
      have m0 := AC.out _ UK.out
      have m1 := MC.out _ UK.out
      have e0 := EC.out _ UE.out
      have z0 := EZ.out _ (Upd.refl _ _)
      clear EC EZ UE
      obtain ⟨e0, e1⟩ := e0
      obtain ⟨z0, z1⟩ := z0
      go_wp2_with fail
      refine (hlevel_any (ST.out.keep UK.out).his a AW.out).mono ?_
      rintro en yy ⟨rfl, rfl⟩
      rw [HLA.out]
      go_wp2_with fail
      refine (hlevel_any (ST.out.keep UK.out).his m MW.out).mono ?_
      rintro en yy ⟨rfl, rfl⟩
      rw [HLM.out]
      go_upto_region 25 with (fail)
      rcases AHD.out with q | ⟨q, q1 | ⟨q1, q2 | ⟨q2, q3⟩⟩⟩
      · have d0 : decide (la < lm) = true := decide_eq_true q
        clear q
        have m0p := fun p : UW W4 => p.cell m0
        have m1p := fun p : UW W4 => p.cell m1
        have e0p := fun p : UW W4 => p.cell e0
        have e1p := fun p : UW W4 => p.cell e1
        have z0p := fun p : UW W4 => p.cell z0
        have z1p := fun p : UW W4 => p.cell z1
        clear m0 m1 e0 e1 z0 z1
        refine region_upd (by kernel_rfl) (by kernel_rfl) ?_
        repeat (go_big_quiet_step (fail))
        refine wpQuiet_nil ?_
        intro _ hw1
        refine uw_out hw1 ?_
        rintro w1 u1 e
        obtain rfl := e.symm
        clear e hw1 m0p m1p e0p e1p z0p z1p
        replace UK := hid (UK.out.trans u1); replace UV := hid (UV.out.trans u1)
        clear u1
        go_upto_region 26 with (fail)
        have m0p := fun p : UW w1 => p.cell (AC.out _ UK.out)
        have m1p := fun p : UW w1 => p.cell (MC.out _ UK.out)
        have BEFP := fun p : UW w1 => hbefore_any ((ST.out.keep UK.out).his.keep p.u) m a MW.out AW.out
        rw [NBF.out] at BEFP
        refine region_upd (by kernel_rfl) (by kernel_rfl) ?_
        repeat (go_big_quiet_step ((go_at_call 30; exact Calls.upd_same (BEFP _))))
        refine wpQuiet_nil ?_
        intro _ hw2
        refine uw_out hw2 ?_
        rintro w7 u2 e
        obtain rfl := e.symm
        clear e hw2 m0p m1p BEFP
        go_wp2_with fail
        go_roundg (i - (k + 1))
        case measure => have := HGK.out; omega
        case rel => exact ⟨k + 1, by omega, rfl, by go_num, UV.out.trans u2⟩
      · have d0 : decide (la < lm) = false := decide_eq_false (by omega)
        have f0 : (la == lm) = true := beq_iff_eq.2 q
        have d1 : decide (x.author < z.author) = true := decide_eq_true q1
        clear q q1
        have m0p := fun p : UW W4 => p.cell m0
        have m1p := fun p : UW W4 => p.cell m1
        have e0p := fun p : UW W4 => p.cell e0
        have e1p := fun p : UW W4 => p.cell e1
        have z0p := fun p : UW W4 => p.cell z0
        have z1p := fun p : UW W4 => p.cell z1
        clear m0 m1 e0 e1 z0 z1
        refine region_upd (by kernel_rfl) (by kernel_rfl) ?_
        repeat (go_big_quiet_step (fail))
        refine wpQuiet_nil ?_
        intro _ hw1
        refine uw_out hw1 ?_
        rintro w1 u1 e
        obtain rfl := e.symm
        clear e hw1 m0p m1p e0p e1p z0p z1p
        replace UK := hid (UK.out.trans u1); replace UV := hid (UV.out.trans u1)
        clear u1
        go_upto_region 26 with (fail)
        have m0p := fun p : UW w1 => p.cell (AC.out _ UK.out)
        have m1p := fun p : UW w1 => p.cell (MC.out _ UK.out)
        have BEFP := fun p : UW w1 => hbefore_any ((ST.out.keep UK.out).his.keep p.u) m a MW.out AW.out
        rw [NBF.out] at BEFP
        refine region_upd (by kernel_rfl) (by kernel_rfl) ?_
        repeat (go_big_quiet_step ((go_at_call 30; exact Calls.upd_same (BEFP _))))
        refine wpQuiet_nil ?_
        intro _ hw2
        refine uw_out hw2 ?_
        rintro w7 u2 e
        obtain rfl := e.symm
        clear e hw2 m0p m1p BEFP
        go_wp2_with fail
        go_roundg (i - (k + 1))
        case measure => have := HGK.out; omega
        case rel => exact ⟨k + 1, by omega, rfl, by go_num, UV.out.trans u2⟩
      · have d0 : decide (la < lm) = false := decide_eq_false (by omega)
        have f0 : (la == lm) = true := beq_iff_eq.2 q
        have d1 : decide (x.author < z.author) = false := decide_eq_false (by omega)
        have f1 : (x.author == z.author) = true := beq_iff_eq.2 q1
        have d2 : decide (x.seq < z.seq) = true := decide_eq_true q2
        clear q q1 q2
        have m0p := fun p : UW W4 => p.cell m0
        have m1p := fun p : UW W4 => p.cell m1
        have e0p := fun p : UW W4 => p.cell e0
        have e1p := fun p : UW W4 => p.cell e1
        have z0p := fun p : UW W4 => p.cell z0
        have z1p := fun p : UW W4 => p.cell z1
        clear m0 m1 e0 e1 z0 z1
        refine region_upd (by kernel_rfl) (by kernel_rfl) ?_
        repeat (go_big_quiet_step (fail))
        refine wpQuiet_nil ?_
        intro _ hw1
        refine uw_out hw1 ?_
        rintro w1 u1 e
        obtain rfl := e.symm
        clear e hw1 m0p m1p e0p e1p z0p z1p
        replace UK := hid (UK.out.trans u1); replace UV := hid (UV.out.trans u1)
        clear u1
        go_upto_region 26 with (fail)
        have m0p := fun p : UW w1 => p.cell (AC.out _ UK.out)
        have m1p := fun p : UW w1 => p.cell (MC.out _ UK.out)
        have BEFP := fun p : UW w1 => hbefore_any ((ST.out.keep UK.out).his.keep p.u) m a MW.out AW.out
        rw [NBF.out] at BEFP
        refine region_upd (by kernel_rfl) (by kernel_rfl) ?_
        repeat (go_big_quiet_step ((go_at_call 30; exact Calls.upd_same (BEFP _))))
        refine wpQuiet_nil ?_
        intro _ hw2
        refine uw_out hw2 ?_
        rintro w7 u2 e
        obtain rfl := e.symm
        clear e hw2 m0p m1p BEFP
        go_wp2_with fail
        go_roundg (i - (k + 1))
        case measure => have := HGK.out; omega
        case rel => exact ⟨k + 1, by omega, rfl, by go_num, UV.out.trans u2⟩
      · have d0 : decide (la < lm) = false := decide_eq_false (by omega)
        have f0 : (la == lm) = true := beq_iff_eq.2 q
        have d1 : decide (x.author < z.author) = false := decide_eq_false (by omega)
        have f1 : (x.author == z.author) = true := beq_iff_eq.2 q1
        have d2 : decide (x.seq < z.seq) = false := decide_eq_false (by omega)
        have f2 : (x.seq == z.seq) = true := beq_iff_eq.2 q2
        have d3 : decide (a < m) = true := decide_eq_true q3
        clear q q1 q2 q3
        have m0p := fun p : UW W4 => p.cell m0
        have m1p := fun p : UW W4 => p.cell m1
        have e0p := fun p : UW W4 => p.cell e0
        have e1p := fun p : UW W4 => p.cell e1
        have z0p := fun p : UW W4 => p.cell z0
        have z1p := fun p : UW W4 => p.cell z1
        clear m0 m1 e0 e1 z0 z1
        refine region_upd (by kernel_rfl) (by kernel_rfl) ?_
        repeat (go_big_quiet_step (fail))
        refine wpQuiet_nil ?_
        intro _ hw1
        refine uw_out hw1 ?_
        rintro w1 u1 e
        obtain rfl := e.symm
        clear e hw1 m0p m1p e0p e1p z0p z1p
        replace UK := hid (UK.out.trans u1); replace UV := hid (UV.out.trans u1)
        clear u1
        go_upto_region 26 with (fail)
        have m0p := fun p : UW w1 => p.cell (AC.out _ UK.out)
        have m1p := fun p : UW w1 => p.cell (MC.out _ UK.out)
        have BEFP := fun p : UW w1 => hbefore_any ((ST.out.keep UK.out).his.keep p.u) m a MW.out AW.out
        rw [NBF.out] at BEFP
        refine region_upd (by kernel_rfl) (by kernel_rfl) ?_
        repeat (go_big_quiet_step ((go_at_call 30; exact Calls.upd_same (BEFP _))))
        refine wpQuiet_nil ?_
        intro _ hw2
        refine uw_out hw2 ?_
        rintro w7 u2 e
        obtain rfl := e.symm
        clear e hw2 m0p m1p BEFP
        go_wp2_with fail
        go_roundg (i - (k + 1))
        case measure => have := HGK.out; omega
        case rel => exact ⟨k + 1, by omega, rfl, by go_num, UV.out.trans u2⟩
theorem sorted_card (v : Value) (l : List Po) (vm : Value) (ms : List Int) (w : World) (E : Env w) (hu : UsesIn w) (hz : 6 ≤ w.heap.size) (h : kPos.rep (· < w.heap.size) w [v] l) (hms : kInts.rep (· < w.heap.size) w [vm] ms) : Calls Tryz.prog 7 #[v, vm] w fun e w' => e = .returned (.bool true) ∧ Below w.heap.size w w' :=
  (sorted_walk v vm l ms w E hu hz h hms).mono fun _ _ ⟨a, u⟩ => ⟨a, u.below (Nat.le_refl _) fun _ q => q.elim⟩
end Go.Proofs.YtalhmpggpjbeaaaGreatDoor
