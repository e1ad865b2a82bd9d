/- Walks: Play. -/
import Derived.Test.YtmjjfafkmfcpnaaGmA8
namespace Go.Proofs.Ytmjjfafkmfcpnaa
open Go.RowKit Go.Deep

theorem elemI : ElemTy Try.prog 23 3 1 8 := .mk' Try.underlying23 (z := .int .i64 0) (by kernel_rfl) (by rfl) (by decide)

/-- The nodes that are passed, from the first one on. -/
def pathI (l : List Nd) (mine others : List Int) : List Int := 0 :: (playF l mine others l.length 0).2.map fun (n : Nat) => (n : Int)
def playOk (l : List Nd) (mine others : List Int) : Bool := right l && decide (mine.length = l.length) && decide (others.length = l.length)

def PlayPost (l : List Nd) (mine others : List Int) (w : World) (e : Ending) (w' : World) : Prop :=
  if playOk l mine others = true then ∃ v, e = .returned (.tuple #[.int .i64 (playF l mine others l.length 0).1, v, .int .i64 0]) ∧ kInts.rep (fun b => w.heap.size ≤ b ∧ b < w'.heap.size) w' [v] (pathI l mine others) ∧ Upd (fun _ => False) w w'
  else e = .returned (.tuple #[.int .i64 0, .slice none 0 0, .int .i64 1]) ∧ Upd (fun _ => False) w w'

/-- The state of Play. -/
structure PlayAt (l : List Nd) (mine others : List Int) (f i : Nat) (g : Int) (P : List Int) (w0 w : World) (v : Value) : Prop where
  lt : i < l.length
  fuel : l.length ≤ f + i
  gain : g + (playF l mine others f i).1 = (playF l mine others l.length 0).1
  path : P ++ (playF l mine others f i).2.map (fun (n : Nat) => (n : Int)) = pathI l mine others
  small : -(1099511627776 * i) ≤ g ∧ g ≤ 1099511627776 * i
  len : P.length ≤ i + 1
  own : w.ownsRow w0.heap.size 3 1 v P.length (P.map (.int .i64))
  wf : ∀ x ∈ P, (Lit.int .i64 x).wf = true
  u : Upd (fun _ => False) w0 w

theorem PlayAt.begin {l : List Nd} {mine others : List Int} (hr : RightP l) {w0 w : World} (h : w.heap[w0.heap.size]? = some (.cells #[.int .i64 0] 3 (0, 0))) (u : Upd (fun _ => False) w0 w) :
    PlayAt l mine others l.length 0 0 [0] w0 w (.slice (some ⟨w0.heap.size, 0, none⟩) 1 1) :=
  ⟨hr.pos, by omega, by omega, rfl, by omega, Nat.le_refl _, ⟨rfl, .inr ⟨_, 1, _, rfl, Nat.le_refl _, h, Nat.le_refl _, by unfold maxLen; omega, rfl, rfl⟩⟩, fun x hx => by rw [List.mem_singleton] at hx; subst hx; decide, u⟩

theorem PlayAt.step {l : List Nd} (hr : RightP l) {mine others : List Int} {f i c : Nat} {g : Int} {P : List Int} {w0 w wc : World} {v : Value} {mi : Bool} {mvs : List Mv} (h : PlayAt l mine others f i g P w0 w v) (hnd : l[i]? = some ⟨mi, mvs⟩)
    {t : Nat} {gain : Int} (hm : mvs[c]? = some ⟨t, gain⟩) (hc : c = chosen ⟨mi, mvs⟩ (if mi then geti mine i else geti others i)) (uc : Upd (fun _ => False) w wc) :
    ∃ f' v' w', (Builtin.append_ #[23, 23] 23 #[v, .slice (some ⟨wc.heap.size, 0, none⟩) 1 1]).run Try.prog (wc.alloc (.cells #[.int .i64 t] 3 (0, 0))) = .ok v' w' ∧ PlayAt l mine others f' t (g + gain) (P ++ [(t : Int)]) w0 w' v' := by
  obtain ⟨m1, m2, m3, m4⟩ := hr.mv i _ _ hnd (List.mem_of_getElem? hm)
  dsimp only at m1 m2 m3 m4
  rw [show maxGain = 1099511627776 from rfl] at m3 m4
  have hf := h.fuel; have hlt := h.lt; have hfew := hr.few; have hlen := h.len; have hs := h.small
  obtain ⟨f', rfl⟩ : ∃ f', f = f' + 1 := ⟨f - 1, by omega⟩
  have hp : playF l mine others (f' + 1) i = (gain + (playF l mine others f' t).1, t :: (playF l mine others f' t).2) := by
    rw [playF, hnd]
    dsimp only
    rw [← hc, hm]
    dsimp only
    rw [Int.toNat_natCast]
  have own := ownsRow_upd h.own uc (fun _ _ => id)
  have hsz := Nat.le_trans h.u.size uc.size
  obtain ⟨v', w', r, o, u, n⟩ := append_one elemI own #[.int .i64 t] rfl (by simp [Value.oneCell']) (by unfold maxLen; omega) (by omega) hsz 23 (0, 0)
  have hb : ∀ k, v.ownBlock = some k → w0.heap.size ≤ k := fun k hk => (h.own.lt k hk).1
  refine ⟨f', v', w', r, ⟨by omega, by omega, ?_, ?_, by omega, by rw [List.length_append, List.length_singleton]; omega, ?_, ?_, ?_⟩⟩
  · have := h.gain; rw [hp] at this; dsimp only at this; omega
  · have := h.path; rw [hp] at this; rw [← this]; simp
  · rw [List.length_append, List.length_singleton, List.map_append]; exact o
  · intro x hx
    rcases List.mem_append.1 hx with hx | hx
    · exact h.wf x hx
    · rw [List.mem_singleton] at hx; subst hx; exact iwf (by omega)
  · exact (h.u.trans uc).comp u fun k hk hk2 => by have := hb k hk2; omega

theorem PlayAt.final {l : List Nd} {mine others : List Int} {f i : Nat} {g : Int} {P : List Int} {w0 w : World} {v : Value} {mi : Bool} (h : PlayAt l mine others f i g P w0 w v) (hnd : l[i]? = some ⟨mi, []⟩) :
    g = (playF l mine others l.length 0).1 ∧ kInts.rep (fun b => w0.heap.size ≤ b ∧ b < w.heap.size) w [v] (pathI l mine others) ∧ Upd (fun _ => False) w0 w := by
  have hp : playF l mine others f i = (0, []) := by
    cases f with
    | zero => rfl
    | succ f => rw [playF, hnd]; rfl
  have h1 := h.gain; have h2 := h.path
  rw [hp] at h1 h2
  simp at h2
  subst h2
  refine ⟨by dsimp only at h1; omega, ownsRow_rep1 (e := 3) (base := w0.heap.size) rfl (.int .i64) h.own (fun x hx => ⟨rfl, h.wf x hx⟩) fun g hg => ⟨(h.own.lt g hg).1, (h.own.lt g hg).2⟩, h.u⟩

theorem playPost_ok {l : List Nd} {mine others : List Int} {w w' : World} {v : Value} {g : Int} (h : playOk l mine others = true) (hg : g = (playF l mine others l.length 0).1 ∧ kInts.rep (fun b => w.heap.size ≤ b ∧ b < w'.heap.size) w' [v] (pathI l mine others) ∧ Upd (fun _ => False) w w') :
    PlayPost l mine others w (.returned (.tuple #[.int .i64 g, v, .int .i64 0])) w' := by
  unfold PlayPost; rw [if_pos h, hg.1]; exact ⟨v, rfl, hg.2⟩
theorem playPost_bad {l : List Nd} {mine others : List Int} {w w' : World} (h : playOk l mine others = false) (u : Upd (fun _ => False) w w') :
    PlayPost l mine others w (.returned (.tuple #[.int .i64 0, .slice none 0 0, .int .i64 1])) w' := by
  unfold PlayPost; rw [if_neg (by rw [h]; decide)]; exact ⟨rfl, u⟩

set_option maxRecDepth 100000 in
set_option maxHeartbeats 1000000 in
theorem play_any (v v1 v2 : Value) (l : List Nd) (mine others : List Int) (w : World) (hl : (kSlice kNd).rep (· < w.heap.size) w [v] l) (h1 : kInts.rep (· < w.heap.size) w [v1] mine) (h2 : kInts.rep (· < w.heap.size) w [v2] others) :
    Calls Try.prog 16 #[v, v1, v2] w (PlayPost l mine others w) := by
  obtain ⟨a0, cap0, rfl, p1, p2, _⟩ := slice_open hl
  obtain ⟨a1, cap1, rfl, q1, q2, _⟩ := slice_open h1
  obtain ⟨a2, cap2, rfl, r1, r2, _⟩ := slice_open h2
  have p2 : cap0 ≤ 9223372036854775807 := p2
  have q2 : cap1 ≤ 9223372036854775807 := q2
  have r2 : cap2 ≤ 9223372036854775807 := r2
  have HL := hid hl; have HV := hid h1; have HC := hid h2
  clear hl h1 h2
  cases hr : right l
  · have hf : playOk l mine others = false := by unfold playOk; rw [hr]; rfl
    have HF := hid hf; have HR := hid hr; clear hr hf
    go_enter Try.func16, Try.ntmps16
    go_wp2_with fail
    refine (right_any _ l _ HL.out).mono ?_
    rintro e w1 ⟨rfl, u1⟩
    have U1 := hid u1; clear u1
    rw [HR.out]
    go_wp2_with fail
    go_ret3
    exact playPost_bad HF.out U1.out
  have HR := hid hr; clear hr
  have HP := hid ((right_iff l).1 HR.out)
  by_cases c1 : mine.length = l.length
  · by_cases c2 : others.length = l.length
    · have hok : playOk l mine others = true := by unfold playOk; rw [HR.out, decide_eq_true c1, decide_eq_true c2]; rfl
      have OK := hid hok
      have c1b : ((mine.length : Int) != l.length) = false := by rw [c1]; simp
      have c1c : (mine.length != l.length) = false := by rw [c1]; simp
      have c2b : ((others.length : Int) != l.length) = false := by rw [c2]; simp
      have c2c : (others.length != l.length) = false := by rw [c2]; simp
      have C1 := hid c1; have C2 := hid c2
      have hn1 : (l.length : Int) ≤ 3000 := by have := HP.out.few; omega
      have hn0 : (1 : Int) ≤ l.length := by have := HP.out.pos; omega
      clear c1 c2 hok
      go_enter Try.func16, Try.ntmps16
      go_wp2_with fail
      refine (right_any _ l _ HL.out).mono ?_
      rintro e w1 ⟨rfl, u1⟩
      have U1 := hid u1
      have HL1 := hid (keep_nds HL.out u1); have HV1 := hid (keep_ints HV.out u1); have HC1 := hid (keep_ints HC.out u1)
      clear u1 HL HV HC
      have b0 := PlayAt.begin (mine := mine) (others := others) HP.out (w0 := w1) (w := w1.alloc (.cells #[.int .i64 0] 3 (0, 0))) heap_alloc_new ((Upd.refl _ _).alloc _)
      have B0 := hid b0; clear b0
      rw [HR.out]
      go_wp2_with fail
      clear c1b c1c c2b c2c
      go_loopg [9, 10, 11] l.length (fun gg s9 s10 s11 wr => ∃ (f i : Nat) (g : Int) (P : List Int), gg = l.length - i ∧ s9 = .int .i64 g ∧ s10 = .int .i64 i ∧ PlayAt l mine others f i g P w1 wr s11)
      case atStart => exact ⟨l.length, 0, 0, [0], (Nat.sub_zero _).symm, rfl, rfl, B0.out⟩
      case round =>
        clear B0
        obtain ⟨f, i, g, P, hg, rfl, rfl, st⟩ := hrel
        have HG := hid hg; have ST := hid st
        clear hg st
        have hlt := ST.out.lt
        have hlti : (i : Int) < l.length := by omega
        have hgs : -(1099511627776 * 3000) ≤ g ∧ g ≤ 1099511627776 * 3000 := by have := ST.out.small; omega
        obtain ⟨b0, o0, rfl, hb0, hel⟩ := slice_at HL1.out (by omega)
        obtain ⟨b1, o1, rfl, hb1, hel1⟩ := slice_at HV1.out (by rw [C1.out]; omega)
        obtain ⟨b2, o2, rfl, hb2, hel2⟩ := slice_at HC1.out (by rw [C2.out]; omega)
        have hilV : i < mine.length := by rw [C1.out]; exact hlt
        have hilC : i < others.length := by rw [C2.out]; exact hlt
        have hilVi : (i : Int) < mine.length := by omega
        have hilCi : (i : Int) < others.length := by omega
        obtain ⟨v', m0, m1, hv⟩ := nd_cells hel hlt
        obtain ⟨a', cap', rfl, g1, g2, _⟩ := slice_open hv
        have g2 : cap' ≤ 9223372036854775807 := g2
        have n0 := int_cells hel1 hilV
        have n1 := int_cells hel2 hilC
        rw [geti_at' hilV] at n0
        rw [geti_at' hilC] at n1
        have m0 := cell_nx m0 ST.out.u
        have m1 := cell_nx m1 ST.out.u
        have n0 := cell_nx n0 ST.out.u
        have n1 := cell_nx n1 ST.out.u
        have hnd := List.getElem?_eq_getElem hlt
        have HND := hid hnd; have HVV := hid hv
        have h8 := HP.out.len i _ hnd
        have h8i : (l[i].moves.length : Int) ≤ 8 := by omega
        clear hel hel1 hel2 hv hnd h8
        generalize l[i] = nd at *
        obtain ⟨mi, mvs⟩ := nd
        dsimp only at *
        by_cases hem : mvs.length = 0
        · have hnil := List.length_eq_zero_iff.1 hem
          subst hnil
          have fin := playPost_ok OK.out ⟨(ST.out.final HND.out).1, (ST.out.final HND.out).2.1, (ST.out.final HND.out).2.2⟩
          have FIN := hid (ST.out.final HND.out)
          clear hem fin m0 n0 n1
          go_wp2_with fail
          go_ret3
          refine playPost_ok OK.out ⟨FIN.out.1, kInts.mono FIN.out.2.1 fun x hx => ⟨Nat.le_trans U1.out.size hx.1, hx.2⟩, U1.out.trans FIN.out.2.2⟩
        · have hpos : (0 : Int) < mvs.length := by omega
          obtain ⟨K, HK⟩ : ∃ K : Int, Hid (K = if mi = true then geti mine i else geti others i) := ⟨_, hid rfl⟩
          go_upto_if 47 with (fail)
          go_cut [12] (fun s wx => s = .int .i64 K ∧ wx = wr)
          case first =>
            cases mi
            · obtain rfl : K = geti others i := HK.out
              go_wp2_with fail
              go_meet
              case rel => exact ⟨rfl, rfl⟩
            · obtain rfl : K = geti mine i := HK.out
              go_wp2_with fail
              go_meet
              case rel => exact ⟨rfl, rfl⟩
          case rest =>
            obtain ⟨rfl, hwc⟩ := hcut
            replace hwc := hwc.symm
            subst hwc
            clear m0 n0 n1
            obtain ⟨bad, HB⟩ : ∃ bad : Bool, Hid (bad = true ↔ K < 0 ∨ (mvs.length : Int) ≤ K) := ⟨decide (K < 0 ∨ (mvs.length : Int) ≤ K), hid decide_eq_true_iff⟩
            go_upto_region 8 with (fail)
            go_cut [63] (fun s wx => s = .bool bad ∧ wx = wr)
            case first =>
              by_cases k0 : K < 0
              · obtain rfl : bad = true := HB.out.2 (.inl k0)
                go_wp2_with fail
                go_meet
                case rel => exact ⟨rfl, rfl⟩
              by_cases k1 : (mvs.length : Int) ≤ K
              · obtain rfl : bad = true := HB.out.2 (.inr k1)
                go_wp2_with fail
                go_meet
                case rel => exact ⟨rfl, rfl⟩
              · obtain rfl : bad = false := Bool.eq_false_iff.2 fun e => by have := HB.out.1 e; omega
                go_wp2_with fail
                go_meet
                case rel => exact ⟨rfl, rfl⟩
            case rest =>
              obtain ⟨rfl, hwc⟩ := hcut
              replace hwc := hwc.symm
              subst hwc
              obtain ⟨b3, o3, rfl, hb3, hel3⟩ := slice_at HVV.out (by omega)
              cases bad
              · have kb : ¬ (K < 0 ∨ (mvs.length : Int) ≤ K) := fun h => absurd (HB.out.2 h) (by decide)
                obtain ⟨k, rfl⟩ := Int.eq_ofNat_of_zero_le (show 0 ≤ K by omega)
                have kli : (k : Int) < mvs.length := by omega
                clear kb
                have hcl : k < mvs.length := by omega
                have hcc : k = chosen ⟨mi, mvs⟩ (if mi then geti mine i else geti others i) := by
                  rw [← HK.out]; unfold chosen
                  rw [if_neg (by dsimp only; omega), Int.toNat_natCast]
                obtain ⟨c0, c1⟩ := mv_cells hel3 hcl
                have hmem := List.getElem?_eq_getElem hcl
                obtain ⟨t1, t2, t3, t4⟩ := HP.out.mv i _ _ HND.out (List.getElem_mem hcl)
                rw [show maxGain = 1099511627776 from rfl] at t3 t4
                have c0 := cell_nx c0 ST.out.u
                have c1 := cell_nx c1 ST.out.u
                have stp := fun wc (uc : Upd (fun _ => False) wr wc) (t : Nat) (gain : Int) (e : mvs[k]? = some ⟨t, gain⟩) => ST.out.step HP.out HND.out e hcc uc
                have STP := hid stp; have HMEM := hid hmem
                clear hel3 hcc hmem stp
                generalize mvs[k] = mk at *
                obtain ⟨mto, gain⟩ := mk
                dsimp only at *
                obtain ⟨t, rfl⟩ := Int.eq_ofNat_of_zero_le (show 0 ≤ mto by omega)
                have hgg : -(1099511627776 * 3001) ≤ g + gain ∧ g + gain ≤ 1099511627776 * 3001 := by omega
                go_upto_region 11 with (fail)
                go_cut [9, 10] (fun s9 s10 wx => s9 = .int .i64 (g + gain) ∧ s10 = .int .i64 t ∧ Upd (fun _ => False) wr wx)
                case first =>
                  go_wp2_with fail
                  go_quiet (fail)
                  go_wp2_with fail
                  go_meet
                  case rel => exact ⟨rfl, rfl, ((Upd.refl _ _).alloc _).drewN _⟩
                case rest =>
                  obtain ⟨rfl, rfl, uc⟩ := hcut
                  obtain ⟨f', v', w', r, st'⟩ := STP.out wc uc t gain HMEM.out
                  have ST2 := hid st'
                  have hti : i < t := by omega
                  clear st' uc c0 c1 m1 STP HMEM
                  go_wp2_with (at_builtin; refine wpList_append_run rfl _ _ _ _ rfl rfl rfl r ?_)
                  go_roundg (l.length - t)
                  case measure => have := HG.out; have := ST2.out.lt; omega
                  case rel => exact ⟨f', t, _, _, rfl, rfl, rfl, ST2.out⟩
              · skip
                have hcl : 0 < mvs.length := by omega
                have hcc : 0 = chosen ⟨mi, mvs⟩ (if mi then geti mine i else geti others i) := by
                  rw [← HK.out]; unfold chosen
                  rw [if_pos (HB.out.1 rfl)]
                obtain ⟨c0, c1⟩ := mv_cells hel3 hcl
                have hmem := List.getElem?_eq_getElem hcl
                obtain ⟨t1, t2, t3, t4⟩ := HP.out.mv i _ _ HND.out (List.getElem_mem hcl)
                rw [show maxGain = 1099511627776 from rfl] at t3 t4
                have c0 := cell_nx c0 ST.out.u
                have c1 := cell_nx c1 ST.out.u
                have stp := fun wc (uc : Upd (fun _ => False) wr wc) (t : Nat) (gain : Int) (e : mvs[0]? = some ⟨t, gain⟩) => ST.out.step HP.out HND.out e hcc uc
                have STP := hid stp; have HMEM := hid hmem
                clear hel3 hcc hmem stp
                generalize mvs[0] = mk at *
                obtain ⟨mto, gain⟩ := mk
                dsimp only at *
                obtain ⟨t, rfl⟩ := Int.eq_ofNat_of_zero_le (show 0 ≤ mto by omega)
                rw [Nat.zero_mul, Nat.add_zero] at c0 c1
                have hgg : -(1099511627776 * 3001) ≤ g + gain ∧ g + gain ≤ 1099511627776 * 3001 := by omega
                go_upto_region 11 with (fail)
                go_cut [9, 10] (fun s9 s10 wx => s9 = .int .i64 (g + gain) ∧ s10 = .int .i64 t ∧ Upd (fun _ => False) wr wx)
                case first =>
                  go_wp2_with fail
                  go_quiet (fail)
                  go_wp2_with fail
                  go_meet
                  case rel => exact ⟨rfl, rfl, ((Upd.refl _ _).alloc _).drewN _⟩
                case rest =>
                  obtain ⟨rfl, rfl, uc⟩ := hcut
                  obtain ⟨f', v', w', r, st'⟩ := STP.out wc uc t gain HMEM.out
                  have ST2 := hid st'
                  have hti : i < t := by omega
                  clear st' uc c0 c1 m1 STP HMEM
                  go_wp2_with (at_builtin; refine wpList_append_run rfl _ _ _ _ rfl rfl rfl r ?_)
                  go_roundg (l.length - t)
                  case measure => have := HG.out; have := ST2.out.lt; omega
                  case rel => exact ⟨f', t, _, _, rfl, rfl, rfl, ST2.out⟩
    · have hf : playOk l mine others = false := by unfold playOk; rw [decide_eq_false c2, Bool.and_false]
      have HF := hid hf
      have c1b : ((mine.length : Int) != l.length) = false := by rw [c1]; simp
      have c1c : (mine.length != l.length) = false := by rw [c1]; simp
      have c2b : ((others.length : Int) != l.length) = true := by rw [bne_iff_ne]; omega
      have c2c : (others.length != l.length) = true := by rw [bne_iff_ne]; omega
      clear hf c1 c2
      go_enter Try.func16, Try.ntmps16
      go_wp2_with fail
      refine (right_any _ l _ HL.out).mono ?_
      rintro e w1 ⟨rfl, u1⟩
      have U1 := hid u1; clear u1
      rw [HR.out]
      go_wp2_with fail
      go_ret3
      exact playPost_bad HF.out U1.out
  · have hf : playOk l mine others = false := by unfold playOk; rw [decide_eq_false c1, Bool.and_false]; rfl
    have HF := hid hf
    have c1b : ((mine.length : Int) != l.length) = true := by rw [bne_iff_ne]; omega
    have c1c : (mine.length != l.length) = true := by rw [bne_iff_ne]; omega
    clear hf c1
    go_enter Try.func16, Try.ntmps16
    go_wp2_with fail
    refine (right_any _ l _ HL.out).mono ?_
    rintro e w1 ⟨rfl, u1⟩
    have U1 := hid u1; clear u1
    rw [HR.out]
    go_wp2_with fail
    go_ret3
    exact playPost_bad HF.out U1.out
end Go.Proofs.Ytmjjfafkmfcpnaa
