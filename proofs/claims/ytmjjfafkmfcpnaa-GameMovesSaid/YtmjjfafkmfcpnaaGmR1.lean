/- Walks of the reference of games: Right, Value. -/
import Derived.Test.YtmjjfafkmfcpnaaGmB1
namespace Go.Proofs.Ytmjjfafkmfcpnaa
open Go.RowKit Go.Deep

theorem drop_all {α : Type} (p : α → Bool) {l : List α} {k : Nat} (h : k < l.length) : (l.drop k).all p = (p l[k] && (l.drop (k + 1)).all p) := by
  rw [List.drop_eq_getElem_cons h, List.all_cons]

theorem okMove_false {n i : Nat} {m : Mv} (h : m.to ≤ i ∨ (n : Int) ≤ m.to ∨ m.gain < -1099511627776 ∨ 1099511627776 < m.gain) : okMove n i m = false := by
  unfold okMove
  refine decide_eq_false fun hh => ?_
  rw [show maxGain = 1099511627776 from rfl] at hh
  omega

set_option maxRecDepth 100000 in
set_option maxHeartbeats 1000000 in
theorem refRight_any (v : Value) (l : List Nd) (w : World) (hl : (kSlice kNd).rep (· < w.heap.size) w [v] l) :
    Calls Try.prog 19 #[v] w fun e w' => e = .returned (.bool (right l)) ∧ w = w' := by
  obtain ⟨a, cap, rfl, h1, h2, h3⟩ := slice_open hl
  have h2 : cap ≤ 9223372036854775807 := h2
  have HL := hid hl
  clear hl h3
  go_enter Try.func19, Try.ntmps19
  go_wp2_with fail
  go_loopg [3] l.length (fun gg s wr => ∃ k : Nat, k ≤ l.length ∧ k ≤ 3000 ∧ gg = l.length - k ∧ s = .int .i64 k ∧ rightFrom l.length 0 l = rightFrom l.length k (l.drop k) ∧ w = wr)
  case atStart => exact ⟨0, Nat.zero_le _, Nat.zero_le _, rfl, rfl, rfl, rfl⟩
  case round =>
    obtain ⟨k, hk, hk3, hg, rfl, hr, rfl⟩ := hrel
    have HG := hid hg; have HR := hid hr
    clear hg hr
    by_cases hlt : k < l.length
    · obtain ⟨b, o, ra, hb, hel⟩ := slice_at HL.out (by omega)
      subst ra
      obtain ⟨v', m0, m1, hv⟩ := nd_cells hel hlt
      have HS := hid (right_step hlt)
      obtain ⟨a', cap', rfl, g1, g2, _⟩ := slice_open hv
      have g2 : cap' ≤ 9223372036854775807 := g2
      have HV := hid hv
      clear hel hv
      generalize l[k].moves = mvs at *
      generalize l[k].mine = mi at *
      by_cases h8 : 8 < mvs.length
      · have h8i : (8 : Int) < mvs.length := by omega
        have hf : right l = false := by unfold right; rw [HR.out, HS.out, decide_eq_false (show ¬ mvs.length ≤ 8 by omega)]; simp
        have HF := hid hf
        clear hf h8
        go_wp2_with fail
        go_ret
        exact ⟨by rw [HF.out]; rfl, rfl⟩
      have h8i : (mvs.length : Int) ≤ 8 := by omega
      by_cases h3 : 3000 ≤ k
      · have h3i : (3000 : Int) ≤ k := by omega
        have hf : right l = false := by unfold right; rw [decide_eq_false (by omega)]; rfl
        have HF := hid hf
        clear hf h8 h3
        go_wp2_with fail
        go_ret
        exact ⟨by rw [HF.out]; rfl, rfl⟩
      have h3i : (k : Int) < 3000 := by omega
      have hki : (k : Int) < l.length := by omega
      have H8 := hid h8; have H3 := hid h3
      have e8 : decide (8 < (mvs.length : Int)) = false := decide_eq_false (by omega)
      have e8n : decide (8 < mvs.length) = false := decide_eq_false h8
      have e3 : decide (3000 ≤ (k : Int)) = false := decide_eq_false (by omega)
      have e3n : decide (3000 ≤ k) = false := decide_eq_false h3
      clear h8 h3
      go_wp2_with fail
      clear m0 m1
      go_loopg [5] mvs.length (fun gg s wx => ∃ j : Nat, j ≤ mvs.length ∧ gg = mvs.length - j ∧ s = .int .i64 j ∧ mvs.all (okMove l.length k) = (mvs.drop j).all (okMove l.length k) ∧ w = wx)
      case atStart => exact ⟨0, Nat.zero_le _, rfl, rfl, rfl, rfl⟩
      case round =>
        obtain ⟨j, hj, hgj, rfl, ha, rfl⟩ := hrel
        have HGJ := hid hgj; have HA := hid ha
        clear hgj ha
        by_cases hjl : j < mvs.length
        · obtain ⟨b2, o2, ra, hb2, hel2⟩ := slice_at HV.out (by omega)
          subst ra
          obtain ⟨c0, c1⟩ := mv_cells hel2 hjl
          have HD := hid (drop_all (okMove l.length k) hjl)
          have hji : (j : Int) < mvs.length := by omega
          clear hel2
          generalize mvs[j] = m at *
          have bad : okMove l.length k m = false → right l = false := fun h => by
            unfold right; rw [HR.out, HS.out, HA.out, HD.out, h]; simp
          have BAD := hid bad
          clear bad
          obtain ⟨mto, gain⟩ := m
          dsimp only at *
          by_cases q0 : mto ≤ (k : Int)
          · have hf := BAD.out (okMove_false (.inl q0))
            have HF := hid hf
            clear hf
            go_wp2_with fail
            go_ret
            exact ⟨by rw [HF.out]; rfl, rfl⟩
          by_cases q1 : (l.length : Int) ≤ mto
          · have hf := BAD.out (okMove_false (.inr (.inl q1)))
            have HF := hid hf
            clear hf
            go_wp2_with fail
            go_ret
            exact ⟨by rw [HF.out]; rfl, rfl⟩
          by_cases q2 : gain < -1099511627776
          · have hf := BAD.out (okMove_false (.inr (.inr (.inl q2))))
            have HF := hid hf
            clear hf
            go_wp2_with fail
            go_ret
            exact ⟨by rw [HF.out]; rfl, rfl⟩
          by_cases q3 : 1099511627776 < gain
          · have hf := BAD.out (okMove_false (.inr (.inr (.inr q3))))
            have HF := hid hf
            clear hf
            go_wp2_with fail
            go_ret
            exact ⟨by rw [HF.out]; rfl, rfl⟩
          · have hok : okMove l.length k ⟨mto, gain⟩ = true := by
              rw [okMove_iff, show maxGain = 1099511627776 from rfl]; dsimp only; omega
            have hn : mvs.all (okMove l.length k) = (mvs.drop (j + 1)).all (okMove l.length k) := by rw [HA.out, HD.out, hok]; rfl
            have HN := hid hn
            clear hok hn
            go_wp2_with fail
            go_roundg (mvs.length - (j + 1))
            case measure => have := HGJ.out; omega
            case rel => exact ⟨j + 1, by omega, rfl, by go_num, HN.out, rfl⟩
        · obtain rfl : j = mvs.length := by omega
          have hall : rightFrom l.length 0 l = rightFrom l.length (k + 1) (l.drop (k + 1)) := by
            rw [HR.out, HS.out, HA.out, List.drop_length, decide_eq_true (by have := H8.out; omega)]; simp
          have HALL := hid hall
          clear hall
          go_wp2_with fail
          go_roundg (l.length - (k + 1))
          case measure => have := HG.out; omega
          case rel => exact ⟨k + 1, by omega, by have := H3.out; omega, rfl, by go_num, HALL.out, rfl⟩
    · obtain rfl : k = l.length := by omega
      by_cases h0 : l.length = 0
      · have hf : right l = false := by unfold right; rw [decide_eq_false (by omega)]; rfl
        have HF := hid hf
        have hd : decide (0 < (l.length : Int)) = false := decide_eq_false (by omega)
        have hd2 : decide (0 < l.length) = false := decide_eq_false (by omega)
        clear hf
        go_wp2_with fail
        go_ret
        exact ⟨by rw [HF.out]; rfl, rfl⟩
      · have hf : right l = true := by unfold right; rw [decide_eq_true (by omega), HR.out, List.drop_length]; rfl
        have HF := hid hf
        have hd : decide (0 < (l.length : Int)) = true := decide_eq_true (by omega)
        have hd2 : decide (0 < l.length) = true := decide_eq_true (by omega)
        clear hf
        go_wp2_with fail
        go_ret
        exact ⟨by rw [HF.out]; rfl, rfl⟩

theorem best_fst (mine : Bool) (f : Mv → Int) : ∀ (l : List Mv) (k : Nat) (x p q : Int), (best mine f l k (x, p)).1 = (best mine f l k (x, q)).1
  | [], _, _, _, _ => rfl
  | m :: r, k, x, p, q => by
    rw [best, best]
    dsimp only
    by_cases hc : k = 0 ∨ sg mine x < sg mine (f m)
    · rw [if_pos hc, if_pos hc]
    · rw [if_neg hc, if_neg hc]; exact best_fst mine f r (k + 1) x p q

/-- The state of the reference's Value, before node i. -/
structure VAt (ns : List Nd) (i : Nat) (V : List Int) : Prop where
  lv : V.length = ns.length
  done : ∀ j, i ≤ j → j < ns.length → geti V j = geti (vlist ns) j
  open_ : ∀ j, j < i → geti V j = 0
/-- At move k of node i. -/
structure VIn (ns : List Nd) (i k : Nat) (nd : Nd) (V : List Int) : Prop where
  lv : V.length = ns.length
  done : ∀ j, i < j → j < ns.length → geti V j = geti (vlist ns) j
  open_ : ∀ j, j < i → geti V j = 0
  here : (best nd.mine (mval ns) (nd.moves.drop k) k (geti V i, 0)).1 = geti (vlist ns) i

theorem VAt.enter {ns : List Nd} (hr : RightP ns) {i : Nat} {V : List Int} {nd : Nd} (hi : ns[i]? = some nd) (h : VAt ns (i + 1) V) : VIn ns i 0 nd V :=
  ⟨h.lv, fun j h1 h2 => h.done j (by omega) h2, fun j hj => h.open_ j (by omega), by
    rw [h.open_ i (by omega), List.drop_zero, best_fst nd.mine (mval ns) nd.moves 0 0 0 (-1), ← node_val hr hi]⟩
theorem VIn.leave {ns : List Nd} {i : Nat} {V : List Int} {nd : Nd} (h : VIn ns i nd.moves.length nd V) : VAt ns i V := by
  refine ⟨h.lv, fun j h1 h2 => ?_, h.open_⟩
  by_cases e : j = i
  · subst e
    have hh := h.here
    rw [List.drop_length, best] at hh
    exact hh
  · exact h.done j (by omega) h2
/-- The value after one more move. -/
def nextV (mine : Bool) (k : Nat) (x y : Int) : Int := if k = 0 then y else if mine then max x y else min x y
theorem VIn.step {ns : List Nd} {i k : Nat} {V : List Int} {nd : Nd} (h : VIn ns i k nd V) (hi : i < ns.length) (hk : k < nd.moves.length) {x y : Int} (hx : geti V i = x) (hy : mval ns nd.moves[k] = y) : VIn ns i (k + 1) nd (V.set i (nextV nd.mine k x y)) := by
  have hiv : i < V.length := by rw [h.lv]; exact hi
  refine ⟨by rw [List.length_set]; exact h.lv, fun j h1 h2 => ?_, fun j h1 => ?_, ?_⟩
  · rw [geti_set _ _ _ _ hiv, if_neg (by omega)]; exact h.done j h1 h2
  · rw [geti_set _ _ _ _ hiv, if_neg (by omega)]; exact h.open_ j h1
  · rw [geti_set _ _ _ _ hiv, if_pos rfl, ← h.here]
    conv => rhs; rw [List.drop_eq_getElem_cons hk, best]
    rw [hx, hy]
    dsimp only
    unfold nextV
    by_cases k0 : k = 0
    · rw [if_pos k0, if_pos (.inl k0)]; exact best_fst _ _ _ _ _ _ _
    · rw [if_neg k0]
      cases hm : nd.mine
      · rw [sg_false, sg_false, show (if false = true then max x y else min x y) = min x y from rfl]
        by_cases c : y < x
        · rw [show (if k = 0 ∨ -x < -y then (y, (k : Int)) else (x, 0)) = (y, (k : Int)) from if_pos (.inr (by omega)), Int.min_eq_right (by omega)]; exact best_fst _ _ _ _ _ _ _
        · rw [show (if k = 0 ∨ -x < -y then (y, (k : Int)) else (x, 0)) = (x, 0) from if_neg (by omega), Int.min_eq_left (by omega)]
      · rw [sg_true, sg_true, show (if true = true then max x y else min x y) = max x y from rfl]
        by_cases c : x < y
        · rw [show (if k = 0 ∨ x < y then (y, (k : Int)) else (x, 0)) = (y, (k : Int)) from if_pos (.inr c), Int.max_eq_right (by omega)]; exact best_fst _ _ _ _ _ _ _
        · rw [show (if k = 0 ∨ x < y then (y, (k : Int)) else (x, 0)) = (x, 0) from if_neg (by omega), Int.max_eq_left (by omega)]
theorem VAt.final {ns : List Nd} {V : List Int} (h : VAt ns 0 V) : V = vlist ns :=
  geti_ext (by rw [h.lv, vlist_len]) fun i hi => h.done i (Nat.zero_le _) (by rw [← h.lv]; exact hi)
theorem vat_start (ns : List Nd) : VAt ns ns.length (List.replicate ns.length 0) :=
  ⟨by simp, fun j h1 h2 => by omega, fun j hj => by
    unfold geti
    rw [List.getD_eq_getElem?_getD, List.getElem?_replicate, if_pos hj]; rfl⟩

set_option maxRecDepth 100000 in
set_option maxHeartbeats 2000000 in
theorem refValue_any (v : Value) (l : List Nd) (w : World) (hl : (kSlice kNd).rep (· < w.heap.size) w [v] l) :
    Calls Try.prog 11 #[v] w (ValuePost l w) := by
  have HL := hid hl
  obtain ⟨a, cap, rfl, h1, h2, _⟩ := slice_open hl
  have h2 : cap ≤ 9223372036854775807 := h2
  clear hl
  cases hr : right l
  · have HR := hid hr; clear hr
    go_enter Try.func11, Try.ntmps11
    go_wp2_with fail
    refine (refRight_any _ l _ HL.out).mono ?_
    rintro e w1 ⟨rfl, rfl⟩
    rw [HR.out]
    go_wp2_with fail
    go_ret2
    unfold ValuePost
    rw [HR.out]
    exact ⟨rfl, Upd.refl _ _⟩
  · have HR := hid hr; clear hr
    have HP := hid ((right_iff l).1 HR.out)
    have hn0 : (1 : Int) ≤ l.length := by have := HP.out.pos; omega
    have hn1 : (l.length : Int) ≤ 3000 := by have := HP.out.few; omega
    obtain ⟨w1, hrun, ib, u1⟩ := make_ints w l.length (by omega)
    have IV := hid ib; have U1 := hid u1
    have ST := hid (vat_start l)
    clear ib u1
    go_enter Try.func11, Try.ntmps11
    go_wp2_with fail
    refine (refRight_any _ l _ HL.out).mono ?_
    rintro e wr ⟨rfl, rfl⟩
    rw [HR.out]
    go_wp2_with fail
    clear hrun
    go_loopg [5] l.length (fun gg s wr => ∃ (k : Nat) (V : List Int), k ≤ l.length ∧ gg = k ∧ s = .int .i64 ((k : Int) - 1) ∧ IntsBlk wr w.heap.size V ∧ VAt l k V ∧ Upd (fun _ => False) w wr)
    case atStart => exact ⟨l.length, _, Nat.le_refl _, rfl, rfl, IV.out, ST.out, U1.out⟩
    case round =>
      clear IV U1 ST
      obtain ⟨k, V, hk, hg, rfl, iv, st, u⟩ := hrel
      have UU := hid u; have HGO := hid hg; have IV := hid iv; have ST := hid st
      clear u hg iv st
      rcases Nat.eq_zero_or_pos k with hk0 | hk0
      · subst hk0
        have HF := hid ST.out.final
        go_wp2_with fail
        go_ret2
        unfold ValuePost
        rw [HR.out]
        exact ⟨_, rfl, Nat.le_refl _, HF.out ▸ IV.out, UU.out⟩
      · obtain ⟨i, rfl⟩ : ∃ i, k = i + 1 := ⟨k - 1, by omega⟩
        have e1 : (((i + 1 : Nat) : Int) - 1) = i := by omega
        rw [e1]
        have hlt : i < l.length := by omega
        have hlti : (i : Int) < l.length := by omega
        obtain ⟨b, o, ra, hb, hel⟩ := slice_at HL.out (by omega)
        subst ra
        obtain ⟨v', m0, m1, hv⟩ := nd_cells hel hlt
        obtain ⟨a', cap', rfl, g1, g2, _⟩ := slice_open hv
        have g2 : cap' ≤ 9223372036854775807 := g2
        have hnd := List.getElem?_eq_getElem hlt
        have hmv := fun (m : Mv) (hm : m ∈ l[i].moves) => HP.out.mv i l[i] m hnd hm
        have hml := HP.out.len i l[i] hnd
        have hmli : (l[i].moves.length : Int) ≤ 8 := by omega
        have si := ST.out.enter HP.out hnd
        have HMV := hid hmv; have SI := hid si; have HV := hid hv
        clear hel hv hnd hmv si hml ST e1
        generalize l[i] = nd at *
        obtain ⟨mi, mvs⟩ := nd
        dsimp only at *
        have m1w := cell_nx m1 UU.out
        have HM0 := hid m0
        clear m0 m1
        go_wp2_with fail
        clear m1w
        go_loopg [7, 8] mvs.length (fun gg s7 _ wx => ∃ (k : Nat) (V : List Int), k ≤ mvs.length ∧ gg = mvs.length - k ∧ s7 = .int .i64 k ∧ IntsBlk wx w.heap.size V ∧ VIn l i k ⟨mi, mvs⟩ V ∧ Upd (fun _ => False) w wx)
        case atStart => exact ⟨0, V, Nat.zero_le _, rfl, rfl, IV.out, SI.out, UU.out⟩
        case round =>
          clear IV SI UU hk
          obtain ⟨k, V, hk, hgk, rfl, iv, si, u⟩ := hrel
          have UU := hid u; have HG := hid hgk; have IV := hid iv; have SI := hid si
          clear u hgk iv si
          by_cases hkl : k < mvs.length
          · obtain ⟨b2, o2, ra, hb2, hel2⟩ := slice_at HV.out (by omega)
            subst ra
            obtain ⟨c0, c1⟩ := mv_cells hel2 hkl
            obtain ⟨t1, t2, t3, t4⟩ := HMV.out mvs[k] (List.getElem_mem hkl)
            rw [show maxGain = 1099511627776 from rfl] at t3 t4
            have hmval : mval l mvs[k] = mvs[k].gain + geti (vlist l) mvs[k].to.toNat := rfl
            have c0 := cell_nx c0 UU.out
            have c1 := cell_nx c1 UU.out
            have stp := fun x (h : geti V i = x) => SI.out.step hlt hkl h hmval
            dsimp only at stp
            have STP := hid stp
            clear hel2 hmval stp HMV
            generalize mvs[k] = mk at *
            obtain ⟨mto, gain⟩ := mk
            dsimp only at *
            obtain ⟨t, rfl⟩ := Int.eq_ofNat_of_zero_le (show 0 ≤ mto by omega)
            rw [Int.toNat_natCast] at STP
            have htl : t < V.length := by rw [SI.out.lv]; omega
            have hil : i < V.length := by rw [SI.out.lv]; omega
            have cv := IV.out.cell htl
            rw [geti_at, SI.out.done t (by omega) (by omega)] at cv
            have vb := vlist_bound HP.out t
            rw [show maxGain = 1099511627776 from rfl] at vb
            have hti : (t : Int) < l.length := t2
            generalize geti (vlist l) t = y at *
            go_upto_region 11 with (fail)
            go_cut [8] (fun s8 wx => s8 = .int .i64 (gain + y) ∧ Upd (fun _ => False) wr wx)
            case first =>
              go_wp2_with fail
              go_quiet (fail)
              go_wp2_with fail
              go_meet
              case rel => exact ⟨rfl, (Upd.refl _ _).drewN _⟩
            case rest =>
              obtain ⟨rfl, uc⟩ := hcut
              have ux := UU.out.trans uc
              have hm0 := cell_nx HM0.out ux
              have iv2 := IV.out.upd uc id
              have cvi := iv2.cell hil
              have fvi := iv2.frozen i
              rw [geti_at] at cvi
              have STP2 := hid (STP.out _ rfl)
              clear UU IV cv c0 c1 HM0 STP
              generalize geti V i = z at *
              have set1 := iv2.set i (nextV mi k z (gain + y))
              have su : Upd (fun _ => False) w (wc.setCell ⟨w.heap.size, i, none⟩ (.int .i64 (nextV mi k z (gain + y)))) := ux.setCell _ _ (.inr (Nat.le_refl _))
              have SET := hid set1; have SU := hid su
              clear iv2 set1 su ux uc
              by_cases hk0 : k = 0
              · have hk0b : ((k : Int) == 0) = true := beq_iff_eq.2 (by omega)
                have e : nextV mi k z (gain + y) = gain + y := by unfold nextV; rw [if_pos hk0]
                rw [e] at SET SU STP2
                clear hk0 e
                go_wp2_with fail
                go_roundg (mvs.length - (k + 1))
                case measure => have := HG.out; omega
                case rel => exact ⟨k + 1, _, by omega, rfl, by go_num, SET.out, STP2.out, SU.out⟩
              have hk0b : ((k : Int) == 0) = false := beq_eq_false_iff_ne.2 (by omega)
              have e : nextV mi k z (gain + y) = if mi then max z (gain + y) else min z (gain + y) := by unfold nextV; rw [if_neg hk0]
              rw [e] at SET SU STP2
              clear hk0 e
              cases mi
              · by_cases hc : gain + y < z
                · have e : (if false = true then max z (gain + y) else min z (gain + y)) = gain + y := by rw [if_neg (by decide)]; omega
                  rw [e] at SET SU STP2
                  clear e
                  go_wp2_with fail
                  go_roundg (mvs.length - (k + 1))
                  case measure => have := HG.out; omega
                  case rel => exact ⟨k + 1, _, by omega, rfl, by go_num, SET.out, STP2.out, SU.out⟩
                · have e : (if false = true then max z (gain + y) else min z (gain + y)) = z := by rw [if_neg (by decide)]; omega
                  rw [e] at SET SU STP2
                  clear e
                  go_wp2_with fail
                  go_roundg (mvs.length - (k + 1))
                  case measure => have := HG.out; omega
                  case rel => exact ⟨k + 1, _, by omega, rfl, by go_num, SET.out, STP2.out, SU.out⟩
              · by_cases hc : z < gain + y
                · have e : (if true = true then max z (gain + y) else min z (gain + y)) = gain + y := by rw [if_pos rfl]; omega
                  rw [e] at SET SU STP2
                  clear e
                  go_wp2_with fail
                  go_roundg (mvs.length - (k + 1))
                  case measure => have := HG.out; omega
                  case rel => exact ⟨k + 1, _, by omega, rfl, by go_num, SET.out, STP2.out, SU.out⟩
                · have e : (if true = true then max z (gain + y) else min z (gain + y)) = z := by rw [if_pos rfl]; omega
                  rw [e] at SET SU STP2
                  clear e
                  go_wp2_with fail
                  go_roundg (mvs.length - (k + 1))
                  case measure => have := HG.out; omega
                  case rel => exact ⟨k + 1, _, by omega, rfl, by go_num, SET.out, STP2.out, SU.out⟩
          · obtain rfl : k = mvs.length := by omega
            have ST := hid (VIn.leave (nd := ⟨mi, mvs⟩) SI.out)
            go_wp2_with fail
            go_roundg i
            case measure => have := HGO.out; omega
            case rel => exact ⟨i, V, by omega, rfl, by go_num, IV.out, ST.out, UU.out⟩
end Go.Proofs.Ytmjjfafkmfcpnaa
