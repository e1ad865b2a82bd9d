/- Walks: solve. -/
import Derived.Test.YtmjjfafkmfcpnaaGmA4
namespace Go.Proofs.Ytmjjfafkmfcpnaa
open Go.RowKit Go.Deep

/-- The gain of a move and the value of what it leads to. -/
def mval (ns : List Nd) (m : Mv) : Int := m.gain + geti (vlist ns) m.to.toNat

theorem best_congr (mine : Bool) {f g : Mv → Int} : ∀ (l : List Mv) (k : Nat) (b : Int × Int), (∀ m ∈ l, f m = g m) → best mine f l k b = best mine g l k b
  | [], _, _, _ => rfl
  | m :: r, k, b, h => by
    rw [best, best, h m (by simp)]
    exact best_congr mine r (k + 1) _ fun m hm => h m (by simp [hm])

theorem node_val {ns : List Nd} (hr : RightP ns) {i : Nat} {nd : Nd} (hi : ns[i]? = some nd) : (geti (vlist ns) i, geti (mlist ns) i) = best nd.mine (mval ns) nd.moves 0 (0, -1) := by
  have hv := vals_at hi
  have e : best nd.mine (fun m => m.gain + atv (vals (i + 1) (ns.drop (i + 1))) (i + 1) m.to) nd.moves 0 (0, -1) = best nd.mine (mval ns) nd.moves 0 (0, -1) :=
    best_congr nd.mine nd.moves 0 _ fun m hm => by
      obtain ⟨g1, g2, _, _⟩ := hr.mv i nd m hi hm
      rw [atv_vlist g1 g2]; rfl
  rw [← e]
  unfold geti vlist mlist
  rw [List.getD_eq_getElem?_getD, List.getElem?_map, List.getD_eq_getElem?_getD, List.getElem?_map, hv]; rfl

/-- The state of solve, before node i. -/
structure SolveAt (ns : List Nd) (i : Nat) (V M : List Int) : Prop where
  lv : V.length = ns.length
  lm : M.length = ns.length
  done : ∀ j, i ≤ j → j < ns.length → geti V j = geti (vlist ns) j ∧ geti M j = geti (mlist ns) j
  open_ : ∀ j, j < i → geti V j = 0 ∧ geti M j = -1

/-- The state of solve, at move k of node i. -/
structure SolveIn (ns : List Nd) (i k : Nat) (nd : Nd) (V M : List Int) : Prop where
  lv : V.length = ns.length
  lm : M.length = ns.length
  done : ∀ j, i < j → j < ns.length → geti V j = geti (vlist ns) j ∧ geti M j = geti (mlist ns) j
  open_ : ∀ j, j < i → geti V j = 0 ∧ geti M j = -1
  here : best nd.mine (mval ns) (nd.moves.drop k) k (geti V i, geti M i) = best nd.mine (mval ns) nd.moves 0 (0, -1)

theorem SolveAt.enter {ns : List Nd} {i : Nat} {V M : List Int} {nd : Nd} (h : SolveAt ns (i + 1) V M) : SolveIn ns i 0 nd V M :=
  ⟨h.lv, h.lm, fun j h1 h2 => h.done j (by omega) h2, fun j hj => h.open_ j (by omega), by rw [(h.open_ i (by omega)).1, (h.open_ i (by omega)).2]; rfl⟩
theorem SolveIn.leave {ns : List Nd} (hr : RightP ns) {i : Nat} {V M : List Int} {nd : Nd} (hi : ns[i]? = some nd) (h : SolveIn ns i nd.moves.length nd V M) : SolveAt ns i V M := by
  refine ⟨h.lv, h.lm, fun j h1 h2 => ?_, h.open_⟩
  by_cases e : j = i
  · subst e
    have hh := h.here
    rw [List.drop_length, best, ← node_val hr hi] at hh
    injection hh with h1 h2
    exact ⟨h1, h2⟩
  · exact h.done j (by omega) h2
theorem SolveIn.keep {ns : List Nd} {i k : Nat} {V M : List Int} {nd : Nd} (h : SolveIn ns i k nd V M) (hk : k < nd.moves.length) (hc : ¬ (k = 0 ∨ sg nd.mine (geti V i) < sg nd.mine (mval ns nd.moves[k]))) : SolveIn ns i (k + 1) nd V M := by
  refine ⟨h.lv, h.lm, h.done, h.open_, ?_⟩
  rw [← h.here, List.drop_eq_getElem_cons hk, best, if_neg hc]
theorem SolveIn.take {ns : List Nd} {i k : Nat} {V M : List Int} {nd : Nd} (h : SolveIn ns i k nd V M) (hi : i < ns.length) (hk : k < nd.moves.length) (hc : k = 0 ∨ sg nd.mine (geti V i) < sg nd.mine (mval ns nd.moves[k])) :
    SolveIn ns i (k + 1) nd (V.set i (mval ns nd.moves[k])) (M.set i k) := by
  refine ⟨by rw [List.length_set]; exact h.lv, by rw [List.length_set]; exact h.lm, fun j h1 h2 => ?_, fun j h1 => ?_, ?_⟩
  · rw [geti_set _ _ _ _ (by rw [h.lv]; exact hi), geti_set _ _ _ _ (by rw [h.lm]; exact hi), if_neg (by omega), if_neg (by omega)]; exact h.done j h1 h2
  · rw [geti_set _ _ _ _ (by rw [h.lv]; exact hi), geti_set _ _ _ _ (by rw [h.lm]; exact hi), if_neg (by omega), if_neg (by omega)]; exact h.open_ j h1
  · rw [geti_set _ _ _ _ (by rw [h.lv]; exact hi), geti_set _ _ _ _ (by rw [h.lm]; exact hi), if_pos rfl, if_pos rfl, ← h.here]
    conv => rhs; rw [List.drop_eq_getElem_cons hk, best, if_pos hc]
theorem SolveAt.final {ns : List Nd} {V M : List Int} (h : SolveAt ns 0 V M) : V = vlist ns ∧ M = mlist ns :=
  ⟨geti_ext (by rw [h.lv, vlist_len]) fun i hi => (h.done i (Nat.zero_le _) (by rw [← h.lv]; exact hi)).1, geti_ext (by rw [h.lm, mlist_len]) fun i hi => (h.done i (Nat.zero_le _) (by rw [← h.lm]; exact hi)).2⟩
theorem solve_start (ns : List Nd) : SolveAt ns ns.length (List.replicate ns.length 0) (List.replicate ns.length (-1)) :=
  ⟨by simp, by simp, fun j h1 h2 => by omega, fun j hj => by
    unfold geti
    rw [List.getD_eq_getElem?_getD, List.getD_eq_getElem?_getD, List.getElem?_replicate, List.getElem?_replicate, if_pos hj, if_pos hj]
    exact ⟨rfl, rfl⟩⟩

def SolvePost (l : List Nd) (w : World) (e : Ending) (w' : World) : Prop :=
  ∃ gv gm, e = .returned (.tuple #[.slice (some ⟨gv, 0, none⟩) l.length l.length, .slice (some ⟨gm, 0, none⟩) l.length l.length]) ∧ w.heap.size ≤ gv ∧ w.heap.size ≤ gm ∧ gv ≠ gm ∧ IntsBlk w' gv (vlist l) ∧ IntsBlk w' gm (mlist l) ∧ Upd (fun _ => False) w w'

theorem new_cell (W : World) (v : Value) (t : TypeId) (fr : Nat × Nat) : (W.alloc (.cells #[v] t fr)).cell? ⟨W.heap.size, 0, none⟩ = some v := by
  rw [cell_of_block heap_alloc_new]; rfl

/-- What the first statement of solve leaves. -/
def Two (n : Nat) (w : World) (s4 s5 : Value) (wx : World) : Prop :=
  ∃ gv gm, s4 = .slice (some ⟨gv, 0, none⟩) n n ∧ s5 = .slice (some ⟨gm, 0, none⟩) n n ∧ w.heap.size ≤ gv ∧ w.heap.size ≤ gm ∧ gv ≠ gm ∧ IntsBlk wx gv (List.replicate n 0) ∧ IntsBlk wx gm (List.replicate n (-1)) ∧ Upd (fun _ => False) w wx

def MkOk (mk : World → World) (n : Nat) : Prop := ∀ W, IntsBlk (mk W) W.heap.size (List.replicate n 0) ∧ Upd (fun _ => False) W (mk W)
theorem two_a {mk : World → World} {n : Nat} (hm : MkOk mk n) {w w3 : World} {o : Obj} {gm : Nat} (hg : ((mk w.drew).alloc o).heap.size ≤ gm) (ib : IntsBlk w3 gm (List.replicate n (-1))) (u : Upd (fun _ => False) ((mk w.drew).alloc o) w3) :
    Two n w (.slice (some ⟨w.heap.size, 0, none⟩) n n) (.slice (some ⟨gm, 0, none⟩) n n) w3 := by
  obtain ⟨h1, h2⟩ := hm w.drew
  have h3 := h1.lt
  have h4 : w.drew.heap.size = w.heap.size := rfl
  have h5 := h2.size
  rw [World.size_alloc] at hg
  refine ⟨_, _, rfl, rfl, Nat.le_refl _, by omega, by omega, ?_, ib, ((Upd.refl _ w).drew.trans (h2.alloc o)).trans u⟩
  exact (h1.upd ((Upd.refl (fun _ => False) _).alloc o) id).upd u id
theorem two_b {mk : World → World} {n : Nat} (hm : MkOk mk n) {w w3 : World} {o : Obj} {gm : Nat} (hg : (mk (w.alloc o).drew).heap.size ≤ gm) (ib : IntsBlk w3 gm (List.replicate n (-1))) (u : Upd (fun _ => False) (mk (w.alloc o).drew) w3) :
    Two n w (.slice (some ⟨w.heap.size + 1, 0, none⟩) n n) (.slice (some ⟨gm, 0, none⟩) n n) w3 := by
  obtain ⟨h1, h2⟩ := hm (w.alloc o).drew
  have h4 : (w.alloc o).drew.heap.size = w.heap.size + 1 := World.size_alloc _ _
  rw [h4] at h1
  have h3 := h1.lt
  exact ⟨_, _, rfl, rfl, by omega, by omega, by omega, h1.upd u id, ib, (((Upd.refl _ w).alloc o).drew.trans h2).trans u⟩
theorem two_c {mk : World → World} {n : Nat} (hm : MkOk mk n) {w w3 : World} {o : Obj} {gm : Nat} (hg : (w.alloc o).drew.heap.size ≤ gm) (ib : IntsBlk w3 gm (List.replicate n (-1))) (u : Upd (fun _ => False) (w.alloc o).drew w3) :
    Two n w (.slice (some ⟨w3.heap.size, 0, none⟩) n n) (.slice (some ⟨gm, 0, none⟩) n n) (mk w3) := by
  obtain ⟨h1, h2⟩ := hm w3
  have h4 : (w.alloc o).drew.heap.size = w.heap.size + 1 := World.size_alloc _ _
  have h3 := ib.lt
  have h5 := u.size
  exact ⟨_, _, rfl, rfl, by omega, by omega, by omega, h1, ib.upd h2 id, (((Upd.refl _ w).alloc o).drew.trans u).trans h2⟩

set_option maxRecDepth 100000 in
set_option maxHeartbeats 2000000 in
theorem solve_any (v : Value) (l : List Nd) (w : World) (hl : (kSlice kNd).rep (· < w.heap.size) w [v] l) (hr : RightP l) :
    Calls Try.prog 24 #[v] w (SolvePost l w) := by
  obtain ⟨a, cap, rfl, h1, h2, h3⟩ := slice_open hl
  have h2 : cap ≤ 9223372036854775807 := h2
  have HE := hid h3; have HR := hid hr
  have hn0 : (1 : Int) ≤ l.length := by have := hr.pos; omega
  have hn1 : (l.length : Int) ≤ 3000 := by have := hr.few; omega
  clear hl h3 hr
  go_enter Try.func24, Try.ntmps24
  obtain ⟨mk, hmk⟩ : ∃ mk : World → World, ∀ W, (Instr.makeSlice 23 (.int .i64 l.length) (.int .i64 l.length)).run Try.prog W = .ok (.slice (some ⟨W.heap.size, 0, none⟩) l.length l.length) (mk W) ∧ IntsBlk (mk W) W.heap.size (List.replicate l.length 0) ∧ Upd (fun _ => False) W (mk W) :=
    ⟨fun W => (make_ints W l.length (by omega)).choose, fun W => (make_ints W l.length (by omega)).choose_spec⟩
  have hmr := fun W => (hmk W).1
  have HMK : Hid (MkOk mk l.length) := hid fun W => (hmk W).2
  have hcell : ∀ W b v, W.cell? ⟨b, 0, none⟩ = some v → (mk W).cell? ⟨b, 0, none⟩ = some v := fun W b v h => cell_kept h ((hmk W).2.2.block _ (World.block_lt_of_cell? _ _ h) id)
  have HC := hid hcell
  have hlen : 1 ≤ l.length ∧ l.length ≤ 3000 := by omega
  have HL := hid hlen
  clear hmk hcell hlen
  go_upto_region 1 with (fail)
  go_cut [4, 5] (fun s4 s5 wx => Two l.length w s4 s5 wx)
  case first =>
    go_region_with (go_at_call 31; refine (repeat_any _ l.length _ (by first | exact new_cell _ _ _ _ | exact HC.out _ _ _ (new_cell _ _ _ _)) HL.out).mono ?_; rintro e w3 ⟨gm, rfl, hg, ib, u⟩; have HG := hid hg; have IB := hid ib; have UU := hid u; clear hg ib u)
    all_goals
      go_wp2_with fail
      go_meet
      case rel => first | exact two_a HMK.out HG.out IB.out UU.out | exact two_b HMK.out HG.out IB.out UU.out | exact two_c HMK.out HG.out IB.out UU.out
  case rest =>
    obtain ⟨gv, gm, rfl, rfl, hgv, hgm, hne, iv, im, u⟩ := hcut
    clear hmr HMK HC
    clear mk
    have IV := hid iv; have IM := hid im; have UU := hid u
    clear iv im u
    have ST := hid (solve_start l)
    go_wp2_with fail
    go_loopg [6] l.length (fun gg s6 wr => ∃ (k : Nat) (V M : List Int), k ≤ l.length ∧ gg = k ∧ s6 = .int .i64 ((k : Int) - 1) ∧ IntsBlk wr gv V ∧ IntsBlk wr gm M ∧ SolveAt l k V M ∧ Upd (fun _ => False) w wr)
    case atStart => exact ⟨l.length, _, _, Nat.le_refl _, rfl, rfl, IV.out, IM.out, ST.out, UU.out⟩
    case round =>
      clear IV IM UU ST
      obtain ⟨k, V, M, hk, hg, rfl, iv, im, st, u⟩ := hrel
      have UU := hid u; have HGO := hid hg; have IV := hid iv; have IM := hid im; have ST := hid st
      clear u hg iv im st
      rcases Nat.eq_zero_or_pos k with hk0 | hk0
      · subst hk0
        have hfin := ST.out.final
        have HF := hid hfin
        clear hfin
        go_wp2_with fail
        go_ret2
        unfold SolvePost
        exact ⟨gv, gm, rfl, hgv, hgm, hne, HF.out.1 ▸ IV.out, HF.out.2 ▸ IM.out, UU.out⟩
      · obtain ⟨i, rfl⟩ : ∃ i, k = i + 1 := ⟨k - 1, by omega⟩
        have e1 : (((i + 1 : Nat) : Int) - 1) = i := by omega
        rw [e1]
        have hlt : i < l.length := by omega
        obtain ⟨b, o, rfl, hb, hel⟩ := HE.out (by omega)
        obtain ⟨v', m0, m1, hv⟩ := nd_cells hel hlt
        obtain ⟨a', cap', rfl, g1, g2, g3⟩ := slice_open hv
        have g2 : cap' ≤ 9223372036854775807 := g2
        have hnd := List.getElem?_eq_getElem hlt
        have hmv := fun (m : Mv) (hm : m ∈ l[i].moves) => HR.out.mv i l[i] m hnd hm
        have hml := HR.out.len i l[i] hnd
        have hmli : (l[i].moves.length : Int) ≤ 8 := by omega
        have si := ST.out.enter (nd := l[i])
        have HND := hid hnd; have HMV := hid hmv; have SI := hid si; have HG3 := hid g3
        clear hel hv hnd hmv si hml ST HE g3 e1
        generalize l[i] = nd at *
        obtain ⟨mi, mvs⟩ := nd
        dsimp only at *
        have m0w := cell_kept m0 (UU.out.block b hb id)
        have m1w := cell_kept m1 (UU.out.block b hb id)
        have HM0 := hid m0; have HM1 := hid m1
        clear m0 m1
        go_wp2_with fail
        clear m0w m1w
        go_loopg [30] mvs.length (fun gg s30 wx => ∃ (k : Nat) (V M : List Int), k ≤ mvs.length ∧ gg = mvs.length - k ∧ s30 = .int .i64 k ∧ IntsBlk wx gv V ∧ IntsBlk wx gm M ∧ SolveIn l i k ⟨mi, mvs⟩ V M ∧ Upd (fun _ => False) w wx)
        case atStart => exact ⟨0, V, M, Nat.zero_le _, by omega, rfl, IV.out, IM.out, SI.out, UU.out⟩
        case round =>
          clear IV IM SI UU
          clear hk
          obtain ⟨k, V, M, hk, hgk, rfl, iv, im, si, u⟩ := hrel
          have UU := hid u; have HG := hid hgk; have IV := hid iv; have IM := hid im; have SI := hid si
          clear u hgk iv im si
          by_cases hkl : k < mvs.length
          · obtain ⟨b2, o2, rfl, hb2, hel2⟩ := HG3.out (by omega)
            obtain ⟨c0, c1⟩ := mv_cells hel2 hkl
            obtain ⟨t1, t2, t3, t4⟩ := HMV.out mvs[k] (List.getElem_mem hkl)
            have hM : maxGain = 1099511627776 := rfl
            rw [hM] at t3 t4
            have hmval : mval l mvs[k] = mvs[k].gain + geti (vlist l) mvs[k].to.toNat := rfl
            have c0 := cell_kept c0 (UU.out.block b2 hb2 id)
            have c1 := cell_kept c1 (UU.out.block b2 hb2 id)
            have htake := fun h => SI.out.take hlt hkl h
            have hkeep := fun h => SI.out.keep hkl h
            dsimp only at htake hkeep
            rw [hmval] at htake hkeep
            have TAKE := hid htake; have KEEP := hid hkeep
            clear hel2 hM hmval htake hkeep HMV
            generalize mvs[k] = mk at *
            obtain ⟨mto, gain⟩ := mk
            dsimp only at *
            obtain ⟨t, rfl⟩ := Int.eq_ofNat_of_zero_le (show 0 ≤ mto by omega)
            rw [Int.toNat_natCast] at TAKE KEEP
            have htl : t < V.length := by rw [SI.out.lv]; omega
            have hil : i < V.length := by rw [SI.out.lv]; omega
            have him : i < M.length := by rw [SI.out.lm]; omega
            have cv := IV.out.cell htl
            rw [geti_at, (SI.out.done t (by omega) (by omega)).1] at cv
            have vb := vlist_bound HR.out t
            rw [show maxGain = 1099511627776 from rfl] at vb
            have hti : (t : Int) < l.length := t2
            have hlti : (i : Int) < l.length := by omega
            generalize geti (vlist l) t = y at *
            have hgvl := IV.out.lt
            have hgml := IM.out.lt
            go_upto_region 8 with (fail)
            go_cut [9] (fun s9 wx => s9 = .int .i64 (gain + y) ∧ Upd (fun _ => False) wr wx)
            case first =>
              go_wp2_with fail
              go_quiet (fail)
              go_wp2_with fail
              go_meet
              case rel => exact ⟨rfl, ((Upd.refl _ _).alloc _).drewN _⟩
            case rest =>
              obtain ⟨rfl, uc⟩ := hcut
              have ux := UU.out.trans uc
              have hm0 := cell_kept HM0.out (ux.block b hb id)
              have iv2 := IV.out.upd uc id
              have im2 := IM.out.upd uc id
              have cvi := iv2.cell hil
              have fvi := iv2.frozen i
              have cmi := im2.cell him
              have fmi := im2.frozen i
              rw [geti_at] at cvi
              clear UU IV IM cv c0 c1 HM0 HM1
              have UX := hid ux
              generalize geti V i = z at *
              have set2 : IntsBlk ((wc.setCell ⟨gv, i, none⟩ (.int .i64 (gain + y))).setCell ⟨gm, i, none⟩ (.int .i64 k)) gv (V.set i (gain + y)) ∧ IntsBlk ((wc.setCell ⟨gv, i, none⟩ (.int .i64 (gain + y))).setCell ⟨gm, i, none⟩ (.int .i64 k)) gm (M.set i k) ∧ Upd (fun _ => False) w ((wc.setCell ⟨gv, i, none⟩ (.int .i64 (gain + y))).setCell ⟨gm, i, none⟩ (.int .i64 k)) := by
                have u1 : Upd (· = gv) wc (wc.setCell ⟨gv, i, none⟩ (.int .i64 (gain + y))) := (Upd.refl _ _).at_ _ _
                have u2 : Upd (· = gm) (wc.setCell ⟨gv, i, none⟩ (.int .i64 (gain + y))) ((wc.setCell ⟨gv, i, none⟩ (.int .i64 (gain + y))).setCell ⟨gm, i, none⟩ (.int .i64 k)) := (Upd.refl _ _).at_ _ _
                refine ⟨(iv2.set i _).upd u2 hne, (im2.upd u1 fun e => hne e.symm).set i k, ?_⟩
                exact (ux.comp u1 fun j h1 h2 => by omega).comp u2 fun j h1 h2 => by omega
              have SET := hid set2
              have IV := hid iv2; have IM := hid im2
              clear iv2 im2 set2 ux uc
              have endT : (k = 0 ∨ sg mi z < sg mi (gain + y)) → SolveIn l i (k + 1) ⟨mi, mvs⟩ (V.set i (gain + y)) (M.set i k) := TAKE.out
              have ET := hid endT
              clear endT TAKE
              by_cases hk0 : k = 0
              · subst hk0
                have hs := ET.out (.inl rfl)
                have HS := hid hs
                clear hs ET KEEP
                go_wp2_with fail
                go_roundg (mvs.length - (0 + 1))
                case measure => have := HG.out; omega
                case rel => exact ⟨1, _, _, by omega, rfl, by go_num, SET.out.1, SET.out.2.1, HS.out, SET.out.2.2⟩
              have hk0b : ((k : Int) == 0) = false := beq_eq_false_iff_ne.2 (by omega)
              cases mi
              · by_cases hc : gain + y < z
                · have hs := ET.out (.inr (by rw [sg_false, sg_false]; omega))
                  have HS := hid hs
                  clear hs ET KEEP
                  go_wp2_with fail
                  go_roundg (mvs.length - (k + 1))
                  case measure => have := HG.out; omega
                  case rel => exact ⟨k + 1, _, _, by omega, rfl, by go_num, SET.out.1, SET.out.2.1, HS.out, SET.out.2.2⟩
                · have hs := KEEP.out (by rw [sg_false, sg_false]; omega)
                  have HS := hid hs
                  clear hs ET KEEP
                  go_wp2_with fail
                  go_roundg (mvs.length - (k + 1))
                  case measure => have := HG.out; omega
                  case rel => exact ⟨k + 1, _, _, by omega, rfl, by go_num, IV.out, IM.out, HS.out, UX.out⟩
              · by_cases hc : z < gain + y
                · have hs := ET.out (.inr (by rw [sg_true, sg_true]; omega))
                  have HS := hid hs
                  clear hs ET KEEP
                  go_wp2_with fail
                  go_roundg (mvs.length - (k + 1))
                  case measure => have := HG.out; omega
                  case rel => exact ⟨k + 1, _, _, by omega, rfl, by go_num, SET.out.1, SET.out.2.1, HS.out, SET.out.2.2⟩
                · have hs := KEEP.out (by rw [sg_true, sg_true]; omega)
                  have HS := hid hs
                  clear hs ET KEEP
                  go_wp2_with fail
                  go_roundg (mvs.length - (k + 1))
                  case measure => have := HG.out; omega
                  case rel => exact ⟨k + 1, _, _, by omega, rfl, by go_num, IV.out, IM.out, HS.out, UX.out⟩
          · obtain rfl : k = mvs.length := by omega
            have st := SI.out.leave HR.out HND.out
            have ST := hid st
            clear st
            go_wp2_with fail
            go_roundg i
            case measure => have := HGO.out; omega
            case rel => exact ⟨i, V, M, by omega, rfl, by go_num, IV.out, IM.out, ST.out, UU.out⟩
end Go.Proofs.Ytmjjfafkmfcpnaa
