/- The walk of GameMoves. -/
import Derived.Test.YtmjjfafkmfcpnaaGmM4
import Derived.Test.YtmjjfafkmfcpnaaFr
import Derived.Test.YtmjjfafkmfcpnaaGmLeast
namespace Go.Proofs.Ytmjjfafkmfcpnaa
open Go.RowKit Go.Deep

/-- The first i nodes of the exchanged game are built. -/
def OutInv (l : List Nd) (i : Nat) (s : Value) (W w : World) : Prop :=
  ∃ svs : List Value, svs.length = i ∧ w.ownsRow W.heap.size 41 2 s i (pairs (((l.take i).map fun n => Value.bool (!n.mine)).zip svs)) ∧
    (∀ j (h : j < svs.length) (h' : j < l.length), (kSlice kMv).rep (fun g => g < w.heap.size ∧ s.ownBlock ≠ some g) w [svs[j]] (l[j].moves.map negMv)) ∧ Upd (fun _ => False) W w
theorem out_start {l : List Nd} {W w : World} (u : Upd (fun _ => False) W w) : OutInv l 0 (.slice none 0 0) W w :=
  ⟨[], rfl, World.ownsRow_nil _ _ _ _, fun _ h => absurd h (Nat.not_lt_zero _), u⟩
theorem few_len {l : List Nd} {n : Nat} (h : fewB l n = true) : l.length ≤ n := by
  unfold fewB at h; rw [Bool.and_eq_true] at h; exact of_decide_eq_true h.1
theorem out_step {l : List Nd} {i : Nat} (hi : i < l.length) {s sv v' : Value} {W wo wr w4 : World} {svs : List Value} (hr : RightP l) (i1 : svs.length = i) (i2 : wo.ownsRow W.heap.size 41 2 s i (pairs (((l.take i).map fun n => Value.bool (!n.mine)).zip svs)))
    (i3 : ∀ j (h : j < svs.length) (h' : j < l.length), (kSlice kMv).rep (fun g => g < wo.heap.size ∧ s.ownBlock ≠ some g) wo [svs[j]] (l[j].moves.map negMv)) (i4 : Upd (fun _ => False) W wo)
    (hown : wr.ownsRow (wo.heap.size + 1) 43 2 sv l[i].moves.length (pairs ((l[i].moves.map negMv).map mvCells))) (ux : Upd (fun _ => False) wo wr)
    (o4 : w4.ownsRow W.heap.size 41 2 v' (i + 1) (pairs (((l.take i).map fun n => Value.bool (!n.mine)).zip svs) ++ [.bool (!l[i].mine), sv])) (u4 : Upd (fun k => s.ownBlock = some k) wr w4)
    (n4 : v'.ownBlock = s.ownBlock ∨ ∃ g, v'.ownBlock = some g ∧ wr.heap.size < g) : OutInv l (i + 1) v' W w4 := by
  have hM : maxGain = 1099511627776 := rfl
  have hwm : ∀ m ∈ l[i].moves.map negMv, (Lit.int .i64 m.to).wf = true ∧ (Lit.int .i64 m.gain).wf = true := by
    intro m hm
    obtain ⟨m0, hm0, rfl⟩ := List.mem_map.1 hm
    have := hr.mv i l[i] m0 (List.getElem?_eq_getElem hi) hm0
    have := hr.few
    unfold negMv
    exact ⟨iwf (by dsimp only; omega), iwf (by dsimp only; omega)⟩
  have hsl : ∀ g, s.ownBlock = some g → g < wo.heap.size := fun g hg => (i2.lt g hg).2
  have hnew := mvRow_rep (A := fun g => wo.heap.size + 1 ≤ g ∧ g < wr.heap.size) (l := l[i].moves.map negMv) (by rw [List.length_map]; exact hown) hwm fun g hg => hown.lt g hg
  have hv' : ∀ g, g < wr.heap.size → s.ownBlock ≠ some g → v'.ownBlock ≠ some g := fun g hg hs e => by
    rcases n4 with h | ⟨g', h, hg'⟩
    · exact hs (h.symm.trans e)
    · rw [h] at e; injection e with e; omega
  refine ⟨svs ++ [sv], by simp [i1], ?_, fun j h h' => ?_, (i4.trans ux).comp u4 fun g hg e => ?_⟩
  · rw [List.take_succ_eq_append_getElem hi, List.map_append, List.zip_append (by rw [List.length_map, List.length_take]; omega)]
    rw [show (List.map (fun n : Nd => Value.bool (!n.mine)) [l[i]]).zip [sv] = [(Value.bool (!l[i].mine), sv)] from rfl, pairs_snoc]
    exact o4
  · by_cases hj : j < svs.length
    · rw [List.getElem_append_left hj]
      refine (kSlice kMv).mono ((kSlice kMv).keep (i3 j hj h') fun g hg hlt => ?_) fun g hg => ⟨?_, hv' g (Nat.lt_of_lt_of_le hg.1 ux.size) hg.2⟩
      · exact (u4.block g (Nat.lt_of_lt_of_le hg.1 ux.size) hg.2).trans (ux.block g hg.1 id)
      · exact Nat.lt_of_lt_of_le hg.1 (Nat.le_trans ux.size u4.size)
    · obtain rfl : j = svs.length := by simp at h; omega
      subst i1
      rw [List.getElem_append_right (Nat.le_refl _)]
      simp only [Nat.sub_self, List.getElem_cons_zero]
      refine (kSlice kMv).mono ((kSlice kMv).keep hnew fun g hg hlt => ?_) fun g hg => ⟨?_, hv' g hg.2 fun e => ?_⟩
      · exact u4.block g hg.2 fun e => by have := hsl g e; have := hg.1; omega
      · exact Nat.lt_of_lt_of_le hg.2 u4.size
      · have := hsl g e; have := hg.1; omega
  · have := (i2.lt g e).1; omega
theorem out_rep {l : List Nd} {s : Value} {W w : World} (h : OutInv l l.length s W w) : (kSlice kNd).rep (· < w.heap.size) w [s] (l.map negNd) := by
  obtain ⟨svs, i1, i2, i3, _⟩ := h
  refine ndRow_rep (svs := svs) (by rw [List.take_length] at i2; rw [List.length_map, List.map_map]; exact i2) (by rw [List.length_map, i1]) (fun j hj => ?_) fun g hg => (i2.lt g hg).2
  have hj' : j < l.length := by simpa using hj
  rw [List.getElem_map]
  exact (kSlice kMv).mono (i3 j (by omega) hj') fun g hg => hg.1
/-- One more move at node a. -/
def grow (l : List Nd) (a : Nat) (m : Mv) : List Nd := match l[a]? with | some n => l.set a ⟨n.mine, n.moves ++ [m]⟩ | none => l
theorem grow_at {l : List Nd} {a : Nat} (m : Mv) (h : a < l.length) : grow l a m = l.set a ⟨l[a].mine, l[a].moves ++ [m]⟩ := by
  unfold grow; rw [List.getElem?_eq_getElem h]
theorem grow_len (l : List Nd) (a : Nat) (m : Mv) : (grow l a m).length = l.length := by
  unfold grow; split <;> simp
theorem grow_sg {l : List Nd} {a : Nat} {m : Mv} (hr : RightP l) (h : a < l.length) (hn : l[a].moves ≠ []) (hg : right (grow l a m) = true) (i : Nat) (hi : i < l.length) : sg l[a].mine (geti (vlist l) i) ≤ sg l[a].mine (geti (vlist (grow l a m)) i) := by
  have hgp := (right_iff _).1 hg
  have hb : (grow l a m)[a]? = some ⟨l[a].mine, l[a].moves ++ [m]⟩ := by rw [grow_at m h, List.getElem?_set_self h]
  exact grown_le hr hgp (grow_len l a m) (List.getElem?_eq_getElem h) hb rfl hn (fun x hx => List.mem_append_left _ hx) (fun j hj => by rw [grow_at m h, List.getElem?_set_ne (Ne.symm hj)]) l.length i hi (by omega)
theorem store_1 {w : World} {p : Nat} {a b y : Value} {t : TypeId} (h : w.heap[p]? = some (.cells #[a, b] t (0, 0))) :
    (w.setCell ⟨p, 1, none⟩ y).heap[p]? = some (.cells #[a, y] t (0, 0)) := by
  simp [heap_setCell, Obj.setAt, h]
/-- The block xb holds a node with k exchanged moves. -/
def InInv (mv : List Mv) (nb : Bool) (xb k : Nat) (w0 w : World) : Prop :=
  ∃ sv, w.heap[xb]? = some (.cells #[.bool nb, sv] 41 (0, 0)) ∧ w.ownsRow (xb + 1) 43 2 sv k (pairs (((mv.take k).map negMv).map mvCells)) ∧ Upd (fun _ => False) w0 w

set_option maxRecDepth 100000 in
set_option maxHeartbeats 40000000 in
theorem moves_walk (v : Value) (l : List Nd) (at_ : Int) (cs : Array Value) (m : Mv) (W : World) (h0 : (kSlice kNd).rep (· < W.heap.size) W [v] l) (ha : (Lit.int .i64 at_).wf = true) (hm : kMv.rep (· < W.heap.size) W cs.toList m) :
    Calls Try.prog 7 #[v, .int .i64 at_, .agg cs] W fun e w' => e = .returned (.bool true) ∧ Below W.heap.size W w' := by
  suffices hs : Calls Try.prog 7 #[v, .int .i64 at_, .agg cs] W fun e w' => e = .returned (.bool true) ∧ Upd (fun _ => False) W w' from hs.mono fun e w' h => ⟨h.1, h.2.below (Nat.le_refl _) fun _ h => h.elim⟩
  have hab := wfi ha
  obtain ⟨hcs, mw1, mw2⟩ := mv_rep hm
  obtain rfl : cs = #[.int .i64 m.to, .int .i64 m.gain] := by cases cs; simp_all
  obtain ⟨a0, cap0, rfl, p1, p2, _⟩ := slice_open h0
  have p2 : cap0 ≤ 9223372036854775807 := p2
  have ua := (Upd.refl (fun _ => False) W).alloc (.cells #[.int .i64 m.to, .int .i64 m.gain] 43 (0, 0))
  have hb : (W.alloc (.cells #[.int .i64 m.to, .int .i64 m.gain] 43 (0, 0))).heap[W.heap.size]? = some (.cells #[.int .i64 m.to, .int .i64 m.gain] 43 (0, 0)) := heap_alloc_new
  have HN0 := hid h0; have HN := hid (keep_nds h0 ua); have HB := hid hb; have HU := hid ua; have MW := hid (And.intro mw1 mw2)
  clear h0 hm hcs ua hb ha mw1 mw2
  cases hf : fewB l 200
  · have HF := hid hf; clear hf
    go_enter Try.func7, Try.ntmps7
    go_wp2_with fail
    refine (small_any _).mono ?_
    rintro e w1 ⟨rfl, u⟩
    replace HN := hid (keep_nds HN.out u)
    replace HB := hid ((u.block _ (heap_lt HB.out) id).trans HB.out)
    replace HU := hid (HU.out.trans u)
    clear u
    go_wp2_with fail
    refine (few_any _ l 200 _ HN.out (by decide)).mono ?_
    rintro e wf ⟨rfl, hwf⟩
    subst hwf
    rw [HF.out]
    go_wp2_with fail
    go_ret
    exact ⟨rfl, HU.out⟩
  have HF := hid hf; clear hf
  cases hr : right l
  · have HR := hid hr; clear hr
    go_enter Try.func7, Try.ntmps7
    go_wp2_with fail
    refine (small_any _).mono ?_
    rintro e w1 ⟨rfl, u⟩
    replace HN := hid (keep_nds HN.out u)
    replace HB := hid ((u.block _ (heap_lt HB.out) id).trans HB.out)
    replace HU := hid (HU.out.trans u)
    clear u
    go_wp2_with fail
    refine (few_any _ l 200 _ HN.out (by decide)).mono ?_
    rintro e wf ⟨rfl, hwf⟩
    subst hwf
    rw [HF.out]
    go_wp2_with fail
    refine (right_any _ l _ HN.out).mono ?_
    rintro e w2 ⟨rfl, u⟩
    rw [HR.out]
    replace HN := hid (keep_nds HN.out u)
    replace HB := hid ((u.block _ (heap_lt HB.out) id).trans HB.out)
    replace HU := hid (HU.out.trans u)
    clear u
    go_wp2_with fail
    go_ret
    exact ⟨rfl, HU.out⟩
  have HP := hid ((right_iff _).1 hr)
  have HR := hid hr; clear hr
  by_cases ha0 : at_ < 0
  · go_enter Try.func7, Try.ntmps7
    go_wp2_with fail
    refine (small_any _).mono ?_
    rintro e w1 ⟨rfl, u⟩
    replace HN := hid (keep_nds HN.out u)
    replace HB := hid ((u.block _ (heap_lt HB.out) id).trans HB.out)
    replace HU := hid (HU.out.trans u)
    clear u
    go_wp2_with fail
    refine (few_any _ l 200 _ HN.out (by decide)).mono ?_
    rintro e wf ⟨rfl, hwf⟩
    subst hwf
    rw [HF.out]
    go_wp2_with fail
    refine (right_any _ l _ HN.out).mono ?_
    rintro e w2 ⟨rfl, u⟩
    rw [HR.out]
    replace HN := hid (keep_nds HN.out u)
    replace HB := hid ((u.block _ (heap_lt HB.out) id).trans HB.out)
    replace HU := hid (HU.out.trans u)
    clear u
    go_wp2_with fail
    go_ret
    exact ⟨rfl, HU.out⟩
  have ha0i : 0 ≤ at_ := by omega
  have ha0b : decide (at_ < 0) = false := decide_eq_false ha0
  clear ha0
  by_cases hal : (l.length : Int) ≤ at_
  · go_enter Try.func7, Try.ntmps7
    go_wp2_with fail
    refine (small_any _).mono ?_
    rintro e w1 ⟨rfl, u⟩
    replace HN := hid (keep_nds HN.out u)
    replace HB := hid ((u.block _ (heap_lt HB.out) id).trans HB.out)
    replace HU := hid (HU.out.trans u)
    clear u
    go_wp2_with fail
    refine (few_any _ l 200 _ HN.out (by decide)).mono ?_
    rintro e wf ⟨rfl, hwf⟩
    subst hwf
    rw [HF.out]
    go_wp2_with fail
    refine (right_any _ l _ HN.out).mono ?_
    rintro e w2 ⟨rfl, u⟩
    rw [HR.out]
    replace HN := hid (keep_nds HN.out u)
    replace HB := hid ((u.block _ (heap_lt HB.out) id).trans HB.out)
    replace HU := hid (HU.out.trans u)
    clear u
    go_wp2_with fail
    go_ret
    exact ⟨rfl, HU.out⟩
  have hali : at_ < l.length := by omega
  have halb : decide ((l.length : Int) ≤ at_) = false := decide_eq_false hal
  obtain ⟨a, rfl⟩ := Int.eq_ofNat_of_zero_le ha0i
  have haln : decide (l.length ≤ a) = false := decide_eq_false (by omega)
  have HL2 := hid (show l.length ≤ 200 from few_len HF.out)
  clear hal hab ha0i
  have HAL := hid hali
  · go_enter Try.func7, Try.ntmps7
    go_wp2_with fail
    refine (small_any _).mono ?_
    rintro e w1 ⟨rfl, u⟩
    replace HN := hid (keep_nds HN.out u)
    replace HB := hid ((u.block _ (heap_lt HB.out) id).trans HB.out)
    replace HU := hid (HU.out.trans u)
    clear u
    go_wp2_with fail
    refine (few_any _ l 200 _ HN.out (by decide)).mono ?_
    rintro e wf ⟨rfl, hwf⟩
    subst hwf
    rw [HF.out]
    go_wp2_with fail
    refine (right_any _ l _ HN.out).mono ?_
    rintro e w2 ⟨rfl, u⟩
    rw [HR.out]
    replace HN := hid (keep_nds HN.out u)
    replace HB := hid ((u.block _ (heap_lt HB.out) id).trans HB.out)
    replace HU := hid (HU.out.trans u)
    clear u
    go_wp2_with fail
    clear halb haln ha0b
    go_loopg [8, 9, 10, 11] l.length (fun gg s8 s9 s10 s11 wr => ∃ i, i ≤ l.length ∧ gg = l.length - i ∧ s9 = .int .i64 i ∧ OutInv l i s8 w2 wr)
    case atStart => exact ⟨0, Nat.zero_le _, rfl, rfl, out_start (Upd.refl _ _)⟩
    case round =>
      obtain ⟨i, hi, hg, rfl, hinv⟩ := hrel
      have HG := hid hg; have INV := hid hinv
      clear hg hinv
      by_cases hlt : i < l.length
      · have hlti : (i : Int) < l.length := by omega
        obtain ⟨b, o, ra, hb, hel⟩ := slice_at HN0.out (by omega)
        subst ra
        obtain ⟨vm, n0, n1, hmv⟩ := nd_cells hel hlt
        obtain ⟨svs, i1, i2, i3, i4⟩ := INV.out
        have U2 := hid i4
        have U := hid (HU.out.trans i4)
        have n0 := cell_kept n0 (U.out.block b hb id)
        have n1 := cell_kept n1 (U.out.block b hb id)
        obtain ⟨am, cm, rfl, q1, q2, _⟩ := slice_open hmv
        have q2 : cm ≤ 9223372036854775807 := q2
        have HMV := hid hmv
        have hml := HP.out.len i l[i] (List.getElem?_eq_getElem hlt)
        have HML := hid hml
        have HMB := hid (fun (x : Mv) (hx : x ∈ l[i].moves) => HP.out.mv i l[i] x (List.getElem?_eq_getElem hlt) hx)
        obtain ⟨mine, hmine⟩ : ∃ x, l[i].mine = x := ⟨_, rfl⟩
        obtain ⟨mv, hmvv⟩ : ∃ x, l[i].moves = x := ⟨_, rfl⟩
        rw [hmine] at n0
        rw [hmvv] at n1 HMV HML HMB q1
        have HMI := hid hmine; have HMM := hid hmvv
        clear hel hmv i1 i2 i3 i4 hmine hmvv hml
        obtain ⟨wo, rfl⟩ : ∃ wo : World, wo = wr := ⟨_, rfl⟩
        go_wp2_with fail
        have hxW : W.heap.size ≤ wo.heap.size := U.out.size
        have HXW := hid hxW
        clear hxW
        go_loopg [11] mv.length (fun gg s11 wx => ∃ k, k ≤ mv.length ∧ gg = mv.length - k ∧ s11 = .int .i64 k ∧ InInv mv (!mine) wo.heap.size k wo wx)
        case atStart => exact ⟨0, Nat.zero_le _, rfl, rfl, .slice none 0 0, heap_alloc_new, by rw [List.take_zero]; exact World.ownsRow_nil _ _ _ _, (Upd.refl _ _).alloc _⟩
        case round =>
          obtain ⟨k, hk, hg, rfl, sv, hx, hown, ux⟩ := hrel
          have HGK := hid hg; have HX := hid hx; have OWN := hid hown; have UX := hid ux
          have HXL := hid (heap_lt hx)
          have n0 := cell_kept n0 (ux.block b (Nat.lt_of_lt_of_le hb U.out.size) id)
          have n1 := cell_kept n1 (ux.block b (Nat.lt_of_lt_of_le hb U.out.size) id)
          obtain ⟨x0, x1, xf⟩ := cells2 hx
          clear hg hx hown ux
          by_cases hkl : k < mv.length
          · have hkli : (k : Int) < mv.length := by omega
            obtain ⟨mb, mo, ra, hmb, hmel⟩ := slice_at HMV.out (by omega)
            subst ra
            obtain ⟨m0, m1⟩ := mv_cells hmel hkl
            have m0 := cell_kept m0 ((U.out.trans UX.out).block mb hmb id)
            have m1 := cell_kept m1 ((U.out.trans UX.out).block mb hmb id)
            have gb := HMB.out mv[k] (List.getElem_mem hkl)
            have SN := hid (show (mv.take (k + 1)).map negMv = (mv.take k).map negMv ++ [negMv mv[k]] by rw [List.take_succ_eq_append_getElem hkl, List.map_append]; rfl)
            obtain ⟨mto, hmto⟩ : ∃ x, mv[k].to = x := ⟨_, rfl⟩
            obtain ⟨mg, hmg⟩ : ∃ x, mv[k].gain = x := ⟨_, rfl⟩
            have MC := hid (show mvCells (negMv mv[k]) = (.int .i64 mto, .int .i64 (-mg)) by unfold mvCells negMv; rw [hmto, hmg])
            rw [hmto] at m0
            rw [hmg] at m1
            rw [hmg] at gb
            have hM : maxGain = 1099511627776 := rfl
            have gneg : IntKind.i64.wrap (-mg) = -mg := IntWalk.i64_in _ (by omega)
            have gneg2 : wrap64 (-mg) = -mg := IntWalk.wrap64_in _ (by omega)
            have mb0 := Nat.lt_of_lt_of_le hmb HXW.out
            have hb0 := Nat.lt_of_lt_of_le hb HXW.out
            go_wp2_with fail
            have hd : wr.drew.heap[wo.heap.size]? = _ := HX.out
            have n1d : wr.drew.cell? ⟨b, o + i * 2 + 1, none⟩ = _ := n1
            have m0d : wr.drew.cell? ⟨mb, mo + k * 2, none⟩ = _ := m0
            have m1d : wr.drew.cell? ⟨mb, mo + k * 2 + 1, none⟩ = _ := m1
            have ud := UX.out.drew
            have od := OWN.out.drew
            have hxl := HXL.out
            have ld : wo.heap.size < wr.drew.heap.size := hxl
            obtain ⟨wd, hwd⟩ : ∃ z, wr.drew = z := ⟨_, rfl⟩
            rw [hwd] at hd n1d m0d m1d ud od ld
            obtain ⟨v', w4, r4, o4, u4, n4⟩ := append_one elemMv od #[.int .i64 mto, .int .i64 (-mg)] rfl (by simp [Value.oneCell']) (by unfold maxLen; have := HML.out; omega) (by have := HML.out; omega) (Nat.succ_le_of_lt ld) 39 (0, 0)
            obtain ⟨g4, cap4, rfl⟩ : ∃ g cap, v' = .slice (some ⟨g, 0, none⟩) (k + 1) cap := by
              rcases ownsRow_fits o4 with ⟨_, hz⟩ | ⟨g, cap, h, _⟩
              · omega
              · exact ⟨g, cap, h⟩
            have far : ∀ g, g ≤ wo.heap.size → w4.heap[g]? = wd.heap[g]? := fun g hg => u4.block g (Nat.lt_of_le_of_lt hg ld) fun e => by have := (od.lt g e).1; omega
            have hx4 := (far _ (Nat.le_refl _)).trans hd
            obtain ⟨x0, x1, xf⟩ := cells2 hd
            obtain ⟨y0, y1, yf⟩ := cells2 hx4
            have hbd : b < wd.heap.size := by omega
            have hmd : mb < wd.heap.size := by omega
            have hS : wd.cell? ⟨wo.heap.size, 1, none⟩ = some sv ∧ wd.cell? ⟨b, o + i * 2 + 1, none⟩ = some (.slice (some ⟨mb, mo, none⟩) mv.length cm) ∧ wd.cell? ⟨mb, mo + k * 2, none⟩ = some (.int .i64 mto) ∧ wd.cell? ⟨mb, mo + k * 2 + 1, none⟩ = some (.int .i64 mg) := ⟨x1, n1d, m0d, m1d⟩
            have hA : (wd.alloc (.cells #[.int .i64 mto, .int .i64 (-mg)] 43 (0, 0))).cell? ⟨wo.heap.size, 1, none⟩ = some sv ∧ (wd.alloc (.cells #[.int .i64 mto, .int .i64 (-mg)] 43 (0, 0))).cell? ⟨b, o + i * 2 + 1, none⟩ = some (.slice (some ⟨mb, mo, none⟩) mv.length cm) ∧ (wd.alloc (.cells #[.int .i64 mto, .int .i64 (-mg)] 43 (0, 0))).cell? ⟨mb, mo + k * 2, none⟩ = some (.int .i64 mto) ∧ (wd.alloc (.cells #[.int .i64 mto, .int .i64 (-mg)] 43 (0, 0))).cell? ⟨mb, mo + k * 2 + 1, none⟩ = some (.int .i64 mg) := ⟨cell_kept x1 (heap_alloc_old ld), cell_kept n1d (heap_alloc_old hbd), cell_kept m0d (heap_alloc_old hmd), cell_kept m1d (heap_alloc_old hmd)⟩
            have h4 : w4.cell? ⟨wo.heap.size, 1, none⟩ = some sv ∧ w4.cell? ⟨b, o + i * 2 + 1, none⟩ = some (.slice (some ⟨mb, mo, none⟩) mv.length cm) ∧ w4.cell? ⟨mb, mo + k * 2, none⟩ = some (.int .i64 mto) ∧ w4.cell? ⟨mb, mo + k * 2 + 1, none⟩ = some (.int .i64 mg) := ⟨y1, cell_kept n1d (far b (by omega)), cell_kept m0d (far mb (by omega)), cell_kept m1d (far mb (by omega))⟩
            have HX4 := hid hx4; have O4 := hid o4; have U4 := hid (ud.comp u4 fun g hg e => by have := (od.lt g e).1; omega)
            have us := hid ((Upd.refl (· = wo.heap.size) w4).at_ 1 (.slice (some ⟨g4, 0, none⟩) (k + 1) cap4))
            clear hmel gb hM o4 u4 n4 far hx4 hmto hmg od ud hd x0 y0 y1 xf n1 m0 m1 n0
            refine wp_region_g (fun w' => w'.cell? ⟨wo.heap.size, 1, none⟩ = some sv ∧ w'.cell? ⟨b, o + i * 2 + 1, none⟩ = some (.slice (some ⟨mb, mo, none⟩) mv.length cm) ∧ w'.cell? ⟨mb, mo + k * 2, none⟩ = some (.int .i64 mto) ∧ w'.cell? ⟨mb, mo + k * 2 + 1, none⟩ = some (.int .i64 mg)) 24 (by kernel_rfl) ?_
            rw [hwd]
            refine g_take0 (i := 0) rfl (by kernel_rfl) (by kernel_rfl) (by kernel_rfl) (by decide) (fun _ _ _ h => h) (Or.inl ⟨by rfl, by (intro w _; go_simp; try with_reducible rfl)⟩) (fun _ => hS) ?_
            (try simp only [Act.put, List.setIfInBounds_toArray, List.set_cons_zero, List.set_cons_succ])
            refine g_take (i := 1) rfl (by kernel_rfl) (by kernel_rfl) (by kernel_rfl) (by kernel_rfl) (fun _ _ _ h => h) (Or.inl ⟨by rfl, by (intro w hSw; (try dsimp only at hSw); go_simp; try with_reducible rfl)⟩) hS ?_
            (try simp only [Act.put, List.setIfInBounds_toArray, List.set_cons_zero, List.set_cons_succ])
            refine g_take0 (i := 2) rfl (by kernel_rfl) (by kernel_rfl) (by kernel_rfl) (by decide) (fun _ _ _ h => h) (Or.inl ⟨by rfl, by (intro w _; go_simp; try with_reducible rfl)⟩) (fun _ => hS) ?_
            (try simp only [Act.put, List.setIfInBounds_toArray, List.set_cons_zero, List.set_cons_succ])
            refine g_take0 (i := 3) rfl (by kernel_rfl) (by kernel_rfl) (by kernel_rfl) (by decide) (fun _ _ _ h => h) (Or.inl ⟨by rfl, by (intro w _; go_simp; try with_reducible rfl)⟩) (fun _ => hS) ?_
            (try simp only [Act.put, List.setIfInBounds_toArray, List.set_cons_zero, List.set_cons_succ])
            refine g_take0 (i := 4) rfl (by kernel_rfl) (by kernel_rfl) (by kernel_rfl) (by decide) (fun _ _ _ h => h) (Or.inl ⟨by rfl, by (intro w _; go_simp; try with_reducible rfl)⟩) (fun _ => hS) ?_
            (try simp only [Act.put, List.setIfInBounds_toArray, List.set_cons_zero, List.set_cons_succ])
            refine g_take0 (i := 5) rfl (by kernel_rfl) (by kernel_rfl) (by kernel_rfl) (by decide) (fun _ _ _ h => h) (Or.inl ⟨by rfl, by (intro w _; go_simp; try with_reducible rfl)⟩) (fun _ => hS) ?_
            (try simp only [Act.put, List.setIfInBounds_toArray, List.set_cons_zero, List.set_cons_succ])
            refine g_take (i := 6) rfl (by kernel_rfl) (by kernel_rfl) (by kernel_rfl) (by kernel_rfl) (fun _ _ _ h => h) (Or.inl ⟨by rfl, by (intro w hSw; (try dsimp only at hSw); go_simp; try with_reducible rfl)⟩) hS ?_
            (try simp only [Act.put, List.setIfInBounds_toArray, List.set_cons_zero, List.set_cons_succ])
            refine g_take0 (i := 7) rfl (by kernel_rfl) (by kernel_rfl) (by kernel_rfl) (by decide) (fun _ _ _ h => h) (Or.inl ⟨by rfl, by (intro w _; go_simp; try with_reducible rfl)⟩) (fun _ => hS) ?_
            (try simp only [Act.put, List.setIfInBounds_toArray, List.set_cons_zero, List.set_cons_succ])
            refine g_take0 (i := 8) rfl (by kernel_rfl) (by kernel_rfl) (by kernel_rfl) (by decide) (fun _ _ _ h => h) (Or.inl ⟨by rfl, by (intro w _; go_simp; try with_reducible rfl)⟩) (fun _ => hS) ?_
            (try simp only [Act.put, List.setIfInBounds_toArray, List.set_cons_zero, List.set_cons_succ])
            refine g_take0 (i := 9) rfl (by kernel_rfl) (by kernel_rfl) (by kernel_rfl) (by decide) (fun _ _ _ h => h) (Or.inl ⟨by rfl, by (intro w _; go_simp; try with_reducible rfl)⟩) (fun _ => hS) ?_
            (try simp only [Act.put, List.setIfInBounds_toArray, List.set_cons_zero, List.set_cons_succ])
            refine g_take (i := 10) rfl (by kernel_rfl) (by kernel_rfl) (by kernel_rfl) (by kernel_rfl) (fun _ _ _ h => h) (Or.inl ⟨by rfl, by (intro w hSw; (try dsimp only at hSw); go_simp; try with_reducible rfl)⟩) hS ?_
            (try simp only [Act.put, List.setIfInBounds_toArray, List.set_cons_zero, List.set_cons_succ])
            refine g_take0 (i := 11) rfl (by kernel_rfl) (by kernel_rfl) (by kernel_rfl) (by decide) (fun _ _ _ h => h) (Or.inl ⟨by rfl, by (intro w _; go_simp; try with_reducible rfl)⟩) (fun _ => hS) ?_
            (try simp only [Act.put, List.setIfInBounds_toArray, List.set_cons_zero, List.set_cons_succ])
            refine g_take0 (i := 12) rfl (by kernel_rfl) (by kernel_rfl) (by kernel_rfl) (by decide) (fun _ _ _ h => h) (Or.inl ⟨by rfl, by (intro w _; go_simp; try with_reducible rfl)⟩) (fun _ => hS) ?_
            (try simp only [Act.put, List.setIfInBounds_toArray, List.set_cons_zero, List.set_cons_succ])
            refine g_take0 (i := 13) rfl (by kernel_rfl) (by kernel_rfl) (by kernel_rfl) (by decide) (fun _ _ _ h => h) (Or.inl ⟨by rfl, by (intro w _; go_simp; try with_reducible rfl)⟩) (fun _ => hS) ?_
            (try simp only [Act.put, List.setIfInBounds_toArray, List.set_cons_zero, List.set_cons_succ])
            refine g_take0 (i := 14) rfl (by kernel_rfl) (by kernel_rfl) (by kernel_rfl) (by decide) (fun _ _ _ h => h) (Or.inl ⟨by rfl, by (intro w _; go_simp; try with_reducible rfl)⟩) (fun _ => hS) ?_
            (try simp only [Act.put, List.setIfInBounds_toArray, List.set_cons_zero, List.set_cons_succ])
            refine g_take (i := 15) rfl (by kernel_rfl) (by kernel_rfl) (by kernel_rfl) (by kernel_rfl) (fun _ _ _ h => h) (Or.inl ⟨by rfl, by (intro w hSw; (try dsimp only at hSw); go_simp; try with_reducible rfl)⟩) hS ?_
            (try simp only [Act.put, List.setIfInBounds_toArray, List.set_cons_zero, List.set_cons_succ])
            refine g_take0 (i := 16) rfl (by kernel_rfl) (by kernel_rfl) (by kernel_rfl) (by decide) (fun _ _ _ h => h) (Or.inl ⟨by rfl, by (intro w _; go_simp; try with_reducible rfl)⟩) (fun _ => hS) ?_
            (try simp only [Act.put, List.setIfInBounds_toArray, List.set_cons_zero, List.set_cons_succ])
            refine g_take0 (i := 17) rfl (by kernel_rfl) (by kernel_rfl) (by kernel_rfl) (by decide) (fun _ _ _ h => h) (Or.inl ⟨by rfl, by (intro w _; go_simp; try with_reducible rfl)⟩) (fun _ => hS) ?_
            (try simp only [Act.put, List.setIfInBounds_toArray, List.set_cons_zero, List.set_cons_succ])
            refine g_take0 (i := 18) rfl (by kernel_rfl) (by kernel_rfl) (by kernel_rfl) (by decide) (fun _ _ _ h => h) (Or.inl ⟨by rfl, by (intro w _; go_simp; try with_reducible rfl)⟩) (fun _ => hS) ?_
            (try simp only [Act.put, List.setIfInBounds_toArray, List.set_cons_zero, List.set_cons_succ])
            refine g_take (i := 19) rfl (by kernel_rfl) (by kernel_rfl) (by kernel_rfl) (by kernel_rfl) (fun _ _ _ h => h) (Or.inl ⟨by rfl, by (intro w hSw; (try dsimp only at hSw); go_simp; try with_reducible rfl)⟩) hS ?_
            (try simp only [Act.put, List.setIfInBounds_toArray, List.set_cons_zero, List.set_cons_succ])
            refine g_take0 (i := 20) rfl (by kernel_rfl) (by kernel_rfl) (by kernel_rfl) (by decide) (fun _ _ _ h => h) (Or.inl ⟨by rfl, by (intro w _; go_simp; try with_reducible rfl)⟩) (fun _ => hS) ?_
            (try simp only [Act.put, List.setIfInBounds_toArray, List.set_cons_zero, List.set_cons_succ])
            refine g_take0 (i := 21) rfl (by kernel_rfl) (by kernel_rfl) (by kernel_rfl) (by decide) (fun _ _ _ h => h) (Or.inl ⟨by rfl, by (intro w _; go_simp; try with_reducible rfl)⟩) (fun _ => hS) ?_
            (try simp only [Act.put, List.setIfInBounds_toArray, List.set_cons_zero, List.set_cons_succ])
            refine g_op (i := 22) (by kernel_rfl) rfl ?_
            go_wp2_with fail
            try with_reducible refine And.intro (fun _ => hA) ?_
            refine g_op (i := 23) (by kernel_rfl) rfl ?_
            refine wpList_append_run rfl _ _ _ _ rfl rfl rfl r4 ?_
            go_wp2_with fail
            try with_reducible refine And.intro (fun _ => h4) ?_
            refine g_op (i := 24) (by kernel_rfl) rfl ?_
            go_wp2_with fail
            try with_reducible refine And.intro (fun h => absurd h (by simp)) ?_
            refine g_op (i := 25) (by kernel_rfl) rfl ?_
            go_wp2_with fail
            try with_reducible refine And.intro (fun h => absurd h (by simp)) ?_
            refine g_done (by kernel_rfl) ?_
            go_wp2_with fail
            go_roundg (mv.length - (k + 1))
            case measure => have := HGK.out; omega
            case rel => exact ⟨k + 1, by omega, rfl, by go_num, _, store_1 HX4.out, by rw [SN.out, List.map_append, List.map_cons, List.map_nil, pairs_snoc, MC.out]; exact ownsRow_upd O4.out us.out (fun g hg e => by have := (O4.out.lt g hg).1; omega), U4.out.comp us.out fun g hg e => by omega⟩
          · skip
            obtain rfl : k = mv.length := by omega
            have own0 := OWN.out
            rw [List.take_length] at own0
            obtain ⟨ga, gn, gc, rfl⟩ : ∃ a n c, sv = .slice a n c := by
              rcases ownsRow_fits own0 with ⟨h, _⟩ | ⟨g, cap, h, _⟩
              · exact ⟨_, _, _, h⟩
              · exact ⟨_, _, _, h⟩
            have OWN0 := hid own0
            obtain ⟨svs, i1, i2, i3, i4⟩ := INV.out
            have own8 := ownsRow_upd i2 UX.out fun _ _ => id
            obtain ⟨v', w4, r4, o4, u4, n4⟩ := append_one elemNd own8 #[.bool (!mine), .slice ga gn gc] rfl (by simp [Value.oneCell']) (by unfold maxLen; have := HL2.out; omega) (by have := HL2.out; omega) (Nat.le_trans U2.out.size UX.out.size) 22 (0, 0)
            have NEW := hid (show OutInv l (i + 1) v' w2 w4 from out_step hlt HP.out i1 i2 i3 i4 (by rw [HMM.out]; exact OWN0.out) UX.out (by rw [HMI.out]; exact o4) u4 n4)
            clear own0 i1 i2 i3 i4 own8 o4 u4 n4
            go_wp2_with (at_builtin; refine wpList_append_run rfl _ _ _ _ rfl rfl rfl r4 ?_)
            go_roundg (l.length - (i + 1))
            case measure => have := HG.out; omega
            case rel => exact ⟨i + 1, by omega, rfl, by go_num, NEW.out⟩
      · obtain rfl : i = l.length := by omega
        have HO := hid (out_rep INV.out)
        obtain ⟨_, _, _, _, i4⟩ := INV.out
        have U2 := hid i4
        have U := hid (HU.out.trans i4)
        have HNR := hid (keep_nds HN0.out U.out)
        have HRN := hid (show right (l.map negNd) = true from (right_iff _).2 (right_neg HP.out))
        have HB3 := hid ((i4.block _ (heap_lt HB.out) id).trans HB.out)
        clear i4 hlt
        go_wp2_with fail
        refine (value_any _ l _ HNR.out).mono ?_
        rintro e w5 hpost
        rw [ValuePost, if_pos HR.out] at hpost
        obtain ⟨gv, rfl, hgv, hbv, u⟩ := hpost
        have U5 := hid (U.out.trans u); have BV := hid hbv; have HO5 := hid (keep_nds HO.out u)
        have HB5 := hid ((u.block _ (heap_lt HB3.out) id).trans HB3.out)
        clear hgv hbv u
        go_wp2_with fail
        refine (value_any _ (l.map negNd) _ HO5.out).mono ?_
        rintro e w6 hpost
        rw [ValuePost, if_pos HRN.out] at hpost
        obtain ⟨gw, he, hgw, hbw, u⟩ := hpost
        rw [List.length_map] at he
        subst he
        have U6 := hid (U5.out.trans u); have BW := hid hbw; have BV6 := hid (BV.out.upd u id)
        have HB6 := hid ((u.block _ (heap_lt HB5.out) id).trans HB5.out)
        clear hgw hbw u
        have hnn : ((l.length : Int) != l.length) = false := by simp
        have hnn2 : (l.length != l.length) = false := by simp
        go_wp2_with fail
        go_loopg [16] l.length (fun gg s16 wr => ∃ i, i ≤ l.length ∧ gg = l.length - i ∧ s16 = .int .i64 i ∧ Upd (fun _ => False) w6 wr)
        case atStart => exact ⟨0, Nat.zero_le _, rfl, rfl, Upd.refl _ _⟩
        case round =>
          obtain ⟨i, hi, hg, rfl, u⟩ := hrel
          have HG := hid hg; have UR := hid u
          clear hg u
          by_cases hlt : i < l.length
          · have hlti : (i : Int) < l.length := by omega
            have c1 := cell_kept (BV6.out.cell (k := i) (by rw [vlist_len]; exact hlt)) (UR.out.block _ BV6.out.lt id)
            have c2 := cell_kept (BW.out.cell (k := i) (by rw [vlist_len, List.length_map]; exact hlt)) (UR.out.block _ BW.out.lt id)
            have hneg : (vlist (l.map negNd))[i]'(by rw [vlist_len, List.length_map]; exact hlt) = -((vlist l)[i]'(by rw [vlist_len]; exact hlt)) := by simp [vlist_neg]
            rw [hneg] at c2
            have hbd := vlist_bound HP.out i
            have hM : maxGain = 1099511627776 := rfl
            rw [← geti_at' (by rw [vlist_len]; exact hlt)] at hbd
            generalize (vlist l)[i]'(by rw [vlist_len]; exact hlt) = x at *
            have hx1 : -3298534883328000 ≤ x := by omega
            have hx2 : x ≤ 3298534883328000 := by omega
            clear hneg hbd hM
            have gneg : IntKind.i64.wrap (-x) = -x := IntWalk.i64_in _ (by omega)
            have gneg2 : wrap64 (-x) = -x := IntWalk.wrap64_in _ (by omega)
            have hbb : (-x != -x) = false := by simp
            go_wp2_with fail
            go_quiet (fail)
            go_wp2_with fail
            go_roundg (l.length - (i + 1))
            case measure => have := HG.out; omega
            case rel => exact ⟨i + 1, by omega, rfl, by go_num, UR.out.drewN _⟩
          · obtain rfl : i = l.length := by omega
            have hal' : a < l.length := by have := HAL.out; omega
            have U7 := hid (U6.out.trans UR.out)
            obtain ⟨b, o, ra, hb, hel⟩ := slice_at HN0.out (by omega)
            subst ra
            obtain ⟨vm, n0, n1, hmv⟩ := nd_cells hel hal'
            have N0 := hid n0
            have n0 := cell_kept n0 (U7.out.block b hb id)
            have n1 := cell_kept n1 (U7.out.block b hb id)
            obtain ⟨am, cm, rfl, q1, q2, _⟩ := slice_open hmv
            have q2 : cm ≤ 9223372036854775807 := q2
            have HMV := hid hmv
            have HEL := hid hel
            clear hel hmv hlt
            by_cases hm0 : l[a].moves = []
            · rw [hm0] at n1
              have hz : (([] : List Mv).length : Int) = 0 := rfl
              clear q1
              go_wp2_with fail
              go_ret
              exact ⟨rfl, U7.out⟩
            have hmp : 0 < l[a].moves.length := List.length_pos_iff.2 hm0
            have hmz : ((l[a].moves.length : Int) == 0) = false := beq_eq_false_iff_ne.2 (by omega)
            have hmz2 : (l[a].moves.length == 0) = false := beq_eq_false_iff_ne.2 (by omega)
            obtain ⟨vs, hv1, hv2⟩ := nds_list l.length (Nat.le_refl _) HEL.out
            have hbr := Nat.lt_of_lt_of_le hb U7.out.size
            obtain ⟨gv8, w8, r8, o8, u8⟩ := clone_nds (w := wr) (c := cap0) hv1 (by have := HL2.out; omega) (fun i h h' => ⟨cell_kept (hv2 i h h').1 (U7.out.block b hb id), cell_kept (hv2 i h h').2.1 (U7.out.block b hb id), slice_one (hv2 i h h').2.2⟩) hbr
            obtain ⟨g8, cap8, rfl⟩ : ∃ g cap, gv8 = .slice (some ⟨g, 0, none⟩) l.length cap := by
              rcases ownsRow_fits o8 with ⟨_, hz⟩ | ⟨g, cap, h, _⟩
              · omega
              · exact ⟨g, cap, h⟩
            have HV1 := hid hv1; have HV2 := hid hv2; have O8 := hid o8; have U8 := hid u8
            have k1 := cell_kept n1 (u8.block b hbr id)
            clear hv1 hv2 o8 u8
            go_upto_region 26 with (at_builtin; refine wpList_append_run rfl _ _ _ _ rfl rfl rfl r8 ?_)
            go_cut [17] (fun s wx => s = .slice (some ⟨g8, 0, none⟩) l.length cap8 ∧ (kSlice kNd).rep (· < wx.heap.size) wx [.slice (some ⟨g8, 0, none⟩) l.length cap8] (grow l a m) ∧ Upd (· = g8) w8 wx)
            case first =>
              have hb8 := ((UR.out.trans U8.out).block _ (heap_lt HB6.out) id).trans HB6.out
              have u78 := U7.out.trans U8.out
              obtain ⟨mb, mo, ra, hmb, hmel⟩ := slice_at HMV.out (by omega)
              subst ra
              have at8 := (show MvAt W mb mo l[a].moves from fun i h => mv_cells hmel h).upd hmb u78
              have hmb8 := Nat.lt_of_lt_of_le hmb u78.size
              have hml2 : l[a].moves.length ≤ 2000 := by have := HP.out.len a l[a] (List.getElem?_eq_getElem hal'); omega
              have hwf : ∀ x ∈ l[a].moves ++ [m], (Lit.int .i64 x.to).wf = true ∧ (Lit.int .i64 x.gain).wf = true := by
                have hM : maxGain = 1099511627776 := rfl
                intro x hx
                rcases List.mem_append.1 hx with hx | hx
                · have h1 := HP.out.mv a l[a] x (List.getElem?_eq_getElem hal') hx
                  have h2 := HP.out.few
                  exact ⟨iwf (by omega), iwf (by omega)⟩
                · rw [List.mem_singleton] at hx
                  subst hx
                  exact MW.out
              have hbW := Nat.le_of_lt (heap_lt hb8)
              obtain ⟨ga1, ca1, wa1, ga2, ca2, wa2, ra1, ra2, ua1, na⟩ := chain_a (c := cm) m at8 hmb8 hml2 hmp
              obtain ⟨gb1, cb1, wb1, gb2, cb2, wb2, rb1, rb2, ub1, nb⟩ := chain_b (w0 := ((w8.alloc mvNil).alloc (mvObj m)).drew) (gA := w8.heap.size) (gB := w8.heap.size + 1) (c := cm) m at8 hmb8 hml2 hmp (((Upd.refl (fun _ => False) w8).alloc mvNil).alloc (mvObj m)).drew (alloc2 w8 _ _).2 (alloc2 w8 _ _).1 (Nat.le_refl _) (Nat.le_succ _) (by omega)
              obtain ⟨gc1, cc1, wc1, gc2, cc2, wc2, rc1, rc2, uc1, nc⟩ := chain_b (w0 := ((w8.alloc (mvObj m)).alloc mvNil).drew) (gA := w8.heap.size + 1) (gB := w8.heap.size) (c := cm) m at8 hmb8 hml2 hmp (((Upd.refl (fun _ => False) w8).alloc (mvObj m)).alloc mvNil).drew (alloc2 w8 _ _).1 (alloc2 w8 _ _).2 (Nat.le_succ _) (Nat.le_refl _) (by omega)
              have u7r := U7.out.size
              have fin : ∀ {g c : Nat} {w2 : World}, MvCut w8 l[a].moves m g c w2 → (Value.slice (some ⟨g8, 0, none⟩) l.length cap8 = .slice (some ⟨g8, 0, none⟩) l.length cap8) ∧ (kSlice kNd).rep (· < (w2.setCell ⟨g8, a * 2 + 1, none⟩ (.slice (some ⟨g, 0, none⟩) (l[a].moves.length + 1) c)).heap.size) (w2.setCell ⟨g8, a * 2 + 1, none⟩ (.slice (some ⟨g, 0, none⟩) (l[a].moves.length + 1) c)) [.slice (some ⟨g8, 0, none⟩) l.length cap8] (grow l a m) ∧ Upd (· = g8) w8 (w2.setCell ⟨g8, a * 2 + 1, none⟩ (.slice (some ⟨g, 0, none⟩) (l[a].moves.length + 1) c)) := fun n => by
                rw [grow_at m hal']
                exact ⟨rfl, grown_cut u7r u78 O8.out HV1.out hal' (fun i h h' => (HV2.out i h h').2.2) n hwf⟩
              obtain ⟨ya, fa⟩ := cell_row O8.out hal' HV1.out na.2
              obtain ⟨yb, fb⟩ := cell_row O8.out hal' HV1.out nb.2
              obtain ⟨yc, fc⟩ := cell_row O8.out hal' HV1.out nc.2
              have FA := hid (fin na); have FB := hid (fin nb); have FC := hid (fin nc)
              have hbl := Nat.lt_of_lt_of_le hbr U8.out.size
              have hml := heap_lt hb8
              have UA1 := hid ua1; have UA2 := hid na.2; have UB1 := hid ub1; have UB2 := hid nb.2; have UC1 := hid uc1; have UC2 := hid nc.2
              have UA3 := hid (ua1.alloc (mvObj m))
              obtain ⟨e0, e1, _⟩ := cells2 hb8
              unfold mvNil at ra1 rb1 rc1
              unfold mvObj at ra2 rb1 rc1
              have hal'' := HAL.out
              have keepS : ∀ {w' : World}, Upd (fun _ => False) w8 w' → w'.cell? ⟨b, o + a * 2 + 1, none⟩ = some (.slice (some ⟨mb, mo, none⟩) l[a].moves.length cm) ∧ w'.cell? ⟨W.heap.size, 0, none⟩ = some (.int .i64 m.to) ∧ w'.cell? ⟨W.heap.size, 1, none⟩ = some (.int .i64 m.gain) := fun u =>
                ⟨cell_kept k1 (u.block b hbl id), cell_kept e0 (u.block _ hml id), cell_kept e1 (u.block _ hml id)⟩
              have KA1 := keepS UA1.out; have KA3 := keepS UA3.out; have KA2 := keepS UA2.out; have KB1 := keepS UB1.out; have KB2 := keepS UB2.out; have KC1 := keepS UC1.out; have KC2 := keepS UC2.out
              unfold mvObj at KA3
              have hg8 : wr.heap.size ≤ g8 := (O8.out.lt g8 rfl).1
              have hne8 : b ≠ g8 := by omega
              have hnm8 : W.heap.size ≠ g8 := by have := heap_lt HB6.out; have := UR.out.size; omega
              have KS : ∀ {w' : World} {x : Value}, (w'.cell? ⟨b, o + a * 2 + 1, none⟩ = some (.slice (some ⟨mb, mo, none⟩) l[a].moves.length cm) ∧ w'.cell? ⟨W.heap.size, 0, none⟩ = some (.int .i64 m.to) ∧ w'.cell? ⟨W.heap.size, 1, none⟩ = some (.int .i64 m.gain)) → ((w'.setCell ⟨g8, a * 2 + 1, none⟩ x).cell? ⟨b, o + a * 2 + 1, none⟩ = some (.slice (some ⟨mb, mo, none⟩) l[a].moves.length cm) ∧ (w'.setCell ⟨g8, a * 2 + 1, none⟩ x).cell? ⟨W.heap.size, 0, none⟩ = some (.int .i64 m.to) ∧ (w'.setCell ⟨g8, a * 2 + 1, none⟩ x).cell? ⟨W.heap.size, 1, none⟩ = some (.int .i64 m.gain)) := fun h =>
                ⟨cell_kept h.1 (heap_setCell_other hne8), cell_kept h.2.1 (heap_setCell_other hnm8), cell_kept h.2.2 (heap_setCell_other hnm8)⟩
              have SA := KS (x := .slice (some ⟨ga2, 0, none⟩) (l[a].moves.length + 1) ca2) KA2
              have SB := KS (x := .slice (some ⟨gb2, 0, none⟩) (l[a].moves.length + 1) cb2) KB2
              have SC := KS (x := .slice (some ⟨gc2, 0, none⟩) (l[a].moves.length + 1) cc2) KC2
              clear KS
              have tok1 : True := trivial
              have pa1 : Ap1 mb mo l[a].moves.length cm _ _ _ _ _ := ra1
              have pa2 : Ap2 l[a].moves.length _ _ _ _ _ _ _ := ra2
              have pb1 : Ap1 mb mo l[a].moves.length cm _ _ _ _ _ := rb1
              have pb2 : Ap2 l[a].moves.length _ _ _ _ _ _ _ := rb2
              have pc1 : Ap1 mb mo l[a].moves.length cm _ _ _ _ _ := rc1
              have pc2 : Ap2 l[a].moves.length _ _ _ _ _ _ _ := rc2
              clear ra1 ra2 rb1 rb2 rc1 rc2
              clear fin keepS na nb nc hwf at8 u78 ua1 ub1 uc1 hmel hb8 r8
              go_wp2_with fail
              go_region_held3 (fun w' => w'.cell? ⟨b, o + a * 2 + 1, none⟩ = some (.slice (some ⟨mb, mo, none⟩) l[a].moves.length cm) ∧ w'.cell? ⟨W.heap.size, 0, none⟩ = some (.int .i64 m.to) ∧ w'.cell? ⟨W.heap.size, 1, none⟩ = some (.int .i64 m.gain))
                (first | exact ⟨k1, e0, e1⟩ | exact KA1 | exact KA2 | exact KA3 | exact KB1 | exact KB2 | exact KC1 | exact KC2 | exact SA | exact SB | exact SC | go_keep)
                ((first | (have _t := tok1; refine step_append_run rfl _ _ _ _ rfl rfl rfl (ap1 (mb := mb) (mo := mo) (n := l[a].moves.length) (cm := cm) (by with_reducible (first | exact pa1 | exact pb1 | exact pc1))) ?_; clear tok1 _t) | (refine step_append_run rfl _ _ _ _ rfl rfl rfl (ap2 (n := l[a].moves.length) (by with_reducible (first | exact pa2 | exact pb2 | exact pc2))) ?_)))
              all_goals
                go_wp2_with fail
                go_meet
                case rel => first | exact ⟨rfl, FA.out.2⟩ | exact ⟨rfl, FB.out.2⟩ | exact ⟨rfl, FC.out.2⟩
            case rest =>
              obtain ⟨rfl, hrep, uc⟩ := hcut
              have HGR := hid hrep
              have hg8 : wr.heap.size ≤ g8 := (O8.out.lt g8 rfl).1
              have UC := hid (U7.out.trans ((U8.out).comp uc fun g hg e => by omega))
              have BV9 := hid ((BV6.out.upd (UR.out.trans U8.out) id).upd uc (fun e => by have := BV6.out.lt; have := UR.out.size; omega))
              clear hg8
              clear hrep uc k1 n0 n1 r8
              go_wp2_with fail
              refine (right_any _ (grow l a m) _ HGR.out).mono ?_
              rintro e w9 ⟨rfl, u⟩
              have U9 := hid (UC.out.trans u); have U910 := hid u; have HG9 := hid (keep_nds HGR.out u)
              clear u
              cases hrg : right (grow l a m) with
              | false =>
                clear hrg
                go_wp2_with fail
                go_ret
                exact ⟨rfl, U9.out⟩
              | true =>
              have HRG := hid hrg; clear hrg
              go_wp2_with fail
              refine (value_any _ (grow l a m) _ HG9.out).mono ?_
              rintro e w10 hpost
              rw [ValuePost, if_pos HRG.out] at hpost
              obtain ⟨gx, he, hgx, hbx, u⟩ := hpost
              rw [grow_len] at he
              subst he
              have U10 := hid (U9.out.trans u); have BX := hid hbx
              have BV10 := hid ((BV9.out.upd U910.out id).upd u id)
              have n0 := cell_kept N0.out (U10.out.block b hb id)
              have SG := hid (grow_sg HP.out hal' hm0 HRG.out)
              have hnn : ((l.length : Int) != l.length) = false := by simp
              have hnn2 : (l.length != l.length) = false := by simp
              clear hgx hbx u
              generalize l[a].mine = mine at *
              go_wp2_with fail
              go_loopg [20] l.length (fun gg s20 wr => ∃ i, i ≤ l.length ∧ gg = l.length - i ∧ s20 = .int .i64 i ∧ Upd (fun _ => False) w10 wr)
              case atStart => exact ⟨0, Nat.zero_le _, rfl, rfl, Upd.refl _ _⟩
              case round =>
                obtain ⟨i, hi, hg, rfl, u⟩ := hrel
                have HG4 := hid hg; have UR4 := hid u
                have n0 := cell_kept n0 (u.block b (Nat.lt_of_lt_of_le hb U10.out.size) id)
                clear hg u
                by_cases hlt : i < l.length
                · have hlti : (i : Int) < l.length := by omega
                  have c1 := cell_kept (BV10.out.cell (k := i) (by rw [vlist_len]; exact hlt)) (UR4.out.block _ BV10.out.lt id)
                  have c2 := cell_kept (BX.out.cell (k := i) (by rw [vlist_len, grow_len]; exact hlt)) (UR4.out.block _ BX.out.lt id)
                  have sgi := SG.out i hlt
                  rw [geti_at' (by rw [vlist_len]; exact hlt)] at c1
                  rw [geti_at' (by rw [vlist_len, grow_len]; exact hlt)] at c2
                  generalize geti (vlist l) i = x at *
                  generalize geti (vlist (grow l a m)) i = y at *
                  cases mine
                  · have hxy : y ≤ x := by unfold sg at sgi; simp at sgi; omega
                    have hb1 : decide (x < y) = false := decide_eq_false (by omega)
                    clear sgi
                    go_wp2_with fail
                    go_quiet (fail)
                    go_wp2_with fail
                    go_roundg (l.length - (i + 1))
                    case measure => have := HG4.out; omega
                    case rel => exact ⟨i + 1, by omega, rfl, by go_num, UR4.out.drewN _⟩
                  · have hxy : x ≤ y := by unfold sg at sgi; simpa using sgi
                    have hb1 : decide (y < x) = false := decide_eq_false (by omega)
                    clear sgi
                    go_wp2_with fail
                    go_quiet (fail)
                    go_wp2_with fail
                    go_roundg (l.length - (i + 1))
                    case measure => have := HG4.out; omega
                    case rel => exact ⟨i + 1, by omega, rfl, by go_num, UR4.out.drewN _⟩
                · obtain rfl : i = l.length := by omega
                  go_wp2_with fail
                  go_ret
                  exact ⟨rfl, U10.out.trans UR4.out⟩
end Go.Proofs.Ytmjjfafkmfcpnaa
