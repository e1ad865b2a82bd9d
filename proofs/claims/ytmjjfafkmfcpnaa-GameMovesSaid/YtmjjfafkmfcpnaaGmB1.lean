/- Walks of the statements' helpers: moves, example, small. -/
import Derived.Test.YtmjjfafkmfcpnaaGmA9
namespace Go.Proofs.Ytmjjfafkmfcpnaa
open Go.RowKit Go.Deep

theorem mvs_of_block {A : Nat → Prop} {w : World} {b o cap : Nat} {l : List Mv} {cs : Array Value} {t : TypeId} (h : w.heap[b]? = some (.cells cs t (0, 0))) (hA : A b) (hc : l.length ≤ cap) (hm : cap ≤ maxLen)
    (hx : ∀ i (hi : i < l.length), cs[o + i * 2]? = some (.int .i64 l[i].to) ∧ cs[o + i * 2 + 1]? = some (.int .i64 l[i].gain) ∧ (Lit.int .i64 l[i].to).wf = true ∧ (Lit.int .i64 l[i].gain).wf = true) :
    (kSlice kMv).rep A w [.slice (some ⟨b, o, none⟩) l.length cap] l := by
  refine .inr ⟨b, o, cap, rfl, hc, hm, hA, fun i hi => ?_⟩
  obtain ⟨h1, h2, h3, h4⟩ := hx i hi
  refine ⟨[.int .i64 l[i].to] ++ [.int .i64 l[i].gain], ⟨_, _, rfl, ⟨rfl, h3⟩, ⟨rfl, h4⟩⟩, fun j hj => ?_⟩
  show w.cell? ⟨b, o + i * 2 + j, none⟩ = _
  rw [cell_of_block h]
  match j, hj with
  | 0, _ => exact h1
  | 1, _ => exact h2

theorem nds_of_block {A : Nat → Prop} {w : World} {b o cap : Nat} {l : List Nd} {cs : Array Value} {t : TypeId} (h : w.heap[b]? = some (.cells cs t (0, 0))) (hA : A b) (hc : l.length ≤ cap) (hm : cap ≤ maxLen)
    (hx : ∀ i (hi : i < l.length), cs[o + i * 2]? = some (.bool l[i].mine) ∧ ∃ v, cs[o + i * 2 + 1]? = some v ∧ (kSlice kMv).rep A w [v] l[i].moves) :
    (kSlice kNd).rep A w [.slice (some ⟨b, o, none⟩) l.length cap] l := by
  refine .inr ⟨b, o, cap, rfl, hc, hm, hA, fun i hi => ?_⟩
  obtain ⟨h1, v, h2, h3⟩ := hx i hi
  refine ⟨[.bool l[i].mine] ++ [v], ⟨[.bool l[i].mine], [v], rfl, (show [Value.bool l[i].mine] = [.bool l[i].mine] from rfl), h3⟩, fun j hj => ?_⟩
  show w.cell? ⟨b, o + i * 2 + j, none⟩ = _
  rw [cell_of_block h]
  match j, hj with
  | 0, _ => exact h1
  | 1, _ => exact h2

theorem moves_any (a x b y : Int) (w : World) :
    Calls Try.prog 30 #[.int .i64 a, .int .i64 x, .int .i64 b, .int .i64 y] w fun e w' => e = .returned (.slice (some ⟨w.heap.size, 0, none⟩) 2 2) ∧ w' = w.alloc (.cells #[.int .i64 a, .int .i64 x, .int .i64 b, .int .i64 y] 43 (0, 0)) := by
  go_enter Try.func30, Try.ntmps30
  go_wp2_with fail
  go_ret
  exact ⟨rfl, rfl⟩

def exL : List Nd := [⟨true, [⟨1, 5⟩, ⟨2, 0⟩]⟩, ⟨false, [⟨3, -4⟩, ⟨4, 1⟩]⟩, ⟨false, [⟨3, 2⟩, ⟨4, 3⟩]⟩, ⟨false, []⟩, ⟨true, []⟩]

def ExPost (w : World) (e : Ending) (w' : World) : Prop := ∃ g, e = .returned (.slice (some ⟨g, 0, none⟩) 5 5) ∧ w.heap.size ≤ g ∧ (kSlice kNd).rep (· < w'.heap.size) w' [.slice (some ⟨g, 0, none⟩) 5 5] exL ∧ Upd (fun _ => False) w w'

theorem pair_rep {w w' : World} {b : Nat} {a x c y : Int} (h : w.heap[b]? = some (.cells #[.int .i64 a, .int .i64 x, .int .i64 c, .int .i64 y] 43 (0, 0))) (u : Upd (fun _ => False) w w')
    (h1 : (Lit.int .i64 a).wf = true) (h2 : (Lit.int .i64 x).wf = true) (h3 : (Lit.int .i64 c).wf = true) (h4 : (Lit.int .i64 y).wf = true) :
    (kSlice kMv).rep (· < w'.heap.size) w' [.slice (some ⟨b, 0, none⟩) 2 2] [⟨a, x⟩, ⟨c, y⟩] := by
  have hlt := heap_lt h
  refine mvs_of_block (l := [⟨a, x⟩, ⟨c, y⟩]) ((u.block b hlt id).trans h) (Nat.lt_of_lt_of_le hlt u.size) (Nat.le_refl _) (by unfold maxLen; decide) fun i hi => ?_
  match i, hi with
  | 0, _ => exact ⟨rfl, rfl, h1, h2⟩
  | 1, _ => exact ⟨rfl, rfl, h3, h4⟩

set_option maxHeartbeats 1000000 in
theorem example_any (w : World) : Calls Try.prog 23 #[] w (ExPost w) := by
  go_enter Try.func23, Try.ntmps23
  go_wp2_with fail
  refine (moves_any 1 5 2 0 _).mono ?_
  rintro e w1 ⟨rfl, h1⟩
  have H1 := hid h1; clear h1
  go_wp2_with fail
  refine (moves_any 3 (-4) 4 1 _).mono ?_
  rintro e w2 ⟨rfl, h2⟩
  have H2 := hid h2; clear h2
  go_wp2_with fail
  refine (moves_any 3 2 4 3 _).mono ?_
  rintro e w3 ⟨rfl, h3⟩
  have H3 := hid h3; clear h3
  go_wp2_with fail
  go_ret
  have u1 : Upd (fun _ => False) w w1 := by rw [H1.out]; exact (Upd.refl _ _).alloc _
  have u2 : Upd (fun _ => False) w1 w2 := by rw [H2.out]; exact (Upd.refl _ _).alloc _
  have u3 : Upd (fun _ => False) w2 w3 := by rw [H3.out]; exact (Upd.refl _ _).alloc _
  have k1 : w1.heap[w.heap.size]? = _ := H1.out ▸ heap_alloc_new
  have k2 : w2.heap[w1.heap.size]? = _ := H2.out ▸ heap_alloc_new
  have k3 : w3.heap[w2.heap.size]? = _ := H3.out ▸ heap_alloc_new
  generalize hW : w3.alloc _ = W
  have u4 : Upd (fun _ => False) w3 W := by rw [← hW]; exact (Upd.refl _ _).alloc _
  have k4 : W.heap[w3.heap.size]? = some (.cells #[.bool true, .slice (some ⟨w.heap.size, 0, none⟩) 2 2, .bool false, .slice (some ⟨w1.heap.size, 0, none⟩) 2 2, .bool false, .slice (some ⟨w2.heap.size, 0, none⟩) 2 2, .bool false, .slice none 0 0, .bool true, .slice none 0 0] 41 (0, 0)) := by
    rw [← hW]; exact heap_alloc_new
  refine ⟨w3.heap.size, rfl, Nat.le_trans u1.size (Nat.le_trans u2.size u3.size), ?_, u1.trans (u2.trans (u3.trans u4))⟩
  refine nds_of_block (l := exL) k4 (heap_lt k4) (Nat.le_refl _) (by unfold maxLen; decide) fun i hi => ?_
  match i, hi with
  | 0, _ => exact ⟨rfl, _, rfl, pair_rep k1 (u2.trans (u3.trans u4)) (by decide) (by decide) (by decide) (by decide)⟩
  | 1, _ => exact ⟨rfl, _, rfl, pair_rep k2 (u3.trans u4) (by decide) (by decide) (by decide) (by decide)⟩
  | 2, _ => exact ⟨rfl, _, rfl, pair_rep k3 u4 (by decide) (by decide) (by decide) (by decide)⟩
  | 3, _ => exact ⟨rfl, _, rfl, .inl ⟨none, 0, rfl, Nat.zero_le _, rfl⟩⟩
  | 4, _ => exact ⟨rfl, _, rfl, .inl ⟨none, 0, rfl, Nat.zero_le _, rfl⟩⟩

theorem lit_ints (w : World) (l : List Int) (h : ∀ x ∈ l, (Lit.int .i64 x).wf = true) (hm : l.length ≤ 1000) :
    kInts.rep (· < (w.alloc (.cells (l.map (Value.int .i64)).toArray 3 (0, 0))).heap.size) (w.alloc (.cells (l.map (Value.int .i64)).toArray 3 (0, 0))) [.slice (some ⟨w.heap.size, 0, none⟩) l.length l.length] l := by
  have hb : IntsBlk (w.alloc (.cells (l.map (Value.int .i64)).toArray 3 (0, 0))) w.heap.size l := heap_alloc_new
  exact hb.rep h (Nat.le_refl _) (by unfold maxLen; omega) hb.lt

theorem ex_right : right exL = true := by decide
theorem ex_v : vlist exL = [2, -4, 2, 0, 0] := by decide
theorem ex_c : proveC exL = [-1, 0, 0, -1, -1] := by decide
theorem ex_b : bestB exL = [1, -1, -1, -1, -1] := by decide
theorem ex_play : (playF exL [0, 0, 0, 0, 0] [0, 1, 0, 0, 0] exL.length 0).1 = 6 ∧ pathI exL [0, 0, 0, 0, 0] [0, 1, 0, 0, 0] = [0, 1, 4] ∧ playOk exL [0, 0, 0, 0, 0] [0, 1, 0, 0, 0] = true := by decide
theorem ex_rp : RightP exL := (right_iff _).1 ex_right
theorem ex_len : exL.length = 5 := rfl

set_option maxRecDepth 100000 in
set_option maxHeartbeats 1000000 in
theorem small_any (w : World) : Calls Try.prog 8 #[] w fun e w' => e = .returned (.bool true) ∧ Upd (fun _ => False) w w' := by
  go_enter Try.func8, Try.ntmps8
  go_wp2_with fail
  refine (example_any _).mono ?_
  rintro e w1 ⟨g, rfl, _, hn, u⟩
  have HN := hid hn; have U := hid u; clear hn u
  go_wp2_with fail
  refine (value_any _ exL _ HN.out).mono ?_
  intro e w2 hp
  unfold ValuePost at hp
  rw [if_pos ex_right, ex_len] at hp
  obtain ⟨gv, rfl, _, hv, u⟩ := hp
  have HN2 := hid (keep_nds HN.out u); have U2 := hid (U.out.trans u); have HV := hid (ex_v ▸ hv)
  clear u hv HN U
  go_wp2_with fail
  refine (prove_any _ exL _ HN2.out).mono ?_
  intro e w3 hp
  unfold ProvePost at hp
  rw [if_pos ex_right, ex_len] at hp
  obtain ⟨gp, gc, rfl, _, _, _, hpv, hpc, u⟩ := hp
  have hcb : (w3.alloc (.cells #[.slice (some ⟨gp, 0, none⟩) 5 5, .slice (some ⟨gc, 0, none⟩) 5 5] 25 (0, 0))).heap[w3.heap.size]? = some (.cells #[.slice (some ⟨gp, 0, none⟩) 5 5, .slice (some ⟨gc, 0, none⟩) 5 5] 25 (0, 0)) := heap_alloc_new
  have ua := (Upd.refl (fun _ => False) w3).alloc (.cells #[.slice (some ⟨gp, 0, none⟩) 5 5, .slice (some ⟨gc, 0, none⟩) 5 5] 25 (0, 0))
  have HN3 := hid (keep_nds HN2.out (u.trans ua)); have U3 := hid (U2.out.trans (u.trans ua)); have HV3 := hid (HV.out.upd (u.trans ua) id); have HPV := hid (hpv.upd ua id); have HPC := hid (hpc.upd ua id)
  have HCB := hid hcb
  clear u hpv hpc HN2 U2 HV ua hcb
  go_wp2_with fail
  refine (best_any _ exL _ HN3.out).mono ?_
  intro e w4 hp
  unfold BestPost at hp
  rw [if_pos ex_right, ex_len] at hp
  obtain ⟨gb, rfl, _, hb, u⟩ := hp
  have hcb := (u.block _ (heap_lt HCB.out) id).trans HCB.out
  have HCB4 := hid hcb
  have HN4 := hid (keep_nds HN3.out u); have U4 := hid (U3.out.trans u); have HV4 := hid (HV3.out.upd u id); have HPV4 := hid (HPV.out.upd u id); have HPC4 := hid (HPC.out.upd u id)
  have HB4 := hid (ex_b ▸ hb)
  clear u hb hcb HN3 U3 HV3 HPV HPC HCB
  have l1 := lit_ints w4 [0, 0, 0, 0, 0] (by decide) (by decide)
  have l2 := lit_ints (w4.alloc (.cells #[.int .i64 0, .int .i64 0, .int .i64 0, .int .i64 0, .int .i64 0] 3 (0, 0))) [0, 1, 0, 0, 0] (by decide) (by decide)
  have ub := ((Upd.refl (fun _ => False) w4).alloc (.cells #[.int .i64 0, .int .i64 0, .int .i64 0, .int .i64 0, .int .i64 0] 3 (0, 0)))
  have uc := ((Upd.refl (fun _ => False) (w4.alloc (.cells #[.int .i64 0, .int .i64 0, .int .i64 0, .int .i64 0, .int .i64 0] 3 (0, 0)))).alloc (.cells #[.int .i64 0, .int .i64 1, .int .i64 0, .int .i64 0, .int .i64 0] 3 (0, 0)))
  have L1 := hid (keep_ints l1 uc); have L2 := hid l2
  have HN5 := hid (keep_nds HN4.out (ub.trans uc))
  have UBC := hid (ub.trans uc)
  clear l1 l2 ub uc
  go_wp2_with fail
  refine (play_any _ _ _ exL [0, 0, 0, 0, 0] [0, 1, 0, 0, 0] _ HN5.out L1.out (by simpa using L2.out)).mono ?_
  intro e w5 hp
  unfold PlayPost at hp
  rw [if_pos ex_play.2.2, ex_play.1, ex_play.2.1] at hp
  obtain ⟨vp, rfl, hpp, u⟩ := hp
  have ud := UBC.out.trans u
  have hcb := (ud.block _ (heap_lt HCB4.out) id).trans HCB4.out
  have HCB5 := hid hcb
  have HPP := hid (kInts.mono hpp fun x hx => hx.2)
  have HN5 := hid (keep_nds HN4.out ud); have U5 := hid (U4.out.trans ud); have HV5 := hid (HV4.out.upd ud id); have HPV5 := hid (HPV4.out.upd ud id); have HPC5 := hid (HPC4.out.upd ud id); have HB5 := hid (HB4.out.upd ud id)
  clear u hpp hcb ud HN4 U4 HV4 HPV4 HPC4 HB4 HCB4 L1 L2 UBC
  obtain ⟨ap, np, cp, rfl, _, _, _⟩ : ∃ a n c, vp = .slice a n c ∧ True ∧ True ∧ True := by
    obtain ⟨a, c, e, _⟩ := slice_open HPP.out
    exact ⟨a, _, c, e, trivial, trivial, trivial⟩
  go_wp2_with fail
  refine (right_any _ exL _ HN5.out).mono ?_
  rintro e w6 ⟨rfl, u⟩
  rw [ex_right]
  have hcb := (u.block _ (heap_lt HCB5.out) id).trans HCB5.out
  have HCB6 := hid hcb
  have HN6 := hid (keep_nds HN5.out u); have U6 := hid (U5.out.trans u); have HV6 := hid (HV5.out.upd u id); have HPV6 := hid (HPV5.out.upd u id); have HPC6 := hid (HPC5.out.upd u id); have HB6 := hid (HB5.out.upd u id); have HPP6 := hid (keep_ints HPP.out u)
  clear u hcb HN5 U5 HV5 HPV5 HPC5 HB5 HCB5 HPP
  have l1 := lit_ints w6 [2, -4, 2, 0, 0] (by decide) (by decide)
  have ub := ((Upd.refl (fun _ => False) w6).alloc (.cells #[.int .i64 2, .int .i64 (-4), .int .i64 2, .int .i64 0, .int .i64 0] 3 (0, 0)))
  have hv7 := (HV6.out.upd ub id)
  have R1 := hid (hv7.rep (A := (· < _)) (cap := 5) (by decide) (Nat.le_refl _) (by unfold maxLen; decide) hv7.lt)
  have L1 := hid l1; have UB := hid ub
  clear l1 ub hv7
  go_wp2_with fail
  refine (ints_any _ _ [2, -4, 2, 0, 0] [2, -4, 2, 0, 0] _ R1.out L1.out).mono ?_
  rintro e w7 ⟨rfl, u⟩
  have ud := UB.out.trans u
  have hcb := (ud.block _ (heap_lt HCB6.out) id).trans HCB6.out
  have HCB7 := hid hcb
  obtain ⟨c0, c1, _⟩ := cells2 hcb
  have HN7 := hid (keep_nds HN6.out ud); have U7 := hid (U6.out.trans ud); have HPV7 := hid (HPV6.out.upd ud id); have HPC7 := hid (HPC6.out.upd ud id); have HB7 := hid (HB6.out.upd ud id); have HPP7 := hid (keep_ints HPP6.out ud)
  clear u ud hcb HN6 U6 HV6 HPV6 HPC6 HB6 HCB6 HPP6 R1 L1 UB
  rw [decide_eq_true rfl]
  have l1 := lit_ints w7 [-1, 0, 0, -1, -1] (by decide) (by decide)
  have ub := ((Upd.refl (fun _ => False) w7).alloc (.cells #[.int .i64 (-1), .int .i64 0, .int .i64 0, .int .i64 (-1), .int .i64 (-1)] 3 (0, 0)))
  have hv7 := ((ex_c ▸ HPC7.out : IntsBlk w7 gc [-1, 0, 0, -1, -1]).upd ub id)
  have R1 := hid (hv7.rep (A := (· < _)) (cap := 5) (by decide) (Nat.le_refl _) (by unfold maxLen; decide) hv7.lt)
  have L1 := hid l1; have UB := hid ub
  clear l1 ub hv7
  go_wp2_with fail
  refine (ints_any _ _ [-1, 0, 0, -1, -1] [-1, 0, 0, -1, -1] _ R1.out L1.out).mono ?_
  rintro e w8 ⟨rfl, u⟩
  have ud := UB.out.trans u
  have HCB8 := hid ((ud.block _ (heap_lt HCB7.out) id).trans HCB7.out)
  have HN8 := hid (keep_nds HN7.out ud); have U8 := hid (U7.out.trans ud); have HPV8 := hid (HPV7.out.upd ud id); have HPC8 := hid (HPC7.out.upd ud id); have HB8 := hid (HB7.out.upd ud id); have HPP8 := hid (keep_ints HPP7.out ud)
  clear u ud HN7 U7 HPV7 HPC7 HB7 HCB7 HPP7 R1 L1 UB c0 c1
  rw [decide_eq_true rfl]
  have l1 := lit_ints w8 [1, -1, -1, -1, -1] (by decide) (by decide)
  have ub := ((Upd.refl (fun _ => False) w8).alloc (.cells #[.int .i64 1, .int .i64 (-1), .int .i64 (-1), .int .i64 (-1), .int .i64 (-1)] 3 (0, 0)))
  have hv7 := (HB8.out.upd ub id)
  have R1 := hid (hv7.rep (A := (· < _)) (cap := 5) (by decide) (Nat.le_refl _) (by unfold maxLen; decide) hv7.lt)
  have L1 := hid l1; have UB := hid ub
  clear l1 ub hv7
  go_wp2_with fail
  refine (ints_any _ _ [1, -1, -1, -1, -1] [1, -1, -1, -1, -1] _ R1.out L1.out).mono ?_
  rintro e w9 ⟨rfl, u⟩
  have ud := UB.out.trans u
  have HCB9 := hid ((ud.block _ (heap_lt HCB8.out) id).trans HCB8.out)
  have HN9 := hid (keep_nds HN8.out ud); have U9 := hid (U8.out.trans ud); have HPV9 := hid (HPV8.out.upd ud id); have HPC9 := hid (HPC8.out.upd ud id); have HPP9 := hid (keep_ints HPP8.out ud)
  clear u ud HN8 U8 HPV8 HPC8 HB8 HCB8 HPP8 R1 L1 UB
  rw [decide_eq_true rfl]
  have l1 := lit_ints w9 [0, 1, 4] (by decide) (by decide)
  have ub := ((Upd.refl (fun _ => False) w9).alloc (.cells #[.int .i64 0, .int .i64 1, .int .i64 4] 3 (0, 0)))
  have R1 := hid (keep_ints HPP9.out ub)
  have L1 := hid l1; have UB := hid ub
  clear l1 ub
  go_wp2_with fail
  refine (ints_any _ _ [0, 1, 4] [0, 1, 4] _ R1.out L1.out).mono ?_
  rintro e wa ⟨rfl, u⟩
  have ud := UB.out.trans u
  have hcb := (ud.block _ (heap_lt HCB9.out) id).trans HCB9.out
  obtain ⟨c0, c1, _⟩ := cells2 hcb
  have HNa := hid (keep_nds HN9.out ud); have Ua := hid (U9.out.trans ud); have hpv := (HPV9.out.upd ud id); have hpc := (HPC9.out.upd ud id)
  have R1 := hid (hpv.rep (A := (· < wa.heap.size)) (cap := 5) (by rw [ex_v]; decide) (by rw [ex_v]; decide) (by unfold maxLen; decide) hpv.lt)
  have R2 := hid (hpc.rep (A := (· < wa.heap.size)) (cap := 5) (by rw [ex_c]; decide) (by rw [ex_c]; decide) (by unfold maxLen; decide) hpc.lt)
  clear u ud hcb hpv hpc HN9 U9 HPV9 HPC9 HCB9 HPP9 UB L1
  rw [decide_eq_true rfl]
  go_wp2_with fail
  refine (check_any _ _ _ exL (vlist exL) (proveC exL) _ HNa.out R1.out R2.out).mono ?_
  rintro e wb ⟨n, rfl, _, hn, u⟩
  obtain rfl : n = 0 := (hn ex_right).2.2 (prove_holds ex_rp)
  have HNb := hid (keep_nds HNa.out u); have Ub := hid (Ua.out.trans u)
  clear hn u HNa Ua R1 R2 c0 c1
  go_wp2_with fail
  refine (check_any _ _ _ exL [] [] _ HNb.out (.inl ⟨none, 0, rfl, Nat.zero_le _, rfl⟩) (.inl ⟨none, 0, rfl, Nat.zero_le _, rfl⟩)).mono ?_
  rintro e wc ⟨n, rfl, _, hn, u⟩
  obtain rfl : n = 21 := by
    obtain ⟨h1, h2⟩ := hn ex_right
    rcases h1 with h1 | h1
    · exact absurd (h2.1 h1).1 (by decide)
    · exact h1
  have Uc := hid (Ub.out.trans u)
  clear hn u
  go_wp2_with fail
  go_ret
  exact ⟨rfl, Uc.out⟩
theorem vlist_wf {l : List Nd} (hr : RightP l) : ∀ x ∈ vlist l, (Lit.int .i64 x).wf = true := by
  intro x hx
  obtain ⟨i, hi, rfl⟩ := List.mem_iff_getElem.1 hx
  rw [geti_at' hi]
  have := vlist_bound hr i
  rw [show maxGain = 1099511627776 from rfl] at this
  exact iwf (by omega)
theorem mlist_small {l : List Nd} (hr : RightP l) (i : Nat) (hi : i < l.length) : -1 ≤ geti (mlist l) i ∧ geti (mlist l) i ≤ 8 := by
  have hnd := List.getElem?_eq_getElem hi
  obtain ⟨s1, s2⟩ := vlist_spec hr hnd
  by_cases hn : l[i].moves = []
  · rw [(s1 hn).2]; omega
  · obtain ⟨j, m, hj, _, e, _⟩ := s2 hn
    have := (List.getElem?_eq_some_iff.1 hj).1
    have := hr.len i _ hnd
    rw [e]; omega
theorem ofSide_wf {l : List Nd} (hr : RightP l) (side : Bool) : ∀ x ∈ ofSide side l (mlist l), (Lit.int .i64 x).wf = true := by
  intro x hx
  obtain ⟨i, hi, rfl⟩ := List.mem_iff_getElem.1 hx
  rw [geti_at' hi]
  rw [ofSide_len _ _ _ (mlist_len l)] at hi
  rw [ofSide_at side l (mlist l) i l[i] (mlist_len l) (List.getElem?_eq_getElem hi)]
  have := mlist_small hr i hi
  split <;> exact iwf (by omega)
theorem proveC_wf {l : List Nd} (hr : RightP l) : ∀ x ∈ proveC l, (Lit.int .i64 x).wf = true := ofSide_wf hr false
theorem bestB_wf {l : List Nd} (hr : RightP l) : ∀ x ∈ bestB l, (Lit.int .i64 x).wf = true := ofSide_wf hr true
end Go.Proofs.Ytmjjfafkmfcpnaa
