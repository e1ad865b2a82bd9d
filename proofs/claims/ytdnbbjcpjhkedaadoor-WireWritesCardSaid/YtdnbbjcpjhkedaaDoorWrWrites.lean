/- The walk of WireWrites. -/
import Derived.Test.YtdnbbjcpjhkedaaDoorWrR2
import Derived.Test.YtdnbbjcpjhkedaaDoorWrPrefix
namespace Go.Proofs.YtdnbbjcpjhkedaaDoor
open Go.RowKit Go.Deep

set_option maxRecDepth 100000 in
set_option maxHeartbeats 4000000 in
theorem writes_walk (cs1 : Array Value) (v : Vl) (W : World) (E : Env W) (hz : 6 ≤ W.heap.size) (h1 : kVl.rep (· < W.heap.size) W cs1.toList v) :
    Calls Tryd.prog 3 #[.agg cs1] W fun e w' => e = .returned (.bool true) ∧ Below W.heap.size W w' := by
  suffices hs : Calls Tryd.prog 3 #[.agg cs1] W fun e w' => e = .returned (.bool true) ∧ Upd (fun _ => False) W w' from hs.mono fun e w' h => ⟨h.1, h.2.below (Nat.le_refl _) fun _ h => h.elim⟩
  have HE := hid E; have HZ := hid hz
  obtain ⟨a1, c1, d1, f1, e1, p1, p2, p3, p4, p5, p6, p7, p8, p9⟩ := vl_open h1
  rw [e1] at h1
  obtain rfl := agg5 e1
  clear e1
  have OK1 := hid (fun (h : fewB [v] = true) => (⟨vlOk_of p5 p6 (ints_i64 p8) (few_one h), few_one h⟩ : VlOk v ∧ FewV v))
  have RV := hid h1; have LV := hid p8; have TV := hid p9
  have p2 : c1 ≤ 9223372036854775807 := p2
  have p4 : f1 ≤ 9223372036854775807 := p4
  have p7 : v.s.length ≤ 9223372036854775807 := p7
  have u0 := (Upd.refl (fun _ => False) W).alloc (.cells #[.int .i64 v.kind, .int .i64 v.n, .string ⟨v.s.toArray⟩, .slice a1 v.l.length c1, .slice d1 v.t.length f1] 25 (0, 0))
  have b0 : (W.alloc (.cells #[.int .i64 v.kind, .int .i64 v.n, .string ⟨v.s.toArray⟩, .slice a1 v.l.length c1, .slice d1 v.t.length f1] 25 (0, 0))).heap[W.heap.size]? = some (.cells #[.int .i64 v.kind, .int .i64 v.n, .string ⟨v.s.toArray⟩, .slice a1 v.l.length c1, .slice d1 v.t.length f1] 25 (0, 0)) := heap_alloc_new
  have U0 := hid u0; have B0 := hid b0
  clear u0 h1 p5 p6 p8 p9 E hz p1 p3 b0
  go_enter Tryd.func3, Tryd.ntmps3
  go_wp2_with fail
  refine (small_any _ (HE.out.keep0 U0.out) (Nat.le_trans HZ.out U0.out.size)).mono ?_
  rintro e w1 ⟨rfl, u⟩
  have U1 := hid (U0.out.trans u)
  have hb0 := (u.block _ (heap_lt B0.out) id).trans B0.out
  have RV1 := hid (rep_keep RV.out U1.out)
  have BB0 := hid hb0
  obtain ⟨v0, v1, v2, v3, v4, _⟩ := cells5 hb0
  clear u hb0 B0 U0
  go_wp2_with fail
  refine (fewE_any _ [v] _ (one_rep (w := w1) (t := 25) RV1.out ((Upd.refl _ _).alloc _) heap_alloc_new)).mono ?_
  rintro e w2 ⟨rfl, u⟩
  have U2 := hid (U1.out.trans (((Upd.refl _ _).alloc _).trans u))
  have hb0 := ((((Upd.refl (fun _ => False) _).alloc _).trans u).block _ (heap_lt BB0.out) id).trans BB0.out
  clear v0 v1 v2 v3 v4 u
  cases hf1 : fewB [v] with
  | false =>
    clear hf1 hb0
    go_wp2_with fail
    go_ret
    exact ⟨rfl, U2.out⟩
  | true =>
  have VOK := hid (OK1.out hf1)
  have HN := hid VOK.out.1.n; have HS := hid VOK.out.1.s
  have HE1 := hid (HE.out.keep0 U2.out)
  have B2 := hid hb0
  obtain ⟨_, m1, m2, _, _, _⟩ := cells5 hb0
  clear hf1 hb0
  go_upto_region 4 with (fail)
  first | (go_region_held3 (fun w' => w'.cell? ⟨W.heap.size, 1, none⟩ = some (.int .i64 v.n) ∧ w'.cell? ⟨W.heap.size, 2, none⟩ = some (.string ⟨v.s.toArray⟩)) (first | go_keep | exact ⟨cell_kept (w := w2) m1 (Y6.out.block _ (World.block_lt_of_cell? _ _ m1) id), cell_kept (w := w2) m2 (Y6.out.block _ (World.block_lt_of_cell? _ _ m2) id)⟩ | exact ⟨cell_kept (w := w2) m1 (Y5.out.block _ (World.block_lt_of_cell? _ _ m1) id), cell_kept (w := w2) m2 (Y5.out.block _ (World.block_lt_of_cell? _ _ m2) id)⟩ | exact ⟨cell_kept (w := w2) m1 (Y4.out.block _ (World.block_lt_of_cell? _ _ m1) id), cell_kept (w := w2) m2 (Y4.out.block _ (World.block_lt_of_cell? _ _ m2) id)⟩ | exact ⟨cell_kept (w := w2) m1 (Y3.out.block _ (World.block_lt_of_cell? _ _ m1) id), cell_kept (w := w2) m2 (Y3.out.block _ (World.block_lt_of_cell? _ _ m2) id)⟩ | exact ⟨cell_kept (w := w2) m1 (Y2.out.block _ (World.block_lt_of_cell? _ _ m1) id), cell_kept (w := w2) m2 (Y2.out.block _ (World.block_lt_of_cell? _ _ m2) id)⟩ | exact ⟨cell_kept (w := w2) m1 (Y1.out.block _ (World.block_lt_of_cell? _ _ m1) id), cell_kept (w := w2) m2 (Y1.out.block _ (World.block_lt_of_cell? _ _ m2) id)⟩) (first | (go_at_call 11; refine (numE_any v.n HN.out _ (HE1.out.keep0 (Upd.drew (Upd.refl _ _)))).mono ?_; rintro e wx1 ⟨rfl, u⟩; have Y1 : Hid (Upd (fun _ => False) w2 wx1) := hid (Upd.trans (Upd.drew (Upd.refl _ _)) u); clear u) | (go_at_call 12; refine (qNum_any v.n HN.out _).mono ?_; rintro e wx2 ⟨rfl, u⟩; have Y2 : Hid (Upd (fun _ => False) w2 wx2) := hid (Upd.trans Y1.out u); clear u) | (go_at_call 13; refine (intE_any v.n HN.out _ (HE1.out.keep0 Y2.out)).mono ?_; rintro e wx3 ⟨rfl, u⟩; have Y3 : Hid (Upd (fun _ => False) w2 wx3) := hid (Upd.trans Y2.out u); clear u) | (go_at_call 14; refine (qInt_any v.n HN.out _).mono ?_; rintro e wx4 ⟨rfl, u⟩; have Y4 : Hid (Upd (fun _ => False) w2 wx4) := hid (Upd.trans Y3.out u); clear u) | (go_at_call 15; refine (textE_any v.s HS.out _ (HE1.out.keep0 Y4.out)).mono ?_; rintro e wx5 ⟨rfl, u⟩; have Y5 : Hid (Upd (fun _ => False) w2 wx5) := hid (Upd.trans Y4.out u); clear u) | (go_at_call 16; refine (qText_any v.s HS.out _).mono ?_; rintro e wx6 ⟨rfl, u⟩; have Y6 : Hid (Upd (fun _ => False) w2 wx6) := hid (Upd.trans Y5.out u); clear u))) | fail
  have HE2 := hid (HE1.out.keep0 Y6.out)
  have U6 := hid (U2.out.trans Y6.out)
  have HL := hid (rep_keep LV.out U6.out); have HT := hid (rep_keep TV.out U6.out)
  have hb0 := (Y6.out.block _ (heap_lt B2.out) id).trans B2.out
  clear m1 m2 Y1 Y2 Y3 Y4 Y5 Y6
  obtain ⟨_, _, _, m3, m4, _⟩ := cells5 hb0
  clear hb0
  go_upto_region 5 with (fail)
  first | (go_region_held3 (fun w' => w'.cell? ⟨W.heap.size, 3, none⟩ = some (.slice a1 v.l.length c1) ∧ w'.cell? ⟨W.heap.size, 4, none⟩ = some (.slice d1 v.t.length f1)) (first | go_keep | exact ⟨cell_kept (w := wx6) m3 (Z4.out.block _ (World.block_lt_of_cell? _ _ m3) id), cell_kept (w := wx6) m4 (Z4.out.block _ (World.block_lt_of_cell? _ _ m4) id)⟩ | exact ⟨cell_kept (w := wx6) m3 (Z3.out.block _ (World.block_lt_of_cell? _ _ m3) id), cell_kept (w := wx6) m4 (Z3.out.block _ (World.block_lt_of_cell? _ _ m4) id)⟩ | exact ⟨cell_kept (w := wx6) m3 (Z2.out.block _ (World.block_lt_of_cell? _ _ m3) id), cell_kept (w := wx6) m4 (Z2.out.block _ (World.block_lt_of_cell? _ _ m4) id)⟩ | exact ⟨cell_kept (w := wx6) m3 (Z1.out.block _ (World.block_lt_of_cell? _ _ m3) id), cell_kept (w := wx6) m4 (Z1.out.block _ (World.block_lt_of_cell? _ _ m4) id)⟩) (first | (go_at_call 17; refine (numsE_any _ v.l _ (HE2.out.keep0 (Upd.drew (Upd.refl _ _))) (rep_keep HL.out (Upd.drew (Upd.refl _ _))) VOK.out.1.l VOK.out.1.lb).mono ?_; rintro e wz1 ⟨rfl, u⟩; have Z1 : Hid (Upd (fun _ => False) wx6 wz1) := hid (Upd.trans (Upd.drew (Upd.refl _ _)) u); clear u) | (go_at_call 18; refine (qNums_any _ v.l _ (rep_keep HL.out Z1.out) VOK.out.1.l VOK.out.1.lb).mono ?_; rintro e wz2 ⟨rfl, u⟩; have Z2 : Hid (Upd (fun _ => False) wx6 wz2) := hid (Upd.trans Z1.out u); clear u) | (go_at_call 19; refine (textsE_any _ v.t _ (HE2.out.keep0 Z2.out) (rep_keep HT.out Z2.out) VOK.out.1.t VOK.out.1.tb).mono ?_; rintro e wz3 ⟨rfl, u⟩; have Z3 : Hid (Upd (fun _ => False) wx6 wz3) := hid (Upd.trans Z2.out u); clear u) | (go_at_call 20; refine (qTexts_any _ v.t _ (rep_keep HT.out Z3.out) VOK.out.1.t VOK.out.1.tb).mono ?_; rintro e wz4 ⟨rfl, u⟩; have Z4 : Hid (Upd (fun _ => False) wx6 wz4) := hid (Upd.trans Z3.out u); clear u))) | fail
  go_wp2_with fail
  go_ret
  exact ⟨rfl, U6.out.trans Z4.out⟩
end Go.Proofs.YtdnbbjcpjhkedaaDoor
