/- Walks: an entry of a history (Entry). -/
import Derived.Test.YtalhmpggpjbeaaaGreatDoorJ11
import Derived.Test.YtalhmpggpjbeaaaGreatDoorJ13
import Derived.Test.YtalhmpggpjbeaaaGreatDoorJ10
import Derived.Test.YtalhmpggpjbeaaaGreatDoorJ4
import Derived.Test.YtalhmpggpjbeaaaGreatDoorJ3
import Derived.Test.YtalhmpggpjbeaaaGreatDoorJ8
import Derived.Laws.ResultCell
namespace Go.Proofs.YtalhmpggpjbeaaaGreatDoor
open Go.RowKit Go.Deep

theorem ints_cells {A : Nat → Prop} {w : World} {ad : Addr} {n c : Nat} {l : List Int} (h : kInts.rep A w [.slice (some ad) n c] l) : ∀ j u, (l.map fun x => Value.int .i64 x)[j]? = some u → w.cell? (ad.add j) = some u := by
  intro j u hj
  rcases Nat.eq_zero_or_pos l.length with h0 | hp
  · rw [List.length_eq_zero_iff.1 h0] at hj; cases hj
  · obtain ⟨a, cap, e, _, _, h3⟩ := slice_open h
    obtain ⟨b, o, e2, _, hel⟩ := h3 hp
    injection e with e _ _
    rw [e2] at e
    cases e
    rw [List.getElem?_map] at hj
    obtain ⟨x, hx, rfl⟩ := Option.map_eq_some_iff.1 hj
    obtain ⟨hl, rfl⟩ := List.getElem?_eq_some_iff.1 hx
    have e1 : Addr.add ⟨b, o, none⟩ j = ⟨b, o + j, none⟩ := by unfold Addr.add; split <;> simp_all
    rw [e1]
    exact int_cells hel hl
set_option maxRecDepth 100000 in
set_option maxHeartbeats 2000000 in
theorem cloneI_any (A : Nat → Prop) (a : Option Addr) (c : Nat) (l : List Int) (w : World) (hl : kInts.rep A w [.slice a l.length c] l) (hlen : l.length ≤ 100000000) :
    Calls Tryz.prog 96 #[.slice a l.length c] w (IntsPost l w) := by
  have q22 : ∀ (w : World) (a : Option Addr) (n c n' c' : Nat), (binOp .eql 31 (.slice a n c) (.slice none n' c')).run Tryz.prog w = .ok (.bool a.isNone) w := fun w a n c n' c' => Lib.run_eql_slice_nil w _ _ a n c n' c' Tryz.underlying31
  cases a with
  | none =>
    have h0 : l = [] := by
      rcases Nat.eq_zero_or_pos l.length with h | h
      · exact List.length_eq_zero_iff.1 h
      · obtain ⟨_, _, e, _⟩ := slice_at hl h; cases e
    have H0 := hid h0
    clear hl
    go_enter Tryz.func96, Tryz.ntmps96
    go_wp2_with fail
    go_ret
    rw [H0.out]
    exact ⟨_, rfl, World.ownsRow_nil _ _ _ _, Upd.refl _ _⟩
  | some ad =>
    have hne := ints_cells hl
    have u0 : Upd (fun _ => False) w (w.alloc (.cells #[] 3 (0, 0))) := (Upd.refl _ _).alloc _
    obtain ⟨v', w1, hr, ho, hgr, _⟩ := append_own2 elemI (World.ownsRow_made w #[] 0 (Nat.le_refl _) (Nat.zero_le _) (by simp)) ad l.length c (l.map fun x => Value.int .i64 x) (by simp) (fun j u hj => Lib.cell?_alloc_some _ (hne j u hj)) (by simp [Value.oneCell']) (by unfold maxLen; omega) (by omega) (by simp) 31
    have HO := hid ho; have HU := hid (u0.grown hgr fun k hk => .inr (by cases hk; exact Nat.le_refl _))
    clear hne hl ho hgr u0
    go_enter Tryz.func96, Tryz.ntmps96
    go_wp2_with (at_builtin; refine wpList_append_run rfl _ _ _ _ rfl rfl rfl hr ?_)
    go_ret
    exact ⟨v', rfl, by have := HO.out; simpa using this, HU.out⟩
theorem node_en {w : World} {g o : Nat} {c : NdC} (h : NodeAt w g o c) : (Instr.loadAt 39 (.pointer (some ⟨g, o + 3, none⟩))).run Tryz.prog w = .ok (.agg (en13 c.n.en c.a1 c.a2 c.a3 c.c1 c.c2 c.c3)) w := by
  obtain ⟨_, _, _, n3, n4, n5, n6, n7, n8, n9, n10, n11, n12, n13, n14, n15, _, _⟩ := h
  have n4 : w.cell? ⟨g, o + 3 + 1, none⟩ = _ := n4
  have n5 : w.cell? ⟨g, o + 3 + 2, none⟩ = _ := n5
  have n6 : w.cell? ⟨g, o + 3 + 3, none⟩ = _ := n6
  have n7 : w.cell? ⟨g, o + 3 + 4, none⟩ = _ := n7
  have n8 : w.cell? ⟨g, o + 3 + 5, none⟩ = _ := n8
  have n9 : w.cell? ⟨g, o + 3 + 6, none⟩ = _ := n9
  have n10 : w.cell? ⟨g, o + 3 + 7, none⟩ = _ := n10
  have n11 : w.cell? ⟨g, o + 3 + 8, none⟩ = _ := n11
  have n12 : w.cell? ⟨g, o + 3 + 9, none⟩ = _ := n12
  have n13 : w.cell? ⟨g, o + 3 + 10, none⟩ = _ := n13
  have n14 : w.cell? ⟨g, o + 3 + 11, none⟩ = _ := n14
  have n15 : w.cell? ⟨g, o + 3 + 12, none⟩ = _ := n15
  generalize o + 3 = p at *
  unfold en13
  unfold Instr.loadAt
  go_simp
theorem node_field (g k : Nat) (w : World) : (Instr.fieldAt 117 (.pointer (some ⟨g, k, none⟩)) 1).run Tryz.prog w = .ok (.pointer (some ⟨g, k + 3, none⟩)) w := by
  unfold Instr.fieldAt
  go_simp
def enZero : Array Value := #[.int .i64 0, .int .i64 0, .int .i64 0, .slice none 0 0, .int .i64 0, .int .i64 0, .int .i64 0, .int .i64 0, .int .i64 0, .int .i64 0, .slice none 0 0, .slice none 0 0, .string ⟨#[]⟩]
theorem en_alloc (w : World) : (Instr.alloc 39 true (.tuple #[])).run Tryz.prog w = .ok (.pointer (some ⟨w.heap.size, 0, none⟩)) (w.alloc (.cells enZero 39 (0, 0))) := by
  unfold Instr.alloc enZero
  go_simp
theorem en_store (e : En) (a1 a2 a3 : Option Addr) (c1 c2 c3 : Nat) (w : World) : (Instr.storeAt 39 (.pointer (some ⟨w.heap.size, 0, none⟩)) (.agg (en13 e a1 a2 a3 c1 c2 c3))).run Tryz.prog (w.alloc (.cells enZero 39 (0, 0))) = .ok () (w.alloc (.cells (en13 e a1 a2 a3 c1 c2 c3) 39 (0, 0))) := by
  unfold en13 enZero
  unfold Instr.storeAt
  go_simp
theorem en_storeOld {w : World} {p : Nat} {e0 e : En} {b1 b2 b3 a1 a2 a3 : Option Addr} {d1 d2 d3 c1 c2 c3 : Nat} (h : w.heap[p]? = some (.cells (en13 e0 b1 b2 b3 d1 d2 d3) 39 (0, 0))) :
    ∃ w', (Instr.storeAt 39 (.pointer (some ⟨p, 0, none⟩)) (.agg (en13 e a1 a2 a3 c1 c2 c3))).run Tryz.prog w = .ok () w' ∧ w'.heap[p]? = some (.cells (en13 e a1 a2 a3 c1 c2 c3) 39 (0, 0)) ∧ Upd (· = p) w w' := by
  refine ⟨w.setCells p 0 (en13 e a1 a2 a3 c1 c2 c3).toList, ?_, ?_, upd_setCells' (S := fun k => k = p) p (.inl rfl) _ 0 w (Upd.refl _ _)⟩
  · obtain ⟨e0', e1, e2, e3, e4, e5, e6, e7, e8, e9, e10, e11, e12⟩ := cells13 h
    have hf : ∀ o, w.frozen? ⟨p, o, none⟩ = false := fun o => frozen_of_block h
    clear h
    unfold en13
    unfold Instr.storeAt
    go_simp
    rfl
  · have := heap_setCells p 39 (0, 0) (en13 e a1 a2 a3 c1 c2 c3).toList 0 w (en13 e0 b1 b2 b3 d1 d2 d3).toList (by simpa using h) (by simp [en13])
    rw [this]
    rfl
/-- What Entry answers. -/
def EntryPost (hs : Hs) (m : Int) (w : World) (e : Ending) (w' : World) : Prop :=
  ∃ a1 a2 a3 c1 c2 c3, e = .returned (.tuple #[enV (entryM hs m).1 a1 a2 a3 c1 c2 c3, .bool (entryM hs m).2]) ∧ EnRep (fun g => w.heap.size ≤ g ∧ g < w'.heap.size) w' (entryM hs m).1 a1 a2 a3 c1 c2 c3 ∧ Upd (fun _ => False) w w'
set_option maxRecDepth 100000 in
set_option maxHeartbeats 2000000 in
theorem hentry_no {O : Nat → Prop} {b r : Nat} {hs : Hs} {w : World} (h : IsHis w O b r hs) (m : Int) (hm : (Lit.int .i64 m).wf = true) (hi : idxF hs m = none) : Calls Tryz.prog 35 #[.pointer (some ⟨b, 0, none⟩), .int .i64 m] w (EntryPost hs m w) := by
  obtain ⟨D, v, mb, l, L, H, rfl⟩ := h
  obtain ⟨W0, hW0⟩ : ∃ W0, W0 = w.alloc (.cells enZero 39 (0, 0)) := ⟨_, rfl⟩
  have u0 : Upd (fun _ => False) w W0 := by rw [hW0]; exact (Upd.refl _ _).alloc _
  have hb0 : W0.heap[w.heap.size]? = some (.cells (en13 En.none none none none 0 0 0) 39 (0, 0)) := by rw [hW0]; exact heap_alloc_new
  have H0 := H.upd u0 fun _ _ => id
  obtain ⟨c0, d1, d2, df⟩ := cells3 H0.head
  have q := H0.look_no hm hi
  have U0 := hid u0; have HB0 := hid hb0; have HW0 := hid hW0
  have HR := hid (show entryM (L.map NdC.n) m = (En.none, false) by unfold entryM; rw [hi])
  obtain ⟨w1, r1, b1, u1⟩ := en_storeOld (e := En.none) (a1 := none) (a2 := none) (a3 := none) (c1 := 0) (c2 := 0) (c3 := 0) hb0
  have hbuild : (Instr.build 39 #[]).run Tryz.prog W0 = .ok (.agg (en13 En.none none none none 0 0 0)) W0 := by
    unfold en13 Instr.build
    go_simp
    exact ⟨rfl, rfl, rfl, rfl, rfl, rfl, rfl, rfl, rfl, rfl, rfl, rfl, rfl⟩
  have R1 := hid r1; have HB1 := hid b1; have U1 := hid (u0.comp u1 fun i hi e => by omega); have HBL := hid hbuild
  clear H H0 hi u0 hb0 hW0 r1 b1 u1 hbuild
  go_enter Tryz.func35, Tryz.ntmps35
  go_upto_region 1 with (fail)
  have hW := HW0.out
  unfold enZero at hW
  rw [← hW]
  clear hW HW0
  go_upto_region 3 with (fail)
  refine wp_region_lit ?_
  refine op_build rfl _ _ rfl (vs := []) rfl HBL.out ?_
  (try go_frame)
  refine op_store rfl _ _ _ rfl rfl rfl R1.out ?_
  (try go_frame)
  refine op_assign rfl _ rfl rfl ?_
  (try go_frame)
  refine wpList_nil ?_
  (try go_frame)
  obtain ⟨z0, z1, z2, z3, z4, z5, z6, z7, z8, z9, z10, z11, z12⟩ := cells13 HB1.out
  go_wp2_with fail
  refine bodyPost_ret (v := .tuple #[enV En.none none none none 0 0 0, .bool false]) (by rw [results_cell_tmp rfl]; go_simp; rfl) rfl ?_
  refine ⟨none, none, none, 0, 0, 0, by rw [HR.out], by rw [HR.out]; exact none_rep, U1.out⟩
set_option maxRecDepth 100000 in
set_option maxHeartbeats 4000000 in
theorem hentry_yes {O : Nat → Prop} {b r : Nat} {hs : Hs} {R : Rg} {w : World} (h : IsHis w O b r hs) (HX : His rdF R hs) (m : Int) (hm : (Lit.int .i64 m).wf = true) {i : Nat} (hi : idxF hs m = some i) : Calls Tryz.prog 35 #[.pointer (some ⟨b, 0, none⟩), .int .i64 m] w (EntryPost hs m w) := by
  obtain ⟨D, v, mb, l, L, H, rfl⟩ := h
  obtain ⟨W0, hW0⟩ : ∃ W0, W0 = w.alloc (.cells enZero 39 (0, 0)) := ⟨_, rfl⟩
  have u0 : Upd (fun _ => False) w W0 := by rw [hW0]; exact (Upd.refl _ _).alloc _
  have hb0 : W0.heap[w.heap.size]? = some (.cells (en13 En.none none none none 0 0 0) 39 (0, 0)) := by rw [hW0]; exact heap_alloc_new
  have H0 := H.upd u0 fun _ _ => id
  obtain ⟨c0, d1, d2, df⟩ := cells3 H0.head
  have q := H0.look_yes hm hi
  obtain ⟨hl, h64⟩ := H.idx hi
  obtain ⟨c, hc⟩ : ∃ c, L[i]? = some c := ⟨_, List.getElem?_eq_getElem hl⟩
  obtain ⟨g, cap, rfl, h1, h2, hgl, hn⟩ := H0.node (Nat.lt_of_le_of_lt (Nat.zero_le _) hl)
  have h2 : cap ≤ 9223372036854775807 := h2
  have hnd := H0.nodes c (List.mem_of_getElem? hc)
  have NK := hid (hn i c hc)
  have HR := hid (show entryM (L.map NdC.n) m = (c.n.en, true) by unfold entryM; rw [hi]; dsimp only; rw [H.nd hc])
  have hri : RightE c.n.en := by
    obtain ⟨hl2, _⟩ := idx_some hi
    have hre := (HX.at hl2).read
    have hcn : (L.map NdC.n)[i] = c.n := by
      have := H.nd hc
      rw [List.getElem?_eq_getElem hl2] at this
      exact Option.some.inj this
    rw [hcn] at hre
    rcases rd_cases c.n.sg.text with ⟨_, q, _⟩ | q
    · rw [hre] at q; exact q
    · rw [hre] at q; cases congrArg Prod.snd q
  have HSPL := hid hri.sp.1
  have HSPW := hid (show ∀ s ∈ c.n.en.spans, SpWf s from fun s hs => ok_wf (hri.sp.2 s hs))
  clear hri HX
  have hs0 : W0.heap.size = w.heap.size + 1 := by rw [hW0]; simp
  obtain ⟨rb, hrb⟩ : ∃ rb, w.heap.size = rb := ⟨_, rfl⟩
  obtain ⟨eb, heb⟩ : ∃ eb, W0.heap.size = eb := ⟨_, rfl⟩
  obtain ⟨W1, hW1⟩ : ∃ W1, W1 = W0.alloc (.cells (en13 c.n.en c.a1 c.a2 c.a3 c.c1 c.c2 c.c3) 39 (0, 0)) := ⟨_, rfl⟩
  have u1 : Upd (fun _ => False) W0 W1 := by rw [hW1]; exact (Upd.refl _ _).alloc _
  have hb1 : W1.heap[eb]? = some (.cells (en13 c.n.en c.a1 c.a2 c.a3 c.c1 c.c2 c.c3) 39 (0, 0)) := by rw [hW1, ← heb]; exact heap_alloc_new
  have hbr : W1.heap[rb]? = some (.cells (en13 En.none none none none 0 0 0) 39 (0, 0)) := by rw [u1.block rb (by omega) id, ← hrb]; exact hb0
  have U0 := hid (u0.trans u1); have HB1 := hid hb1; have HBR := hid hbr; have HW0 := hid hW0; have HW1 := hid hW1
  have REP := hid (hnd.rep.keep u1)
  have WF := hid hnd.wf
  have HRB := hid hrb; have HEB := hid heb; have HRE := hid (show rb < eb by omega)
  obtain ⟨_, _, _, e3, _, _, _, _, _, _, e10, e11, _⟩ := cells13 hb1
  have E3 := hid e3; have E10 := hid e10; have E11 := hid e11
  clear H H0 hi u0 hb0 hW0 hn hc hnd u1 hb1 hbr hW1 hs0 e3 e10 e11
  go_enter Tryz.func35, Tryz.ntmps35
  go_upto_region 1 with (fail)
  have hW := HW0.out
  unfold enZero at hW
  rw [← hW]
  try rw [HRB.out]
  clear hW HW0
  go_upto_region 4 with (fail)
  refine wp_region_lit ?_
  refine op_move rfl _ rfl rfl ?_
  (try go_frame)
  refine op_nilp rfl _ rfl rfl ?_
  (try go_frame)
  refine op_field rfl _ _ _ rfl rfl (his_field _ _) ?_
  (try go_frame)
  refine op_load rfl _ _ rfl rfl (his_load rfl d1) ?_
  (try go_frame)
  refine op_move rfl _ rfl rfl ?_
  (try go_frame)
  refine op_index rfl _ _ _ rfl rfl rfl (node_index hl h1 h2 _) ?_
  (try go_frame)
  refine op_field rfl _ _ _ rfl rfl (node_field _ _ _) ?_
  (try go_frame)
  refine op_load rfl _ _ rfl rfl (node_en NK.out) ?_
  (try go_frame)
  refine op_alloc rfl _ rfl (en_alloc _) ?_
  (try go_frame)
  refine op_store rfl _ _ _ rfl rfl rfl (en_store _ _ _ _ _ _ _ _) ?_
  (try go_frame)
  rw [← HW1.out]
  try rw [HEB.out]
  clear HW1 HEB
  refine wpList_nil ?_
  (try go_frame)
  go_upto_region 5 with (fail)
  refine wp_region_g (fun w' => w'.cell? ⟨eb, 3, none⟩ = some (.slice c.a1 c.n.en.knows.length c.c1) ∧ w'.cell? ⟨eb, 10, none⟩ = some (.slice c.a2 c.n.en.keys.length c.c2) ∧ w'.cell? ⟨eb, 11, none⟩ = some (.slice c.a3 c.n.en.spans.length c.c3)) 10 (by kernel_rfl) ?_
  have hS : W1.drew.cell? ⟨eb, 3, none⟩ = some (.slice c.a1 c.n.en.knows.length c.c1) ∧ W1.drew.cell? ⟨eb, 10, none⟩ = some (.slice c.a2 c.n.en.keys.length c.c2) ∧ W1.drew.cell? ⟨eb, 11, none⟩ = some (.slice c.a3 c.n.en.spans.length c.c3) := ⟨E3.out, E10.out, E11.out⟩
  refine g_take0 (i := 0) rfl (by kernel_rfl) (by kernel_rfl) (by kernel_rfl) (by decide) (fun _ _ _ h => h) (Or.inl ⟨by kernel_rfl, by (intro w _; go_simp; try with_reducible rfl)⟩) (fun _ => hS) ?_
  (try go_frame)
  refine g_take0 (i := 3) rfl (by kernel_rfl) (by kernel_rfl) (by kernel_rfl) (by decide) (fun _ _ _ h => h) (Or.inl ⟨by kernel_rfl, by (intro w _; go_simp; try with_reducible rfl)⟩) (fun _ => hS) ?_
  (try go_frame)
  refine g_take0 (i := 6) rfl (by kernel_rfl) (by kernel_rfl) (by kernel_rfl) (by decide) (fun _ _ _ h => h) (Or.inl ⟨by kernel_rfl, by (intro w _; go_simp; try with_reducible rfl)⟩) (fun _ => hS) ?_
  (try go_frame)
  refine g_take (i := 1) rfl (by kernel_rfl) (by kernel_rfl) (by kernel_rfl) (by kernel_rfl) (fun _ _ _ h => h) (Or.inl ⟨by kernel_rfl, by (intro w hSw; (try dsimp only at hSw); obtain ⟨z0, z1, z2⟩ := hSw; go_simp; try with_reducible rfl)⟩) hS ?_
  (try go_frame)
  refine g_take (i := 4) rfl (by kernel_rfl) (by kernel_rfl) (by kernel_rfl) (by kernel_rfl) (fun _ _ _ h => h) (Or.inl ⟨by kernel_rfl, by (intro w hSw; (try dsimp only at hSw); obtain ⟨z0, z1, z2⟩ := hSw; go_simp; try with_reducible rfl)⟩) hS ?_
  (try go_frame)
  refine g_take (i := 7) rfl (by kernel_rfl) (by kernel_rfl) (by kernel_rfl) (by kernel_rfl) (fun _ _ _ h => h) (Or.inl ⟨by kernel_rfl, by (intro w hSw; (try dsimp only at hSw); obtain ⟨z0, z1, z2⟩ := hSw; go_simp; try with_reducible rfl)⟩) hS ?_
  (try go_frame)
  have YU0 := hid ((Upd.refl (fun _ => False) W1).drew)
  refine g_op (i := 2) (by kernel_rfl) rfl ?_
  go_wp2_with fail
  refine (cloneI_any D c.a1 c.c1 c.n.en.knows _ (REP.out.keep YU0.out).knows (by have := WF.out.knows.1; omega)).mono ?_
  rintro en y1 ⟨v1, rfl, own, u⟩
  obtain ⟨d1, k1, rfl, _, _⟩ := own_slice own
  have OW1 := hid own; have Y1 := hid u; have YU1 := hid (YU0.out.trans u)
  have hS1 : y1.cell? ⟨eb, 3, none⟩ = some (.slice c.a1 c.n.en.knows.length c.c1) ∧ y1.cell? ⟨eb, 10, none⟩ = some (.slice c.a2 c.n.en.keys.length c.c2) ∧ y1.cell? ⟨eb, 11, none⟩ = some (.slice c.a3 c.n.en.spans.length c.c3) := ⟨cell_kept E3.out (YU1.out.block eb (heap_lt HB1.out) id), cell_kept E10.out (YU1.out.block eb (heap_lt HB1.out) id), cell_kept E11.out (YU1.out.block eb (heap_lt HB1.out) id)⟩
  clear own u
  go_wp2_with fail
  refine ⟨fun _ => hS1, ?_⟩
  refine g_take0 (i := 9) rfl (by kernel_rfl) (by kernel_rfl) (by kernel_rfl) (by decide) (fun _ _ _ h => h) (Or.inl ⟨by kernel_rfl, by (intro w _; go_simp; try with_reducible rfl)⟩) (fun _ => hS1) ?_
  (try go_frame)
  refine g_op (i := 5) (by kernel_rfl) rfl ?_
  go_wp2_with fail
  refine (cloneI_any D c.a2 c.c2 c.n.en.keys _ (REP.out.keep YU1.out).keys (by have := WF.out.keys.1; omega)).mono ?_
  rintro en y2 ⟨v2, rfl, own, u⟩
  obtain ⟨d2, k2, rfl, _, _⟩ := own_slice own
  have OW2 := hid own; have Y2 := hid u; have YU2 := hid (YU1.out.trans u)
  have hS2 : y2.cell? ⟨eb, 3, none⟩ = some (.slice c.a1 c.n.en.knows.length c.c1) ∧ y2.cell? ⟨eb, 10, none⟩ = some (.slice c.a2 c.n.en.keys.length c.c2) ∧ y2.cell? ⟨eb, 11, none⟩ = some (.slice c.a3 c.n.en.spans.length c.c3) := ⟨cell_kept E3.out (YU2.out.block eb (heap_lt HB1.out) id), cell_kept E10.out (YU2.out.block eb (heap_lt HB1.out) id), cell_kept E11.out (YU2.out.block eb (heap_lt HB1.out) id)⟩
  clear own u
  go_wp2_with fail
  refine ⟨fun _ => hS2, ?_⟩
  refine g_op (i := 8) (by kernel_rfl) rfl ?_
  go_wp2_with fail
  refine (clone_any D c.a3 c.c3 c.n.en.spans _ (REP.out.keep YU2.out).spans (Nat.le_trans HSPL.out (by decide))).mono ?_
  rintro en y3 ⟨v3, rfl, own, u⟩
  obtain ⟨d3, k3, rfl, _, _⟩ := own_slice own
  have OW3 := hid own; have Y3 := hid u; have YU3 := hid (YU2.out.trans u)
  have hS3 : y3.cell? ⟨eb, 3, none⟩ = some (.slice c.a1 c.n.en.knows.length c.c1) ∧ y3.cell? ⟨eb, 10, none⟩ = some (.slice c.a2 c.n.en.keys.length c.c2) ∧ y3.cell? ⟨eb, 11, none⟩ = some (.slice c.a3 c.n.en.spans.length c.c3) := ⟨cell_kept E3.out (YU3.out.block eb (heap_lt HB1.out) id), cell_kept E10.out (YU3.out.block eb (heap_lt HB1.out) id), cell_kept E11.out (YU3.out.block eb (heap_lt HB1.out) id)⟩
  clear own u
  have hbe := (YU3.out.block eb (heap_lt HB1.out) id).trans HB1.out
  have f3 : y3.frozen? ⟨eb, 3, none⟩ = false := frozen_of_block hbe
  have f10 : y3.frozen? ⟨eb, 10, none⟩ = false := frozen_of_block hbe
  have f11 : y3.frozen? ⟨eb, 11, none⟩ = false := frozen_of_block hbe
  obtain ⟨_, _, _, e3, _, _, _, _, _, _, e10, e11, _⟩ := cells13 hbe
  have HBE := hid hbe
  clear hbe
  go_wp2_with fail
  refine ⟨fun _ => hS3, ?_⟩
  refine g_op (i := 10) (by kernel_rfl) rfl ?_
  go_wp2_with fail
  refine ⟨fun h => absurd h (by simp), ?_⟩
  refine g_op (i := 11) (by kernel_rfl) rfl ?_
  go_wp2_with fail
  refine ⟨fun h => absurd h (by simp), ?_⟩
  refine g_op (i := 12) (by kernel_rfl) rfl ?_
  go_wp2_with fail
  refine ⟨fun h => absurd h (by simp), ?_⟩
  refine g_op (i := 13) (by kernel_rfl) rfl ?_
  go_wp2_with fail
  refine ⟨fun h => absurd h (by simp), ?_⟩
  refine g_op (i := 14) (by kernel_rfl) rfl ?_
  go_wp2_with fail
  refine ⟨fun h => absurd h (by simp), ?_⟩
  refine g_done (by kernel_rfl) ?_
  obtain ⟨W5, hW5⟩ : ∃ W5, W5 = (((y3.setCell ⟨eb, 3, none⟩ (.slice d1 c.n.en.knows.length k1)).setCell ⟨eb, 10, none⟩ (.slice d2 c.n.en.keys.length k2)).setCell ⟨eb, 11, none⟩ (.slice d3 c.n.en.spans.length k3)) := ⟨_, rfl⟩
  have u5 : Upd (· = eb) y3 W5 := by rw [hW5]; exact (((Upd.refl _ _).at_ _ _).at_ _ _).at_ _ _
  have b5 : W5.heap[eb]? = some (.cells (en13 c.n.en d1 d2 d3 k1 k2 k3) 39 (0, 0)) := by
    rw [hW5]
    have q1 := heap_setCell_same (p := ⟨eb, 3, none⟩) (u := .slice d1 c.n.en.knows.length k1) rfl HBE.out
    have q2 := heap_setCell_same (p := ⟨eb, 10, none⟩) (u := .slice d2 c.n.en.keys.length k2) rfl q1
    exact heap_setCell_same (p := ⟨eb, 11, none⟩) (u := .slice d3 c.n.en.spans.length k3) rfl q2
  have r5 : W5.heap[rb]? = some (.cells (en13 En.none none none none 0 0 0) 39 (0, 0)) := ((u5.block rb (by have := heap_lt HBE.out; have := HRE.out; omega) (Nat.ne_of_lt HRE.out)).trans (YU3.out.block rb (heap_lt HBR.out) id)).trans HBR.out
  obtain ⟨w6, r6, b6, u6⟩ := en_storeOld (e := c.n.en) (a1 := d1) (a2 := d2) (a3 := d3) (c1 := k1) (c2 := k2) (c3 := k3) r5
  have B5 := hid b5; have R6 := hid r6; have HB6 := hid b6; have U5 := hid u5; have U6 := hid u6; have HW5 := hid hW5
  clear u5 b5 r5 r6 b6 u6 hW5 f3 f10 f11 e3 e10 e11
  rw [← HW5.out]
  go_upto_region 6 with (fail)
  refine wp_region_lit ?_
  refine op_load rfl _ _ rfl rfl (en_load B5.out) ?_
  (try go_frame)
  refine op_store rfl _ _ _ rfl rfl rfl R6.out ?_
  (try go_frame)
  refine op_assign rfl _ rfl rfl ?_
  (try go_frame)
  refine wpList_nil ?_
  (try go_frame)
  obtain ⟨z0, z1, z2, z3, z4, z5, z6, z7, z8, z9, z10, z11, z12⟩ := cells13 HB6.out
  go_wp2_with fail
  refine bodyPost_ret (v := .tuple #[enV c.n.en d1 d2 d3 k1 k2 k3, .bool true]) (by rw [results_cell_tmp rfl]; go_simp; rfl) rfl ?_
  refine ⟨d1, d2, d3, k1, k2, k3, by rw [HR.out], ?_, ?_⟩
  · rw [HR.out]
    have s0 := U0.out.size; have s1 := YU1.out.size; have s2 := YU2.out.size; have s3 := YU3.out.size; have s4 := U5.out.size; have s5 := U6.out.size; have t2 := Y2.out.size; have t3 := Y3.out.size
    have ue : Upd (fun k => k = eb ∨ k = rb) y3 w6 := (U5.out.mono fun _ q => .inl q).trans (U6.out.mono fun _ q => .inr q)
    have z := heap_lt HB1.out
    have hre := HRE.out
    have ho := HRB.out
    have wf := WF.out
    have sz6 := ue.size
    have o1 := ownsRow_upd (ownsRow_upd OW1.out (Y2.out.trans Y3.out) fun _ _ => id) ue fun g hg e => by have := (own_lt OW1.out g hg).1; have : W1.heap.size ≤ W1.drew.heap.size := Nat.le_refl _; omega
    have o2 := ownsRow_upd (ownsRow_upd OW2.out Y3.out fun _ _ => id) ue fun g hg e => by have := (own_lt OW2.out g hg).1; omega
    have o3 := ownsRow_upd OW3.out ue fun g hg e => by have := (OW3.out.lt g hg).1; omega
    refine ⟨kInts.mono (ints_rep o1 wf.knows.2) fun g hg => ⟨?_, hg.2⟩, kInts.mono (ints_rep o2 wf.keys.2) fun g hg => ⟨?_, hg.2⟩, kSps.mono (sps_own_rep (A := fun g => y2.heap.size ≤ g ∧ g < w6.heap.size) o3 (fun s hs => HSPW.out s hs) fun g hg => ⟨(OW3.out.lt g hg).1, (o3.lt g hg).2⟩) fun g hg => ⟨?_, hg.2⟩⟩
    · have := hg.1; have : W1.heap.size ≤ W1.drew.heap.size := Nat.le_refl _; omega
    · have := hg.1; omega
    · have := hg.1; omega
  · have s0 := U0.out.size
    refine ((U0.out.trans YU3.out).comp U5.out fun i hi e => ?_).comp U6.out fun i hi e => ?_
    · have := HRE.out; have := HRB.out; omega
    · have := HRB.out; omega
theorem hentry_any {O : Nat → Prop} {b r : Nat} {hs : Hs} {R : Rg} {w : World} (h : IsHis w O b r hs) (HX : His rdF R hs) (m : Int) (hm : (Lit.int .i64 m).wf = true) : Calls Tryz.prog 35 #[.pointer (some ⟨b, 0, none⟩), .int .i64 m] w (EntryPost hs m w) := by
  cases hi : idxF hs m with
  | none => exact hentry_no h m hm hi
  | some i => exact hentry_yes h HX m hm hi
end Go.Proofs.YtalhmpggpjbeaaaGreatDoor
