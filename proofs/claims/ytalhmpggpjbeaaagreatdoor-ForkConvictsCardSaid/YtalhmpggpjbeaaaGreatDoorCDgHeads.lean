/- Walks: the entries that no other one knows (Heads). -/
import Derived.Test.YtalhmpggpjbeaaaGreatDoorJ11
import Derived.Test.YtalhmpggpjbeaaaGreatDoorJ4
import Derived.Test.YtalhmpggpjbeaaaGreatDoorJ10
namespace Go.Proofs.YtalhmpggpjbeaaaGreatDoor
open Go.RowKit Go.Deep

theorem pv_slice (c : NdC) : c.pv = .slice c.pa c.pn c.pc := rfl
set_option maxRecDepth 100000 in
set_option maxHeartbeats 2000000 in
theorem hheads_any {O : Nat → Prop} {b r : Nat} {hs : Hs} {w : World} (h : IsHis w O b r hs) : Calls Tryz.prog 44 #[.pointer (some ⟨b, 0, none⟩)] w (IntsPost (headsF hs) w) := by
  obtain ⟨D, vn, mb, l, L, H, rfl⟩ := h
  obtain ⟨c0, c1, c2, cf⟩ := cells3 H.head
  have HLL := hid (show (L.map NdC.n).length = L.length from List.length_map ..)
  have hbl := heap_lt H.head
  rcases H.at_ with ⟨rfl, h0⟩ | ⟨g, cap, rfl, h1, h2, hgl, _⟩
  · subst h0
    have HD := hid H.head
    clear H
    go_enter Tryz.func44, Tryz.ntmps44
    go_wp2_with fail
    go_loopg [3, 14] 0 (fun gg s5 s11 wr => s5 = .slice none 0 0 ∧ s11 = .int .i64 0 ∧ w = wr)
    case atStart => exact ⟨rfl, rfl, rfl⟩
    case round =>
      obtain ⟨rfl, rfl, rfl⟩ := hrel
      go_wp2_with fail
      go_loopg [6, 28] 0 (fun gg s6 s19 wr => s6 = .slice none 0 0 ∧ s19 = .int .i64 0 ∧ w = wr)
      case atStart => exact ⟨rfl, rfl, rfl⟩
      case round =>
        obtain ⟨rfl, rfl, rfl⟩ := hrel
        go_wp2_with fail
        refine (sorted_end (l := []) (World.ownsRow_nil _ _ _ _) (by decide) (Upd.refl _ w)).mono ?_
        rintro e w' ⟨rfl, h⟩
        have HE := hid h
        clear h
        go_wp2_with fail
        go_ret
        exact HE.out
  · have h2 : cap ≤ 9223372036854775807 := h2
    have HH := hid H
    have hfew := H.few
    clear H
    go_enter Tryz.func44, Tryz.ntmps44
    go_wp2_with fail
    go_loopg [3, 14] L.length (fun gg s5 s11 wr => ∃ k : Nat, k ≤ L.length ∧ gg = L.length - k ∧ s11 = .int .i64 k ∧ NewBits w.heap.size wr s5 (namedTo (L.map NdC.n) k) ∧ Upd (fun _ => False) w wr)
    case atStart => exact ⟨0, Nat.zero_le _, rfl, rfl, ⟨⟨0, BitsAt.nil, fun j => by rw [namedTo_zero]; simp⟩, fun g hg => (nomatch hg), fun g hg => (nomatch hg)⟩, Upd.refl _ _⟩
    case round =>
      obtain ⟨k, hk, hg, rfl, nb, u⟩ := hrel
      have UU := hid u; have HG := hid hg; have NB := hid nb
      clear u hg nb
      by_cases hlt : k < L.length
      case pos =>
        as_aux_lemma =>
        have hlti : (k : Int) < L.length := by omega
        obtain ⟨c, hc⟩ : ∃ c, L[k]? = some c := ⟨_, List.getElem?_eq_getElem hlt⟩
        obtain ⟨g', cap', e1, _, _, _, hn⟩ := HH.out.node (Nat.lt_of_le_of_lt (Nat.zero_le _) hlt)
        cases e1
        have NK := hid ((hn k c hc).keep UU.out id)
        have hgr : g < wr.heap.size := Nat.lt_of_lt_of_le hgl UU.out.size
        have hnd := HH.out.nodes c (List.mem_of_getElem? hc)
        have NS := hid (namedTo_succ (HH.out.nd hc))
        obtain ⟨W1, hW1⟩ : ∃ W1, W1 = wr.alloc (.cells c.cells.toArray 117 (0, 0)) := ⟨_, rfl⟩
        have u1 : Upd (fun _ => False) wr W1 := by rw [hW1]; exact (Upd.refl _ _).alloc _
        have hb1 : W1.heap[wr.heap.size]? = some (.cells c.cells.toArray 117 (0, 0)) := by rw [hW1]; exact heap_alloc_new
        have q17 : W1.cell? ⟨wr.heap.size, 17, none⟩ = some (.slice c.pa c.pn c.pc) := by rw [cell_of_block hb1]; rfl
        obtain ⟨x, hx, hxp⟩ := NB.out.bits
        have hap : ∀ g, Value.ownBlock u3 = some g → c.pv.ownBlock ≠ some g := fun g hg e => by
          have h3 := NB.out.new g hg
          have h4 := (HH.out.lt g (HH.out.own.2.2.2 g (hnd.own g e))).2
          omega
        have HU := hid (union_any u3 c.pv x c.x W1 (hx.upd u1 fun _ _ => id) (hnd.bits.upd (UU.out.trans u1) fun _ _ => id) hap)
        rw [pv_slice] at HU
        have HXP := hid hxp; have HCP := hid hnd.past
        have HW1 := hid hW1; have U1 := hid (UU.out.trans u1)
        clear hW1 hb1 hn hc u1 hx hxp hap hnd
        go_upto_region 4 with (fail)
        refine wp_region_lit ?_
        refine op_index rfl _ _ _ rfl rfl rfl (node_index hlt h1 h2 _) ?_
        refine op_load rfl _ _ rfl rfl (node_load NK.out) ?_
        refine op_alloc rfl _ rfl (node_alloc _) ?_
        refine op_store rfl _ _ _ rfl rfl rfl (node_store _ _) ?_
        rw [← HW1.out]
        refine wpList_nil ?_
        (try go_frame)
        go_wp2_with fail
        refine HU.out.mono ?_
        rintro e w2 ⟨v1, rfl, hb1, hu1, ho1⟩
        have B1 := hid hb1; have U2 := hid hu1; have O1 := hid ho1
        clear hb1 hu1 ho1
        go_wp2_with fail
        go_roundg (L.length - (k + 1))
        case measure => have := HG.out; omega
        case rel =>
          have s1 := U1.out.size
          refine ⟨k + 1, by omega, rfl, by go_num, ⟨⟨_, B1.out, fun j => ?_⟩, fun g hg => ?_, B1.out.lt⟩, U1.out.comp U2.out fun i hi e => by have := NB.out.new i e; omega⟩
          · rw [NS.out, Nat.testBit_or, HXP.out, HCP.out]
          · rcases O1.out with e | ⟨g', e, h'⟩
            · exact NB.out.new g (by rw [← e]; exact hg)
            · rw [e] at hg; cases hg; omega
      as_aux_lemma =>
      have hlti : ¬ (k : Int) < L.length := by omega
      have hke : namedTo (L.map NdC.n) k = namedF (L.map NdC.n) := by rw [show k = (L.map NdC.n).length by rw [HLL.out]; omega, namedTo_all]
      rw [hke] at NB
      obtain ⟨x, hx, hxp⟩ := NB.out.bits
      obtain ⟨p, hpd⟩ : ∃ p : Nat → Bool, p = fun i => !namedF (L.map NdC.n) i := ⟨_, rfl⟩
      have HPD := hid hpd
      have HXP := hid (show ∀ j, x.testBit j = !p j by intro j; rw [hxp, hpd]; simp)
      have HBX := hid hx
      obtain ⟨vb, hvb⟩ : ∃ vb, u3 = vb := ⟨_, rfl⟩
      rw [hvb] at HBX ⊢
      have WR := hid (show ∃ w1 : World, w1 = wr from ⟨_, rfl⟩)
      clear hke hx hxp hpd hvb hlt hk
      have UR := UU
      clear UU HG
      obtain ⟨e0, e1, e2, ef⟩ := cells3 (HH.out.upd UR.out fun _ _ => id).head
      go_wp2_with fail
      go_loopg [6, 28] L.length (fun gg s6 s19 wx => ∃ k : Nat, k ≤ L.length ∧ gg = L.length - k ∧ s19 = .int .i64 k ∧ wx.ownsRow w.heap.size 3 1 s6 (marksTo (L.map NdC.n) p k).length ((marksTo (L.map NdC.n) p k).map fun x => .int .i64 x) ∧ BitsAt wx vb x ∧ Upd (fun _ => False) w wx ∧ (∀ g, Value.ownBlock s6 = some g → Value.ownBlock vb ≠ some g))
      case atStart => exact ⟨0, Nat.zero_le _, rfl, rfl, World.ownsRow_nil _ _ _ _, HBX.out, UR.out, fun g hg => (nomatch hg)⟩
      case round =>
        obtain ⟨k, hk, hg, rfl, hown, hbx, u, hap⟩ := hrel
        have UU := hid u; have HG := hid hg; have OWN := hid hown; have HB := hid hbx; have HAP := hid hap
        clear u hg hown hbx hap
        have ML := hid (marksTo_len (L.map NdC.n) p k)
        by_cases hlt : k < L.length
        case neg =>
          as_aux_lemma =>
          have hlti : ¬ (k : Int) < L.length := by omega
          have HE := hid (show marksTo (L.map NdC.n) p k = (pick (L.map NdC.n) p).map Nd.mark by rw [← marksTo_all, HLL.out, show k = L.length by omega])
          go_wp2_with fail
          refine (sorted_end OWN.out (by have := ML.out; rw [HLL.out] at this; omega) UU.out).mono ?_
          rintro e w' ⟨rfl, h⟩
          rw [HE.out, HPD.out] at h
          have HF := hid h
          clear h
          go_wp2_with fail
          go_ret
          exact HF.out
        as_aux_lemma =>
        have hlti : (k : Int) < L.length := by omega
        obtain ⟨c, hc⟩ : ∃ c, L[k]? = some c := ⟨_, List.getElem?_eq_getElem hlt⟩
        obtain ⟨g', cap', e1, _, _, _, hn⟩ := HH.out.node (Nat.lt_of_le_of_lt (Nat.zero_le _) hlt)
        cases e1
        have NK := hid ((hn k c hc).keep UU.out id)
        have hgr : g < wr.heap.size := Nat.lt_of_lt_of_le hgl UU.out.size
        have HC := hid (HH.out.nd hc)
        obtain ⟨W1, hW1⟩ : ∃ W1, W1 = wr.alloc (.cells c.cells.toArray 117 (0, 0)) := ⟨_, rfl⟩
        have u1 : Upd (fun _ => False) wr W1 := by rw [hW1]; exact (Upd.refl _ _).alloc _
        have hb1 : W1.heap[wr.heap.size]? = some (.cells c.cells.toArray 117 (0, 0)) := by rw [hW1]; exact heap_alloc_new
        have q2 : W1.cell? ⟨wr.heap.size, 2, none⟩ = some (.int .i64 c.n.sg.mark) := by rw [cell_of_block hb1]; rfl
        have HW1 := hid hW1; have U1 := hid (UU.out.trans u1)
        have OW := hid (ownsRow_upd OWN.out u1 fun _ _ => id)
        have HB1 := hid (HB.out.upd u1 fun _ _ => id)
        have h64 : k < 64 := by omega
        have HT := hid (test_any vb x k W1 HB1.out h64)
        clear hW1 hb1 hn hc
        cases hp : p k with
        | false =>
          have HN := hid (marksTo_no HC.out hp)
          have HX := hid (show x.testBit k = true by rw [HXP.out, hp]; rfl)
          clear hp
          go_upto_region 10 with (fail)
          refine wp_region_lit ?_
          refine op_move rfl _ rfl rfl ?_
          refine op_index rfl _ _ _ rfl rfl rfl (node_index hlt h1 h2 _) ?_
          refine op_load rfl _ _ rfl rfl (node_load NK.out) ?_
          refine op_alloc rfl _ rfl (node_alloc _) ?_
          refine op_assign rfl _ rfl rfl ?_
          refine op_store rfl _ _ _ rfl rfl rfl (node_store _ _) ?_
          rw [← HW1.out]
          refine wpList_nil ?_
          (try go_frame)
          go_wp2_with fail
          refine HT.out.mono ?_
          rintro e w' ⟨rfl, rfl⟩
          rw [HX.out]
          go_wp2_with fail
          go_roundg (L.length - (k + 1))
          case measure => have := HG.out; omega
          case rel => exact ⟨k + 1, by omega, rfl, by go_num, by rw [HN.out]; exact OW.out, HB1.out, U1.out, HAP.out⟩
        | true =>
          have HN := hid (marksTo_yes HC.out hp)
          have HX := hid (show x.testBit k = false by rw [HXP.out, hp]; rfl)
          obtain ⟨v', w4, r4, o4, u4, n4⟩ := append_one elemI OW.out #[.int .i64 c.n.sg.mark] rfl (by simp [Value.oneCell']) (by have := ML.out; rw [HLL.out] at this; unfold maxLen; omega) (by have := ML.out; rw [HLL.out] at this; omega) U1.out.size 31 (0, 0)
          have O4 := hid o4; have U4 := hid u4; have N4 := hid n4
          clear hp o4 u4 n4
          go_upto_region 10 with (fail)
          refine wp_region_lit ?_
          refine op_move rfl _ rfl rfl ?_
          refine op_index rfl _ _ _ rfl rfl rfl (node_index hlt h1 h2 _) ?_
          refine op_load rfl _ _ rfl rfl (node_load NK.out) ?_
          refine op_alloc rfl _ rfl (node_alloc _) ?_
          refine op_assign rfl _ rfl rfl ?_
          refine op_store rfl _ _ _ rfl rfl rfl (node_store _ _) ?_
          rw [← HW1.out]
          refine wpList_nil ?_
          (try go_frame)
          go_wp2_with fail
          refine HT.out.mono ?_
          rintro e w' ⟨rfl, rfl⟩
          rw [HX.out]
          go_wp2_with (at_builtin; refine wpList_append_run rfl _ _ _ _ rfl rfl rfl r4 ?_)
          go_roundg (L.length - (k + 1))
          case measure => have := HG.out; omega
          case rel =>
            refine ⟨k + 1, by omega, rfl, by go_num, ?_, HB1.out.upd U4.out fun g hg e => HAP.out g e hg, U1.out.comp U4.out fun i hi e => by have := (own_lt OW.out i e).1; omega, fun g hg => ?_⟩
            · rw [HN.out, List.length_append, List.map_append]
              exact O4.out
            · rcases N4.out with e | ⟨g', e, h'⟩
              · exact HAP.out g (by rw [← e]; exact hg)
              · intro e2
                rw [e] at hg; cases hg
                have := HB1.out.lt _ e2
                omega
end Go.Proofs.YtalhmpggpjbeaaaGreatDoor
