/- Rows of nodes and of numbers; clones of rows of nodes. -/
import Derived.Test.YtalhmpggpjbeaaaGreatDoorJ11
import Derived.Test.YtalhmpggpjbeaaaGreatDoorJ10
import Derived.Test.YtalhmpggpjbeaaaGreatDoorJ4
import Derived.Test.YtalhmpggpjbeaaaGreatDoorJ12
namespace Go.Proofs.YtalhmpggpjbeaaaGreatDoor
open Go.RowKit Go.Deep

theorem nodes_one (L : List NdC) : ∀ u ∈ ndFlat L, u.oneCell' = true := by
  intro u hu
  unfold ndFlat at hu
  obtain ⟨x, hx, hu⟩ := List.mem_flatten.1 hu
  obtain ⟨c, _, rfl⟩ := List.mem_map.1 hx
  simp only [NdC.cells, en13, List.cons_append, List.nil_append, List.mem_cons, List.not_mem_nil, or_false] at hu
  rcases hu with rfl | rfl | rfl | rfl | rfl | rfl | rfl | rfl | rfl | rfl | rfl | rfl | rfl | rfl | rfl | rfl | rfl | rfl <;> rfl
def NodesPost (L : List NdC) (w : World) (e : Ending) (w' : World) : Prop := ∃ v, e = .returned v ∧ w'.ownsRow w.heap.size 117 18 v L.length (ndFlat L) ∧ Upd (fun _ => False) w w'
set_option maxRecDepth 100000 in
set_option maxHeartbeats 2000000 in
theorem cloneN_any (v : Value) (L : List NdC) (w : World) (h : w.ownsRow 0 117 18 v L.length (ndFlat L)) (hl : L.length ≤ 1000) :
    Calls Tryz.prog 91 #[v] w (NodesPost L w) := by
  have q22 : ∀ (w : World) (a : Option Addr) (n c n' c' : Nat), (binOp .eql 112 (.slice a n c) (.slice none n' c')).run Tryz.prog w = .ok (.bool a.isNone) w := fun w a n c n' c' => Lib.run_eql_slice_nil w _ _ a n c n' c' Tryz.underlying112
  have hfl := ndFlat_len L
  obtain ⟨h1, ⟨rfl, h3⟩ | ⟨g, cap, cur, rfl, hb, hg, hn, hc, hs, ht⟩⟩ := id h
  · have H0 := hid (show L = [] from List.length_eq_zero_iff.1 h3)
    clear h h1 h3 hfl
    go_enter Tryz.func91, Tryz.ntmps91
    go_wp2_with fail
    go_ret
    rw [H0.out]
    exact ⟨_, rfl, World.ownsRow_nil _ _ _ _, Upd.refl _ _⟩
  · have u0 : Upd (fun _ => False) w (w.alloc (.cells #[] 117 (0, 0))) := (Upd.refl _ _).alloc _
    have hcell : ∀ j u, (ndFlat L)[j]? = some u → w.cell? (Addr.add ⟨g, 0, none⟩ j) = some u := fun j u hj => h.cells (g := g) rfl j u hj
    obtain ⟨v', w1, hr, ho, hgr, _⟩ := append_own2 elemNode (World.ownsRow_made w #[] 0 (Nat.le_refl _) (Nat.zero_le _) (by simp)) ⟨g, 0, none⟩ L.length cap (ndFlat L) hfl (fun j u hj => Lib.cell?_alloc_some _ (hcell j u hj)) (nodes_one L) (by unfold maxLen; omega) (by omega) (by simp) 112
    have HO := hid ho; have HU := hid (u0.grown hgr fun k hk => .inr (by cases hk; exact Nat.le_refl _))
    clear h h1 hb hg hn hc hs ht hcell ho hgr u0 hfl
    go_enter Tryz.func91, Tryz.ntmps91
    go_wp2_with (at_builtin; refine wpList_append_run rfl _ _ _ _ rfl rfl rfl hr ?_)
    go_ret
    exact ⟨v', rfl, by have := HO.out; simpa using this, HU.out⟩
/-- Numbers that a call has made, as an argument. -/
theorem ints_rep {w : World} {B : Nat} {v : Value} {l : List Int} (h : w.ownsRow B 3 1 v l.length (l.map fun x => .int .i64 x)) (hw : ∀ x ∈ l, I64 x) : kInts.rep (fun g => B ≤ g ∧ g < w.heap.size) w [v] l :=
  ownsRow_rep1 (K := kInt .i64) rfl (fun x => Value.int .i64 x) h (fun x hx => ⟨rfl, iwf (hw x hx)⟩) fun g hg => own_lt h g hg
theorem NodeAt.keepB {w w' : World} {g o : Nat} {c : NdC} (h : NodeAt w g o c) (e : w'.heap[g]? = w.heap[g]?) : NodeAt w' g o c := by
  obtain ⟨h0, h1, h2, h3, h4, h5, h6, h7, h8, h9, h10, h11, h12, h13, h14, h15, h16, h17⟩ := h
  exact ⟨cell_kept h0 e, cell_kept h1 e, cell_kept h2 e, cell_kept h3 e, cell_kept h4 e, cell_kept h5 e, cell_kept h6 e, cell_kept h7 e, cell_kept h8 e, cell_kept h9 e, cell_kept h10 e, cell_kept h11 e, cell_kept h12 e, cell_kept h13 e, cell_kept h14 e, cell_kept h15 e, cell_kept h16 e, cell_kept h17 e⟩
/-- Where the nodes of a row lie. -/
theorem row_nodes {w : World} {B : Nat} {v : Value} {L : List NdC} (h : w.ownsRow B 117 18 v L.length (ndFlat L)) (hpos : 0 < L.length) :
    ∃ g cap, v = .slice (some ⟨g, 0, none⟩) L.length cap ∧ L.length ≤ cap ∧ cap ≤ maxLen ∧ B ≤ g ∧ g < w.heap.size ∧ ∀ i c, L[i]? = some c → NodeAt w g (i * 18) c := by
  obtain ⟨h1, ⟨h2, h3⟩ | ⟨g, cap, cur, hv, hb, hg, hn, hc, hs, ht⟩⟩ := h
  · omega
  · refine ⟨g, cap, hv, hn, hc, hb, heap_lt hg, fun i c hic => ?_⟩
    obtain ⟨hi, e⟩ := List.getElem?_eq_some_iff.1 hic
    subst e
    have k : ∀ j, j < 18 → w.cell? ⟨g, i * 18 + j, none⟩ = L[i].cells[j]? := fun j hj => by
      rw [cell_of_block hg, ← ndFlat_get L i hi j hj, ← ht, List.getElem?_take, if_pos, Array.getElem?_toList]
      calc i * 18 + j < i * 18 + 18 := by omega
        _ = (i + 1) * 18 := by omega
        _ ≤ L.length * 18 := Nat.mul_le_mul_right _ hi
    exact ⟨k 0 (by decide), k 1 (by decide), k 2 (by decide), k 3 (by decide), k 4 (by decide), k 5 (by decide), k 6 (by decide), k 7 (by decide), k 8 (by decide), k 9 (by decide), k 10 (by decide), k 11 (by decide), k 12 (by decide), k 13 (by decide), k 14 (by decide), k 15 (by decide), k 16 (by decide), k 17 (by decide)⟩
theorem his_field (b : Nat) (w : World) : (Instr.fieldAt 114 (.pointer (some ⟨b, 0, none⟩)) 1).run Tryz.prog w = .ok (.pointer (some ⟨b, 1, none⟩)) w := by
  unfold Instr.fieldAt
  go_simp
theorem his_load {w : World} {b : Nat} {v : Value} {a : Option Addr} {n c : Nat} (hv : v = .slice a n c) (h : w.cell? ⟨b, 1, none⟩ = some v) : (Instr.loadAt 112 (.pointer (some ⟨b, 1, none⟩))).run Tryz.prog w = .ok v w := by
  subst hv
  unfold Instr.loadAt
  go_simp
end Go.Proofs.YtalhmpggpjbeaaaGreatDoor
namespace Go.Proofs.YtalhmpggpjbeaaaGreatDoor
open Go.RowKit Go.Deep

/-- What the operations of a history need: a history and its ring, in memory and in plain words. -/
structure HPre (w : World) (O Or : Nat → Prop) (b r : Nat) (hs : Hs) (R : Rg) : Prop where
  his : IsHis w O b r hs
  gnd : Gnd w Or r R
  plain : His rdF R hs
  apart : ∀ k, Or k → ¬ O k
  few : R.length ≤ 60
abbrev BitsOf (w : World) (v : Value) (p : Nat → Bool) : Prop := ∃ x, BitsAt w v x ∧ ∀ j, x.testBit j = p j
theorem HPre.keep {w w' : World} {O Or : Nat → Prop} {b r : Nat} {hs : Hs} {R : Rg} (h : HPre w O Or b r hs R) (u : Upd (fun _ => False) w w') : HPre w' O Or b r hs R := ⟨h.his.keep u, h.gnd.keep u, h.plain, h.apart, h.few⟩
/-- Another history has changed. -/
theorem HPre.upd {S : Nat → Prop} {w w' : World} {O Or : Nat → Prop} {b r : Nat} {hs : Hs} {R : Rg} (h : HPre w O Or b r hs R) (u : Upd S w w') (hO : ∀ k, O k → ¬ S k) (hr : ∀ k, Or k → ¬ S k) (h6 : ∀ k, S k → 6 ≤ k) : HPre w' O Or b r hs R := ⟨h.his.upd u hO, h.gnd.upd u hr h6, h.plain, h.apart, h.few⟩
/-- A history that a call has made. -/
theorem HPre.made {w w' : World} {O Or O' : Nat → Prop} {b r b' : Nat} {hs h' : Hs} {R : Rg} (h : HPre w O Or b r hs R) (u : Upd (fun _ => False) w w') (h1 : IsHis w' O' b' r h') (h2 : His rdF R h') (hn : ∀ k, O' k → w.heap.size ≤ k) : HPre w' O' Or b' r h' R :=
  ⟨h1, h.gnd.keep u, h2, fun k hk hk' => by have := (h.gnd.ring.lt k hk).2; have := hn k hk'; omega, h.few⟩
/-- A history that has grown. -/
theorem HPre.grown {w w' : World} {O Or O' : Nat → Prop} {b r : Nat} {hs h' : Hs} {R : Rg} (h : HPre w O Or b r hs R) (u : Upd O w w') (h1 : IsHis w' O' b r h') (h2 : His rdF R h') (hn : ∀ k, O' k → O k ∨ w.heap.size ≤ k) : HPre w' O' Or b r h' R :=
  ⟨h1, h.gnd.upd u h.apart fun k hk => (h.his.lt k hk).1, h2, fun k hk hk' => by
    rcases hn k hk' with q | q
    · exact h.apart k hk q
    · have := (h.gnd.ring.lt k hk).2; omega, h.few⟩
/-- A new history. -/
def NewHPost (_ : Rg) (r : Nat) (hs : Hs) (w : World) (e : Ending) (w' : World) : Prop :=
  ∃ b O, e = .returned (.pointer (some ⟨b, 0, none⟩)) ∧ IsHis w' O b r hs ∧ (∀ k, O k → w.heap.size ≤ k) ∧ Upd (fun _ => False) w w'
set_option maxRecDepth 100000 in
set_option maxHeartbeats 2000000 in
theorem hrestrict_any {O Or : Nat → Prop} {b r : Nat} {hs : Hs} {R : Rg} {w : World} (h : HPre w O Or b r hs R) (A : Nat → Prop) (vm : Value) (ms : List Int) (hm : kInts.rep A w [vm] ms) : Calls Tryz.prog 26 #[.pointer (some ⟨b, 0, none⟩), vm] w (NewHPost R r (restrictF rdF R hs ms) w) := by
  have HP := hid h; have HM := hid hm
  obtain ⟨D, vn, mb, l, L, H, rfl⟩ := h.his
  obtain ⟨c0, c1, c2, cf⟩ := cells3 H.head
  have HH := hid H
  have HLL := hid (show (L.map NdC.n).length = L.length from List.length_map ..)
  clear H h hm
  go_enter Tryz.func26, Tryz.ntmps26
  go_wp2_with fail
  refine (hnew_any r w HP.out.gnd.six).mono ?_
  rintro e w1 ⟨b', rfl, hb', hn, u⟩
  have HN := hid hn; have U1 := hid u; have HB := hid hb'
  clear hn u hb' c0 c1 c2 cf
  go_wp2_with fail
  refine (down_any (HP.out.his.keep U1.out) A vm ms (kInts.keep HM.out (Same.of_upd U1.out fun _ _ => id))).mono ?_
  rintro e w2 ⟨v, rfl, nb, u⟩
  have NB := hid nb; have U2 := hid (U1.out.trans u); have UD := hid u
  clear nb u
  obtain ⟨p, hp⟩ : ∃ p, (downF (L.map NdC.n) ms).1 = p := ⟨_, rfl⟩
  have HPE := hid hp
  rw [hp] at NB
  clear hp
  have H2 := HH.out.upd U2.out fun _ _ => id
  obtain ⟨c0, c1, c2, cf⟩ := cells3 H2.head
  have HH2 := hid H2
  have FIN := hid (show restrictTo rdF R (L.map NdC.n) p L.length = restrictF rdF R (L.map NdC.n) ms by rw [← HPE.out, ← HLL.out, restrictTo_all])
  have START : Hid (∃ O', IsHis w2 O' b' r (restrictTo rdF R (L.map NdC.n) p 0) ∧ (∀ k, O' k → w.heap.size ≤ k) ∧ (∀ g, v.ownBlock = some g → ¬ O' g)) :=
    ⟨_, HN.out.keep UD.out, fun k hk => hk.1, fun g hg hk => by have := NB.out.new g hg; omega⟩
  clear H2
  rcases HH2.out.at_ with ⟨rfl, h0⟩ | ⟨g, cap, rfl, h1, h2, hgl, _⟩
  · have H0 := hid h0
    clear h0
    go_wp2_with fail
    go_loopg [26] 0 (fun gg s wr => s = .int .i64 0 ∧ w2 = wr)
    case atStart => exact ⟨rfl, rfl⟩
    case round =>
      obtain ⟨rfl, rfl⟩ := hrel
      go_wp2_with fail
      go_ret
      obtain ⟨O', s1, s2, _⟩ := START.out
      refine ⟨b', O', rfl, ?_, s2, U2.out⟩
      rw [← FIN.out, H0.out]
      rw [H0.out] at s1
      exact s1
  · have h2 : cap ≤ 9223372036854775807 := h2
    have hfew := HH2.out.few
    have HGL := hid hgl
    clear hgl
    go_wp2_with fail
    go_loopg [26] L.length (fun gg s wr => ∃ k : Nat, k ≤ L.length ∧ gg = L.length - k ∧ s = .int .i64 k ∧ (∃ O', IsHis wr O' b' r (restrictTo rdF R (L.map NdC.n) p k) ∧ (∀ k, O' k → w.heap.size ≤ k) ∧ (∀ g, v.ownBlock = some g → ¬ O' g)) ∧ BitsOf wr v p ∧ Upd (fun _ => False) w wr)
    case atStart => exact ⟨0, Nat.zero_le _, rfl, rfl, START.out, NB.out.bits, U2.out⟩
    case round =>
      obtain ⟨k, hk, hg, rfl, ho, hbt, u⟩ := hrel
      have UU := hid u; have HG := hid hg; have HO := hid ho; have HBT := hid hbt
      clear u hg ho hbt
      by_cases hlt : k < L.length
      case neg =>
        have hlti : ¬ (k : Int) < L.length := by omega
        have hke : k = L.length := by omega
        have HK := hid hke
        clear hke
        go_wp2_with fail
        go_ret
        obtain ⟨O', s1, s2, _⟩ := HO.out
        refine ⟨b', O', rfl, ?_, s2, UU.out⟩
        rw [← FIN.out, ← HK.out]
        exact s1
      have hlti : (k : Int) < L.length := by omega
      obtain ⟨c, hc⟩ : ∃ c, L[k]? = some c := ⟨_, List.getElem?_eq_getElem hlt⟩
      obtain ⟨g', cap', e1, _, _, _, hn⟩ := (HH.out.upd UU.out fun _ _ => id).node (Nat.lt_of_le_of_lt (Nat.zero_le _) hlt)
      cases e1
      have NK := hid (hn k c hc)
      have HC := hid (HH.out.nd hc)
      have NO := hid (HH.out.nodes c (List.mem_of_getElem? hc))
      obtain ⟨W1, hW1⟩ : ∃ W1, W1 = wr.alloc (.cells c.cells.toArray 117 (0, 0)) := ⟨_, rfl⟩
      have u1 : Upd (fun _ => False) wr W1 := by rw [hW1]; exact (Upd.refl _ _).alloc _
      have hb1 : W1.heap[wr.heap.size]? = some (.cells c.cells.toArray 117 (0, 0)) := by rw [hW1]; exact heap_alloc_new
      obtain ⟨q0, q1, q2, _⟩ := node_at0 hb1
      have q3 : W1.frozen? ⟨wr.heap.size, 0, none⟩ = false := frozen_of_block hb1
      have HW1 := hid hW1; have U1' := hid u1; have UW1 := hid (UU.out.trans u1)
      have h64 : k < 64 := by omega
      obtain ⟨x, hx, hxp⟩ := HBT.out
      have HT := hid (test_any v x k W1 (hx.upd u1 fun _ _ => id) h64)
      have HXP := hid hxp; have HX := hid hx
      clear hW1 hb1 hn hc u1 hx hxp
      cases hp : p k with
      | false =>
        have HN' := hid (restrictTo_no (rd := rdF) (R := R) HC.out hp)
        have HXK := hid ((HXP.out k).trans hp)
        clear hp
        go_upto_region 5 with (fail)
        refine wp_region_lit ?_
        refine op_move rfl _ rfl rfl ?_
        refine op_index rfl _ _ _ rfl rfl rfl (node_index hlt h1 h2 _) ?_
        refine op_load rfl _ _ rfl rfl (node_load NK.out) ?_
        refine op_alloc rfl _ rfl (node_alloc _) ?_
        refine op_assign rfl _ rfl rfl ?_
        refine op_store rfl _ _ _ rfl rfl rfl (node_store _ _) ?_
        rw [← HW1.out]
        refine wpList_nil ?_
        (try go_frame)
        go_wp2_with fail
        refine HT.out.mono ?_
        rintro e w' ⟨rfl, rfl⟩
        rw [HXK.out]
        go_wp2_with fail
        go_roundg (L.length - (k + 1))
        case measure => have := HG.out; omega
        case rel =>
          obtain ⟨O', s1, s2, s3⟩ := HO.out
          exact ⟨k + 1, by omega, rfl, by go_num, ⟨O', by rw [HN'.out]; exact s1.keep U1'.out, s2, s3⟩, ⟨x, HX.out.upd U1'.out fun _ _ => id, HXP.out⟩, UW1.out⟩
      | true =>
        have HN' := hid (restrictTo_yes (rd := rdF) (R := R) HC.out hp)
        have HXK := hid ((HXP.out k).trans hp)
        obtain ⟨O', s1, s2, s3⟩ := HO.out
        have S2 := hid s2; have S3 := hid s3
        have no := NO.out
        have HA := hid (add_any (w := W1) (s := c.n.sg) (O := O') ⟨s1.keep U1'.out, HP.out.gnd.keep UW1.out, His.restrictTo _ _ _, fun k hk hk' => by have h1 := (HP.out.gnd.ring.lt k hk).2; have h2 := s2 k hk'; omega, by have := no.key; unfold I64; omega, by have := no.mark; unfold I64; omega, no.text, Nat.lt_of_le_of_lt (His.restrictTo (rd := rdF) (R := R) (L.map NdC.n) p k).len (by have := HP.out.few; omega), by have := HP.out.few; omega⟩)
        clear hp s1 s2 s3 no
        go_upto_region 5 with (fail)
        refine wp_region_lit ?_
        refine op_move rfl _ rfl rfl ?_
        refine op_index rfl _ _ _ rfl rfl rfl (node_index hlt h1 h2 _) ?_
        refine op_load rfl _ _ rfl rfl (node_load NK.out) ?_
        refine op_alloc rfl _ rfl (node_alloc _) ?_
        refine op_assign rfl _ rfl rfl ?_
        refine op_store rfl _ _ _ rfl rfl rfl (node_store _ _) ?_
        rw [← HW1.out]
        refine wpList_nil ?_
        (try go_frame)
        go_wp2_with fail
        refine HT.out.mono ?_
        rintro e w' ⟨rfl, rfl⟩
        rw [HXK.out]
        go_wp2_with fail
        refine HA.out.mono ?_
        rintro e w3 ⟨rfl, O2, s4, s5, s6⟩
        have S4 := hid s4; have S5 := hid s5; have S6 := hid s6
        clear s4 s5 s6
        go_wp2_with fail
        go_roundg (L.length - (k + 1))
        case measure => have := HG.out; omega
        case rel =>
          refine ⟨k + 1, by omega, rfl, by go_num, ⟨O2, by rw [HN'.out]; exact S4.out, fun j hj => ?_, fun g hg hj => ?_⟩, ⟨x, (HX.out.upd U1'.out fun _ _ => id).upd S6.out S3.out, HXP.out⟩, UW1.out.comp S6.out fun i hi e => by have := S2.out i e; omega⟩
          · rcases S5.out j hj with q | q
            · exact S2.out j q
            · exact Nat.le_trans UW1.out.size q
          · rcases S5.out g hj with q | q
            · exact S3.out g hg q
            · have h1 := HX.out.lt g hg
              have h2 := U1'.out.size
              omega
end Go.Proofs.YtalhmpggpjbeaaaGreatDoor
namespace Go.Proofs.YtalhmpggpjbeaaaGreatDoor
open Go.RowKit Go.Deep

/-- What Join answers, and leaves. -/
def JoinPost (_ : Rg) (O : Nat → Prop) (b r : Nat) (g : Hs × Int) (w : World) (e : Ending) (w' : World) : Prop :=
  e = .returned (.int .i64 g.2) ∧ ∃ O', IsHis w' O' b r g.1 ∧ (∀ k, O' k → O k ∨ w.heap.size ≤ k) ∧ Upd O w w'
/-- A sorted row of the nodes of a history. -/
structure RowAt (w0 w : World) (v : Value) (K : List NdC) (n : Nat) : Prop where
  row : w.ownsRow w0.heap.size 117 18 v K.length (ndFlat K)
  len : K.length = n
  small : ∀ c ∈ K, (0 ≤ c.n.sg.key ∧ c.n.sg.key < 200) ∧ (0 ≤ c.n.sg.mark ∧ c.n.sg.mark ≤ 1000000) ∧ c.n.sg.text.length ≤ 1000000
set_option maxRecDepth 100000 in
set_option maxHeartbeats 2000000 in
theorem hjoin_any {O O2 Or : Nat → Prop} {b r b2 r2 : Nat} {hs h2 : Hs} {R : Rg} {w : World} (h : HPre w O Or b r hs R) (k : IsHis w O2 b2 r2 h2) (K2 : His rdF R h2) : Calls Tryz.prog 28 #[.pointer (some ⟨b, 0, none⟩), .pointer (some ⟨b2, 0, none⟩)] w (JoinPost R O b r (joinF rdF R hs h2) w) := by
  have HP := hid h; have HK2 := hid K2
  obtain ⟨D, vn, mb, l, L, H, rfl⟩ := k
  obtain ⟨c0, c1, c2, cf⟩ := cells3 H.head
  have HH := hid H
  have HLL := hid (show (L.map NdC.n).length = L.length from List.length_map ..)
  clear H h K2
  go_enter Tryz.func28, Tryz.ntmps28
  go_wp2_with fail
  refine (cloneN_any vn L w HH.out.row (by have := HH.out.few; omega)).mono ?_
  rintro e w1 ⟨v, rfl, ho, u⟩
  have HO := hid ho; have U1 := hid u
  clear ho u c0 c1 c2 cf
  go_wp2_with fail
  refine (sortN_any v L w1 (ownsRow_base HO.out (Nat.zero_le _)) (by have := HH.out.few; omega)).mono ?_
  rintro e w2 ⟨rfl, ⟨K, hp, hsK, hoK⟩, u⟩
  have hKl : K.length = L.length := hp.length_eq
  have HKS := hid (show K.map NdC.n = sortN (L.map NdC.n) from sortN_of HK2.out.nodup (hp.map NdC.n) (by rw [List.pairwise_map]; exact hsK))
  have hnew : ∀ g, v.ownBlock = some g → w.heap.size ≤ g := fun g hg => by
    rcases ownsRow_fits HO.out with ⟨rfl, _⟩ | ⟨g', cap, rfl, q1, _⟩
    · cases hg
    · cases hg; exact q1
  have ROW := hid (show RowAt w w2 v K K.length from ⟨by
    obtain ⟨q1, ⟨q2, q3⟩ | ⟨g, cap, cur, hv, hb, q⟩⟩ := hoK
    · exact ⟨q1, .inl ⟨q2, q3⟩⟩
    · exact ⟨q1, .inr ⟨g, cap, cur, hv, hnew g (by rw [hv]; rfl), q⟩⟩, rfl, fun c hc => by
    have no := HH.out.nodes c (hp.mem_iff.1 hc)
    exact ⟨no.key, no.mark, no.text⟩⟩)
  have U2 := hid (show Upd (fun _ => False) w w2 from U1.out.comp u fun i hi e => by have := hnew i e; omega)
  have HNEW := hid hnew
  have FIN := hid (show joinF rdF R hs (L.map NdC.n) = joinL rdF R hs ((K.map NdC.n).drop 0) by rw [HKS.out]; rfl)
  have HFK := hid (show K.length ≤ 64 by rw [hKl]; exact HH.out.few)
  clear hp hsK hoK u hKl hnew
  rcases Nat.eq_zero_or_pos K.length with hz | hz
  · have hk0 : K = [] := List.length_eq_zero_iff.1 hz
    have hv0 : v = .slice none 0 0 ∨ ∃ g cap, v = .slice (some ⟨g, 0, none⟩) 0 cap := by
      rcases ownsRow_fits ROW.out.row with ⟨q, _⟩ | ⟨g', cap, q, _⟩
      · exact .inl q
      · exact .inr ⟨g', cap, by rw [q, hz]⟩
    have HK0 := hid hk0
    clear hk0 hz
    rcases hv0 with rfl | ⟨g, cap, rfl⟩
    all_goals
      go_wp2_with fail
      go_loopg [20] 0 (fun gg s wr => s = .int .i64 0 ∧ w2 = wr)
      case atStart => exact ⟨rfl, rfl⟩
      case round =>
        obtain ⟨rfl, rfl⟩ := hrel
        go_wp2_with fail
        go_ret
        refine ⟨by rw [FIN.out, HK0.out]; rfl, O, ?_, fun k hk => .inl hk, U2.out.mono fun _ q => q.elim⟩
        rw [FIN.out, HK0.out]
        exact HP.out.his.keep U2.out
  · obtain ⟨g, cap, rfl, h1, h2', hgB, hgl, _⟩ := row_nodes ROW.out.row hz
    have h2' : cap ≤ 9223372036854775807 := h2'
    have HGL := hid hgl; have HZ := hid hz
    clear hgl hz
    go_wp2_with fail
    go_loopg [20] K.length (fun gg s wr => ∃ k : Nat, k ≤ K.length ∧ gg = K.length - k ∧ s = .int .i64 k ∧ (∃ h' O', IsHis wr O' b r h' ∧ His rdF R h' ∧ joinF rdF R hs (L.map NdC.n) = joinL rdF R h' ((K.map NdC.n).drop k) ∧ (∀ j, O' j → O j ∨ w.heap.size ≤ j) ∧ ¬ O' g) ∧ Upd O w wr ∧ wr.heap[g]? = w2.heap[g]? ∧ w2.heap.size ≤ wr.heap.size)
    case atStart => exact ⟨0, Nat.zero_le _, rfl, rfl, ⟨hs, O, HP.out.his.keep U2.out, HP.out.plain, FIN.out, fun j hj => .inl hj, fun q => by have := (HP.out.his.lt g q).2; omega⟩, U2.out.mono fun _ q => q.elim, rfl, Nat.le_refl _⟩
    case round =>
      obtain ⟨k, hk, hg, rfl, hst, u, hgb, hsz⟩ := hrel
      have UU := hid u; have HG := hid hg; have ST := hid hst; have GB := hid hgb; have SZ := hid hsz
      clear u hg hst hgb hsz
      by_cases hlt : k < K.length
      case neg =>
        have hlti : ¬ (k : Int) < K.length := by omega
        go_wp2_with fail
        go_ret
        obtain ⟨h', O', s1, s2, s3, s4, _⟩ := ST.out
        rw [joinL_end (by rw [List.length_map]; omega)] at s3
        exact ⟨by rw [s3] <;> rfl, O', by rw [s3]; exact s1, s4, UU.out⟩
      have hlti : (k : Int) < K.length := by omega
      obtain ⟨c, hc⟩ : ∃ c, K[k]? = some c := ⟨_, List.getElem?_eq_getElem hlt⟩
      obtain ⟨g', cap', e1, _, _, _, _, hn⟩ := row_nodes ROW.out.row HZ.out
      cases e1
      have hn2 := hn k c hc
      have NK : Hid (NodeAt wr g (k * 18) c) := hid (NodeAt.keepB hn2 GB.out)
      have SM := hid (ROW.out.small c (List.mem_of_getElem? hc))
      have HC := hid (show (K.map NdC.n)[k]? = some c.n by rw [List.getElem?_map, hc]; rfl)
      obtain ⟨W1, hW1⟩ : ∃ W1, W1 = wr.alloc (.cells c.cells.toArray 117 (0, 0)) := ⟨_, rfl⟩
      have u1 : Upd (fun _ => False) wr W1 := by rw [hW1]; exact (Upd.refl _ _).alloc _
      have hb1 : W1.heap[wr.heap.size]? = some (.cells c.cells.toArray 117 (0, 0)) := by rw [hW1]; exact heap_alloc_new
      obtain ⟨q0, q1, q2, _⟩ := node_at0 hb1
      have q3 : W1.frozen? ⟨wr.heap.size, 0, none⟩ = false := frozen_of_block hb1
      have HW1 := hid hW1; have U1' := hid u1; have UW1 := hid (UU.out.trans (u1.mono fun _ q => q.elim))
      obtain ⟨h', O', s1, s2, s3, s4, s5⟩ := ST.out
      have S1 := hid s1; have S2 := hid s2; have S3 := hid s3; have S4 := hid s4; have S5 := hid s5
      have HA := hid (add_any (w := W1) (s := c.n.sg) (O := O') (Or := Or) (R := R) ⟨s1.keep u1, HP.out.gnd.upd (UU.out.trans (u1.mono fun _ q => q.elim)) HP.out.apart (fun j hj => (HP.out.his.lt j hj).1), s2, fun j hj hj' => by
        rcases s4 j hj' with q | q
        · exact HP.out.apart j hj q
        · have := (HP.out.gnd.ring.lt j hj).2; omega, by have := SM.out.1; unfold I64; omega, by have := SM.out.2.1; unfold I64; omega, SM.out.2.2, Nat.lt_of_le_of_lt s2.len (by have := HP.out.few; omega), by have := HP.out.few; omega⟩)
      clear hW1 hb1 hn hn2 hc u1 s1 s2 s3 s4 s5
      have NXT : Hid (∀ (w3 : World) (O2 : Nat → Prop), (∀ j, O2 j → O' j ∨ W1.heap.size ≤ j) → Upd O' W1 w3 → (∀ j, O2 j → O j ∨ w.heap.size ≤ j) ∧ ¬ O2 g ∧ Upd O w w3 ∧ w3.heap[g]? = w2.heap[g]? ∧ w2.heap.size ≤ w3.heap.size) := hid fun w3 O2 q1 q2 => by
        have z1 := UW1.out.size; have z2 := U1'.out.size; have z3 := SZ.out; have z4 := HGL.out; have z5 := q2.size
        refine ⟨fun j hj => ?_, fun hj => ?_, UW1.out.comp q2 fun i hi e => ?_, ?_, by omega⟩
        · rcases q1 j hj with q | q
          · exact S4.out j q
          · exact .inr (by omega)
        · rcases q1 g hj with q | q
          · exact S5.out q
          · omega
        · rcases S4.out i e with q | q
          · exact q
          · omega
        · exact ((q2.block g (by omega) S5.out).trans (U1'.out.block g (by omega) id)).trans GB.out
      by_cases he : (addF rdF R h' c.n.sg).2 = 0
      case neg =>
        have HE := hid (joinL_no (rd := rdF) (R := R) HC.out he)
        obtain ⟨ev, hev⟩ : ∃ ev, (addF rdF R h' c.n.sg).2 = ev := ⟨_, rfl⟩
        have HEV := hid hev
        rw [hev] at he
        have t1 : (ev != 0) = true := bne_iff_ne.2 he
        clear he hev
        go_upto_region 7 with (fail)
        refine wp_region_lit ?_
        refine op_index rfl _ _ _ rfl rfl rfl (node_index hlt h1 h2' _) ?_
        refine op_load rfl _ _ rfl rfl (node_load NK.out) ?_
        refine op_alloc rfl _ rfl (node_alloc _) ?_
        refine op_store rfl _ _ _ rfl rfl rfl (node_store _ _) ?_
        rw [← HW1.out]
        refine wpList_nil ?_
        (try go_frame)
        go_wp2_with fail
        refine HA.out.mono ?_
        rintro e w3 ⟨rfl, O2, s4, s5, s6⟩
        rw [HEV.out]
        obtain ⟨n1, n2, n3, n4, n5⟩ := NXT.out w3 O2 s5 s6
        have S4' := hid s4; have N1 := hid n1; have N3 := hid n3
        clear s4 s5 s6 n1 n2 n3 n4 n5
        go_wp2_with fail
        go_ret
        refine ⟨by rw [S3.out, HE.out, HEV.out] <;> rfl, O2, ?_, N1.out, N3.out⟩
        rw [S3.out, HE.out]
        exact S4'.out
      have HE := hid (joinL_yes (rd := rdF) (R := R) HC.out he)
      have HEV := hid he
      clear he
      go_upto_region 7 with (fail)
      refine wp_region_lit ?_
      refine op_index rfl _ _ _ rfl rfl rfl (node_index hlt h1 h2' _) ?_
      refine op_load rfl _ _ rfl rfl (node_load NK.out) ?_
      refine op_alloc rfl _ rfl (node_alloc _) ?_
      refine op_store rfl _ _ _ rfl rfl rfl (node_store _ _) ?_
      rw [← HW1.out]
      refine wpList_nil ?_
      (try go_frame)
      go_wp2_with fail
      refine HA.out.mono ?_
      rintro e w3 ⟨rfl, O2, s4, s5, s6⟩
      rw [HEV.out]
      obtain ⟨n1, n2, n3, n4, n5⟩ := NXT.out w3 O2 s5 s6
      have S4' := hid s4; have N1 := hid n1; have N2 := hid n2; have N3 := hid n3; have N4 := hid n4; have N5 := hid n5
      clear s4 s5 s6 n1 n2 n3 n4 n5
      go_wp2_with fail
      go_roundg (K.length - (k + 1))
      case measure => have := HG.out; omega
      case rel => exact ⟨k + 1, by omega, rfl, by go_num, ⟨_, O2, S4'.out, S2.out.add _, by rw [S3.out, HE.out], N1.out, N2.out⟩, N3.out, N4.out, N5.out⟩
theorem hcopy_any {O Or : Nat → Prop} {b r : Nat} {hs : Hs} {R : Rg} {w : World} (h : HPre w O Or b r hs R) : Calls Tryz.prog 27 #[.pointer (some ⟨b, 0, none⟩)] w (NewHPost R r (restrictF rdF R hs (marksF hs)) w) := by
  have HP := hid h
  clear h
  go_enter Tryz.func27, Tryz.ntmps27
  go_wp2_with fail
  refine (hmarks_any HP.out.his).mono ?_
  rintro e w1 ⟨v, rfl, ho, u⟩
  have HO := hid ho; have U := hid u
  clear ho u
  go_wp2_with fail
  refine (hrestrict_any (HP.out.keep U.out) _ v (marksF hs) (ints_rep HO.out fun x hx => by have := marks_small HP.out.plain hx; have := HP.out.few; unfold I64; omega)).mono ?_
  rintro e w2 ⟨b', O', rfl, s1, s2, u⟩
  have S1 := hid s1; have S2 := hid s2; have U2 := hid u
  clear s1 s2 u
  go_wp2_with fail
  go_ret
  exact ⟨b', O', rfl, S1.out, fun k hk => Nat.le_trans U.out.size (S2.out k hk), U.out.trans U2.out⟩
theorem hsame_any {O O2 : Nat → Prop} {b r b2 r2 : Nat} {hs h2 : Hs} {R : Rg} {w : World} (h : IsHis w O b r hs) (k : IsHis w O2 b2 r2 h2) (H : His rdF R hs) (K : His rdF R h2) (hR : R.length ≤ 1000) : Calls Tryz.prog 33 #[.pointer (some ⟨b, 0, none⟩), .pointer (some ⟨b2, 0, none⟩)] w fun e w' => e = .returned (.bool (decide (marksF hs = marksF h2))) ∧ Upd (fun _ => False) w w' := by
  have HP := hid h; have HK := hid k; have H1 := hid H; have K1 := hid K; have HR := hid hR
  clear h k H K hR
  go_enter Tryz.func33, Tryz.ntmps33
  go_wp2_with fail
  refine (hmarks_any HP.out).mono ?_
  rintro e w1 ⟨v, rfl, ho, u⟩
  have HO := hid ho; have U := hid u
  clear ho u
  go_wp2_with fail
  refine (hmarks_any (HK.out.keep U.out)).mono ?_
  rintro e w2 ⟨v2, rfl, ho, u⟩
  have HO2 := hid ho; have U2 := hid u
  clear ho u
  go_wp2_with fail
  refine (eqInts_any v v2 (marksF hs) (marksF h2) _ _ w2 (ints_rep (ownsRow_upd HO.out U2.out fun _ _ => id) fun x hx => by have := marks_small H1.out hx; have := HR.out; unfold I64; omega) (ints_rep HO2.out fun x hx => by have := marks_small K1.out hx; have := HR.out; unfold I64; omega) (fun g hg => hg.2) (fun g hg => hg.2)).mono ?_
  rintro e w3 ⟨rfl, u⟩
  have U3 := hid u
  clear u
  go_wp2_with fail
  go_ret
  exact ⟨rfl, (U.out.trans U2.out).trans U3.out⟩
end Go.Proofs.YtalhmpggpjbeaaaGreatDoor
