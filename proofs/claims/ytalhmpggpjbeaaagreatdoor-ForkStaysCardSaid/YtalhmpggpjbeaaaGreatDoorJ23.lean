/- Walks: two lists of pairs compared (Pairs). -/
import Derived.Test.YtalhmpggpjbeaaaGreatDoorJ21
import Derived.Test.YtalhmpggpjbeaaaGreatDoorJ22
import Derived.Test.YtalhmpggpjbeaaaGreatDoorJ14
import Derived.Laws.StructEq
import Derived.ChangeKeysEq
import Derived.BigQuiet
namespace Go.Proofs.YtalhmpggpjbeaaaGreatDoor
open Go.RowKit Go.Deep

theorem neq_pr (a b : Int × Int) (w : World) : (binOp .neq 93 (.agg #[.int .i64 a.1, .int .i64 a.2]) (.agg #[.int .i64 b.1, .int .i64 b.2])).run Tryz.prog w = .ok (.bool (decide (¬ a = b))) w := by
  obtain ⟨i, hi⟩ : ∃ i, Tryz.prog.info? 3 = some i := Option.isSome_iff_exists.1 (by kernel_rfl)
  have hc : Tryz.prog.cellsOf 3 = 1 := by kernel_rfl
  rw [run_neq_struct, run_equalIn_array w 9999 _ _ Tryz.underlying93 hi, hc]
  have hu := Tryz.underlying3
  simp only [List.range, List.range.loop, Op.eqItems]
  go_simp
  by_cases h1 : a.1 = b.1 <;> by_cases h2 : a.2 = b.2 <;> simp [Prod.ext_iff, h1, h2]
theorem neq_pr_yes {a b : Int × Int} (h : ¬ a = b) (w : World) : (binOp .neq 93 (.agg #[.int .i64 a.1, .int .i64 a.2]) (.agg #[.int .i64 b.1, .int .i64 b.2])).run Tryz.prog w = .ok (.bool true) w := by rw [neq_pr, decide_eq_true h]
theorem neq_pr_no {a b : Int × Int} (h : a = b) (w : World) : (binOp .neq 93 (.agg #[.int .i64 a.1, .int .i64 a.2]) (.agg #[.int .i64 b.1, .int .i64 b.2])).run Tryz.prog w = .ok (.bool false) w := by rw [neq_pr, decide_eq_false fun q => q h]
set_option maxHeartbeats 1000000 in
theorem prs9_any (v1 v2 : Value) (l1 l2 : List (Int × Int)) (B1 B2 : Nat) (w : World) (h1 : PrsAt w B1 v1 l1) (h2 : PrsAt w B2 v2 l2) :
    Calls Tryz.prog 60 #[v1, v2] w fun e w' => e = .returned (.bool (decide (l1 = l2))) ∧ Upd (fun _ => False) w w' := by
  have G1 := hid (PrsAt.get h1)
  have G2 := hid (PrsAt.get h2)
  obtain ⟨a1, cap1, rfl, p1, p2⟩ := prs_slice h1
  obtain ⟨a2, cap2, rfl, q1, q2⟩ := prs_slice h2
  have p2 : cap1 ≤ 9223372036854775807 := p2
  have q2 : cap2 ≤ 9223372036854775807 := q2
  clear h1 h2
  by_cases hlen : l1.length = l2.length
  · have hb : ((l1.length : Int) != l2.length) = false := by rw [hlen]; simp
    have hb2 : (l1.length != l2.length) = false := by rw [hlen]; simp
    have HL := hid hlen
    clear hlen
    go_enter Tryz.func60, Tryz.ntmps60
    go_wp2_with fail
    go_loopg [5] l1.length (fun gg s wr => ∃ k : Nat, k ≤ l1.length ∧ gg = l1.length - k ∧ s = .int .i64 k ∧ (∀ i (h : i < l1.length) (h' : i < l2.length), i < k → l1[i] = l2[i]) ∧ Upd (fun _ => False) w wr)
    case atStart => exact ⟨0, Nat.zero_le _, by omega, rfl, fun i _ _ h => absurd h (Nat.not_lt_zero _), Upd.refl _ _⟩
    case round =>
      obtain ⟨k, hk, hg, rfl, he, u⟩ := hrel
      have UU := hid u; have HG := hid hg; have EQ := hid he
      clear u hg he
      by_cases hlt : k < l1.length
      · obtain ⟨b1, cc1, e1, _, _, _, hb1, hel1⟩ := G1.out (by omega)
        cases e1
        have hlt2 : k < l2.length := by have := HL.out; omega
        obtain ⟨b2, cc2, e2, _, _, _, hb2', hel2⟩ := G2.out (by omega)
        cases e2
        have m1 := cell_kept (hel1 k hlt).1 (UU.out.block b1 hb1 id)
        have m1' := cell_kept (hel1 k hlt).2 (UU.out.block b1 hb1 id)
        have m2 := cell_kept (hel2 k hlt2).1 (UU.out.block b2 hb2' id)
        have m2' := cell_kept (hel2 k hlt2).2 (UU.out.block b2 hb2' id)
        have hlti : (k : Int) < l1.length := by omega
        have hlti2 : (k : Int) < l2.length := by omega
        have hk1 : (k : Int) + 1 ≤ 9223372036854775807 := by omega
        clear hel1 hel2
        by_cases hx : l1[k] = l2[k]
        · skip
          have hxb := neq_pr_no hx
          have HX := hid hx
          clear hx
          go_wp2_with fail
          go_quiet (fail)
          go_wp2_with fail
          go_roundg (l1.length - (k + 1))
          case measure => have := HG.out; omega
          case rel =>
            refine ⟨k + 1, by omega, rfl, by go_num, fun i h h' hi => ?_, UU.out.drewN _⟩
            by_cases e : i = k
            · subst e; exact HX.out
            · exact EQ.out i h h' (by omega)
        · have hd : (l1 = l2) = False := eq_false fun e => hx (by simp [e])
          have HD := hid hd
          clear hd
          have hxb := neq_pr_yes hx
          clear hx
          go_wp2_with fail
          go_quiet (fail)
          go_wp2_with fail
          go_ret
          exact ⟨by rw [decide_eq_false (of_eq_false HD.out)]; rfl, UU.out.drewN _⟩
      · have hd : l1 = l2 := List.ext_getElem HL.out fun i h h' => EQ.out i h h' (by omega)
        obtain rfl : k = l1.length := by omega
        have HD := hid hd
        clear hd
        go_wp2_with fail
        go_ret
        exact ⟨by rw [decide_eq_true HD.out]; rfl, UU.out⟩
  · have hb : ((l1.length : Int) != l2.length) = true := by rw [bne_iff_ne]; omega
    have hb2 : (l1.length != l2.length) = true := by rw [bne_iff_ne]; omega
    have hd : ¬ l1 = l2 := fun e => hlen (by rw [e])
    have HD := hid hd
    clear hd hlen
    go_enter Tryz.func60, Tryz.ntmps60
    go_wp2_with fail
    go_ret
    exact ⟨by rw [decide_eq_false HD.out]; rfl, Upd.refl _ _⟩
end Go.Proofs.YtalhmpggpjbeaaaGreatDoor
namespace Go.Proofs.YtalhmpggpjbeaaaGreatDoor
open Go.RowKit Go.Deep

theorem fk_small : SgSmall fk0.2 ∧ SgSmall fk1.2 ∧ SgSmall fk2.2 ∧ SgSmall fk3.2 := by
  have l := fk_len
  have t := fk_txt
  have h1 := sign_sg [] 3 (txtF (nt 3 0 []))
  have h2 := sign_sg fk0.1 3 (txtF (nt 3 1 [0]))
  have h3 := sign_sg fk1.1 3 (txtF (nd1 3 1 [0]))
  have h4 := sign_sg fk2.1 4 (txtF (nt 4 0 [1]))
  have z : ([] : Rg).length = 0 := rfl
  exact ⟨⟨⟨h1.1, Int.le_of_lt h1.2.1⟩, ⟨h1.2.2.1, by show (signF [] 3 (txtF (nt 3 0 []))).2.mark ≤ _; omega⟩, by show (signF [] 3 (txtF (nt 3 0 []))).2.text.length ≤ _; omega⟩,
    ⟨⟨h2.1, Int.le_of_lt h2.2.1⟩, ⟨h2.2.2.1, by show (signF fk0.1 3 (txtF (nt 3 1 [0]))).2.mark ≤ _; omega⟩, by show (signF fk0.1 3 (txtF (nt 3 1 [0]))).2.text.length ≤ _; omega⟩,
    ⟨⟨h3.1, Int.le_of_lt h3.2.1⟩, ⟨h3.2.2.1, by show (signF fk1.1 3 (txtF (nd1 3 1 [0]))).2.mark ≤ _; omega⟩, by show (signF fk1.1 3 (txtF (nd1 3 1 [0]))).2.text.length ≤ _; omega⟩,
    ⟨⟨h4.1, Int.le_of_lt h4.2.1⟩, ⟨h4.2.2.1, by show (signF fk2.1 4 (txtF (nt 4 0 [1]))).2.mark ≤ _; omega⟩, by show (signF fk2.1 4 (txtF (nt 4 0 [1]))).2.text.length ≤ _; omega⟩⟩
theorem fkL_small : ∀ s ∈ fkL, SgSmall s := by
  obtain ⟨h1, h2, h3, h4⟩ := fk_small
  intro s hs
  simp only [fkL, List.mem_cons, List.not_mem_nil, or_false] at hs
  rcases hs with rfl | rfl | rfl | rfl <;> assumption
theorem fk_loop : ∀ k (hk : k < fkL.length), (addF rdF fkR (playTo fkR fkL k) fkL[k]).2 = 0
  | 0, _ => fk_adds.1
  | 1, _ => fk_adds.2.1
  | 2, _ => fk_adds.2.2.2.1
  | 3, _ => fk_adds.2.2.2.2
  | k + 4, hk => absurd hk (by show ¬ k + 4 < 4; omega)
theorem fk_end : playTo fkR fkL 4 = fkB := rfl
theorem lit_prs {w : World} {b : Nat} {p q : Int} (h : w.heap[b]? = some (.cells #[.int .i64 p, .int .i64 q] 93 (0, 0))) : PrsAt w 0 (.slice (some ⟨b, 0, none⟩) 1 1) [(p, q)] :=
  ⟨rfl, .inr ⟨b, 1, _, rfl, Nat.zero_le _, h, Nat.le_refl _, by unfold maxLen; decide, rfl, rfl⟩⟩
theorem lit_ints9 {w : World} {b : Nat} {l : List Int} {n : Nat} (h : IntsBlk w b l) (hn : l.length = n) (hw : ∀ x ∈ l, I64 x) (hl : n ≤ 100) : kInts.rep (· < w.heap.size) w [.slice (some ⟨b, 0, none⟩) n n] l := by
  subst hn
  exact h.rep (fun x hx => iwf (hw x hx)) (Nat.le_refl _) (by unfold maxLen; omega) h.lt
set_option maxRecDepth 100000 in
set_option maxHeartbeats 16000000 in
theorem fsmall_any (w : World) (E : Env w) (hu : UsesIn w) (hz : 6 ≤ w.heap.size) : Calls Tryz.prog 58 #[] w fun en w' => en = .returned (.bool true) ∧ Upd (fun _ => False) w w' := by
  have HE := hid E; have HU := hid hu; have HZ := hid hz
  clear E hu hz
  go_enter Tryz.func58, Tryz.ntmps58
  go_wp2_with fail
  refine (rnew_any w HZ.out).mono ?_
  rintro en x0 ⟨rb, rfl, hrb, hri, u⟩
  have UC := hid u
  obtain ⟨Or0, hOr0⟩ : ∃ Or : Nat → Prop, (fun k => w.heap.size ≤ k ∧ k < x0.heap.size) = Or := ⟨_, rfl⟩
  have HO := hid (show ∀ k, Or0 k → w.heap.size ≤ k by rw [← hOr0]; exact fun k hk => hk.1)
  rw [hOr0] at hri
  have HR0 := hid hri
  clear hri u hOr0
  go_wp2_with fail
  refine (four_any HR0.out (HE.out.keep0 UC.out) (HU.out.keep UC.out)).mono ?_
  rintro en x1 ⟨v, Or, rfl, q1, q2, q3, q4, u⟩
  have HOr := hid (show ∀ k, Or k → w.heap.size ≤ k from fun k hk => (q3 k hk).elim (HO.out k) fun z => Nat.le_trans UC.out.size z)
  replace UC := hid (UC.out.comp u fun i hi e => by have := HO.out i e; omega)
  have HR := hid q1
  obtain ⟨g, cap, e, hc1, hc2, _, hgl, _⟩ := SgsAt.get q2 (by decide)
  have e : v = .slice (some ⟨g, 0, none⟩) 4 cap := e
  subst e
  have hc1 : 4 ≤ cap := hc1
  have hc2 : cap ≤ 9223372036854775807 := hc2
  have SG := hid q2; have GL := hid hgl
  have WX := hid (show w.heap.size ≤ x1.heap.size from UC.out.size)
  clear q1 q2 q3 q4 u HR0 HO hgl
  obtain ⟨s0, hs0⟩ : ∃ s, fk0.2 = s := ⟨_, rfl⟩
  obtain ⟨s1, hs1⟩ : ∃ s, fk1.2 = s := ⟨_, rfl⟩
  obtain ⟨s2, hs2⟩ : ∃ s, fk2.2 = s := ⟨_, rfl⟩
  obtain ⟨s3, hs3⟩ : ∃ s, fk3.2 = s := ⟨_, rfl⟩
  have SE0 := hid hs0; have SE1 := hid hs1; have SE2 := hid hs2; have SE3 := hid hs3
  have FSM := hid (show SgSmall s0 ∧ SgSmall s1 ∧ SgSmall s2 ∧ SgSmall s3 by rw [← hs0, ← hs1, ← hs2, ← hs3]; exact fk_small)
  have CELL := hid (fun (y : World) (row : SgsAt y x0.heap.size (.slice (some ⟨g, 0, none⟩) 4 cap) fkL) => (show (y.cell? ⟨g, 0, none⟩ = some (.int .i64 s0.key) ∧ y.cell? ⟨g, 1, none⟩ = some (.string ⟨s0.text.toArray⟩) ∧ y.cell? ⟨g, 2, none⟩ = some (.int .i64 s0.mark)) ∧ (y.cell? ⟨g, 3, none⟩ = some (.int .i64 s1.key) ∧ y.cell? ⟨g, 4, none⟩ = some (.string ⟨s1.text.toArray⟩) ∧ y.cell? ⟨g, 5, none⟩ = some (.int .i64 s1.mark)) ∧ (y.cell? ⟨g, 6, none⟩ = some (.int .i64 s2.key) ∧ y.cell? ⟨g, 7, none⟩ = some (.string ⟨s2.text.toArray⟩) ∧ y.cell? ⟨g, 8, none⟩ = some (.int .i64 s2.mark)) ∧ (y.cell? ⟨g, 9, none⟩ = some (.int .i64 s3.key) ∧ y.cell? ⟨g, 10, none⟩ = some (.string ⟨s3.text.toArray⟩) ∧ y.cell? ⟨g, 11, none⟩ = some (.int .i64 s3.mark)) from by
    obtain ⟨g', cap', e2, _, _, _, _, hc⟩ := SgsAt.get row (by decide)
    cases e2
    rw [← SE0.out, ← SE1.out, ← SE2.out, ← SE3.out]
    exact ⟨hc 0 (by decide), hc 1 (by decide), hc 2 (by decide), hc 3 (by decide)⟩))
  clear hs0 hs1 hs2 hs3
  go_wp2_with fail
  refine (hnew_any rb _ (Nat.le_trans HZ.out UC.out.size)).mono ?_
  rintro en x2 ⟨ab, rfl, hb, hn, u⟩
  obtain ⟨Oa, hOa⟩ : ∃ O : Nat → Prop, (fun k => x1.heap.size ≤ k ∧ k < x2.heap.size) = O := ⟨_, rfl⟩
  rw [hOa] at hn
  have HWA := hid (show ∀ k, Oa k → x1.heap.size ≤ k by rw [← hOa]; exact fun k hk => hk.1)
  have HLA := hid (show ∀ k, Oa k → k < x2.heap.size by rw [← hOa]; exact fun k hk => hk.2)
  have HA := hid (show HPre x2 Oa Or ab rb [] fkR from ⟨hn, ⟨HR.out.keep u, HE.out.keep0 (UC.out.trans u), HU.out.keep (UC.out.trans u), Nat.le_trans HZ.out (Nat.le_trans UC.out.size u.size)⟩, His.nil, fun k hk hk' => by have h1 := (HR.out.lt k hk).2; have h2 := HWA.out k hk'; omega, by rw [fk_len.1]; decide⟩)
  have XC := hid u.size
  replace UC := hid (UC.out.trans u)
  replace SG := hid (ownsRow_upd SG.out u fun _ _ => id : SgsAt x2 x0.heap.size (.slice (some ⟨g, 0, none⟩) 4 cap) fkL)
  clear hn u hOa hb HR
  go_wp2_with fail
  refine (hnew_any rb _ (Nat.le_trans HZ.out UC.out.size)).mono ?_
  rintro en x3 ⟨bb, rfl, hb, hn, u⟩
  obtain ⟨Ob, hOb⟩ : ∃ O : Nat → Prop, (fun k => x2.heap.size ≤ k ∧ k < x3.heap.size) = O := ⟨_, rfl⟩
  rw [hOb] at hn
  have DAB := hid (show ∀ k, Ob k → ¬ Oa k by rw [← hOb]; exact fun k hk hk' => by have := HLA.out k hk'; omega)
  have HWB := hid (show ∀ k, Ob k → x1.heap.size ≤ k by rw [← hOb]; exact fun k hk => Nat.le_trans XC.out hk.1)
  have HB := hid (HA.out.made u hn His.nil (fun k hk => by rw [← hOb] at hk; exact hk.1))
  replace HA := hid (HA.out.keep u)
  replace XC := hid (Nat.le_trans XC.out u.size)
  replace UC := hid (UC.out.trans u)
  replace SG := hid (ownsRow_upd SG.out u fun _ _ => id : SgsAt x3 x0.heap.size (.slice (some ⟨g, 0, none⟩) 4 cap) fkL)
  clear hn u hOb hb HLA
  go_upto_region 9 with (fail)
  obtain ⟨k0, k1, k2⟩ := CELL.out _ SG.out |>.1
  go_wp2_with fail
  refine (add_any (sg_pre (s := s0) HA.out FSM.out.1)).mono ?_
  rintro en x4 ⟨rfl, Oa1, q1, q2, q3⟩
  rw [← SE0.out] at q1 ⊢
  rw [fk_adds.1]
  have DAB2 := hid (show ∀ k, Ob k → ¬ Oa1 k from fun k hk hk' => (q2 k hk').elim (DAB.out k hk) fun z => by have := (HB.out.his.lt k hk).2; omega)
  have HWA2 := hid (show ∀ k, Oa1 k → x1.heap.size ≤ k from fun k hk => (q2 k hk).elim (HWA.out k) fun z => Nat.le_trans XC.out z)
  replace XC := hid (Nat.le_trans XC.out q3.size)
  replace HB := hid (HB.out.upd q3 DAB.out HA.out.apart fun k hk => (HA.out.his.lt k hk).1)
  replace SG := hid (ownsRow_upd SG.out q3 (fun j hj e => by injection hj with hj; have hj : g = j := hj; have := HWA.out _ e; have := GL.out; omega) : SgsAt x4 x0.heap.size (.slice (some ⟨g, 0, none⟩) 4 cap) fkL)
  replace UC := hid (UC.out.comp q3 fun i hi e => by have := HWA.out i e; have := WX.out; omega)
  replace HA := hid (show HPre x4 Oa1 Or ab rb fkA1 fkR from HA.out.grown q3 q1 (HA.out.plain.add fk0.2) q2)
  replace DAB := DAB2
  replace HWA := HWA2
  clear q1 q2 q3 DAB2 HWA2 k0 k1 k2
  obtain ⟨k0, k1, k2⟩ := CELL.out _ SG.out |>.2.1
  go_wp2_with fail
  refine (add_any (sg_pre (s := s1) HA.out FSM.out.2.1)).mono ?_
  rintro en x5 ⟨rfl, Oa2, q1, q2, q3⟩
  rw [← SE1.out] at q1 ⊢
  rw [fk_adds.2.1]
  have DAB2 := hid (show ∀ k, Ob k → ¬ Oa2 k from fun k hk hk' => (q2 k hk').elim (DAB.out k hk) fun z => by have := (HB.out.his.lt k hk).2; omega)
  have HWA2 := hid (show ∀ k, Oa2 k → x1.heap.size ≤ k from fun k hk => (q2 k hk).elim (HWA.out k) fun z => Nat.le_trans XC.out z)
  replace XC := hid (Nat.le_trans XC.out q3.size)
  replace HB := hid (HB.out.upd q3 DAB.out HA.out.apart fun k hk => (HA.out.his.lt k hk).1)
  replace SG := hid (ownsRow_upd SG.out q3 (fun j hj e => by injection hj with hj; have hj : g = j := hj; have := HWA.out _ e; have := GL.out; omega) : SgsAt x5 x0.heap.size (.slice (some ⟨g, 0, none⟩) 4 cap) fkL)
  replace UC := hid (UC.out.comp q3 fun i hi e => by have := HWA.out i e; have := WX.out; omega)
  replace HA := hid (show HPre x5 Oa2 Or ab rb fkA2 fkR from HA.out.grown q3 q1 (HA.out.plain.add fk1.2) q2)
  replace DAB := DAB2
  replace HWA := HWA2
  clear q1 q2 q3 DAB2 HWA2 k0 k1 k2
  obtain ⟨k0, k1, k2⟩ := CELL.out _ SG.out |>.2.2.2
  go_wp2_with fail
  refine (add_any (sg_pre (s := s3) HA.out FSM.out.2.2.2)).mono ?_
  rintro en x6 ⟨rfl, Oa3, q1, q2, q3⟩
  rw [← SE3.out] at q1 ⊢
  rw [fk_adds.2.2.1]
  have DAB2 := hid (show ∀ k, Ob k → ¬ Oa3 k from fun k hk hk' => (q2 k hk').elim (DAB.out k hk) fun z => by have := (HB.out.his.lt k hk).2; omega)
  have HWA2 := hid (show ∀ k, Oa3 k → x1.heap.size ≤ k from fun k hk => (q2 k hk).elim (HWA.out k) fun z => Nat.le_trans XC.out z)
  replace XC := hid (Nat.le_trans XC.out q3.size)
  replace HB := hid (HB.out.upd q3 DAB.out HA.out.apart fun k hk => (HA.out.his.lt k hk).1)
  replace SG := hid (ownsRow_upd SG.out q3 (fun j hj e => by injection hj with hj; have hj : g = j := hj; have := HWA.out _ e; have := GL.out; omega) : SgsAt x6 x0.heap.size (.slice (some ⟨g, 0, none⟩) 4 cap) fkL)
  replace UC := hid (UC.out.comp q3 fun i hi e => by have := HWA.out i e; have := WX.out; omega)
  replace HA := hid (show HPre x6 Oa3 Or ab rb fkA fkR from HA.out.grown q3 q1 (HA.out.plain.add fk3.2) q2)
  replace DAB := DAB2
  replace HWA := HWA2
  clear q1 q2 q3 DAB2 HWA2 k0 k1 k2
  go_upto_region 10 with (fail)
  have START := hid (show ∃ Ob, HPre x6 Ob Or bb rb (playTo fkR fkL 0) fkR ∧ HPre x6 Oa3 Or ab rb fkA fkR ∧ SgsAt x6 x0.heap.size (.slice (some ⟨g, 0, none⟩) 4 cap) fkL ∧ (∀ k, Ob k → ¬ Oa3 k) ∧ (∀ k, Ob k → x1.heap.size ≤ k) ∧ Upd (fun _ => False) w x6 ∧ x1.heap.size ≤ x6.heap.size from ⟨Ob, HB.out, HA.out, SG.out, DAB.out, HWB.out, UC.out, XC.out⟩)
  clear HA HB SG DAB HWB UC XC
  go_wp2_with fail
  go_loopg [5, 6] 4 (fun gg s5 s6 wr => ∃ k : Nat, k ≤ 4 ∧ gg = 4 - k ∧ s6 = .int .i64 k ∧ s5 = .bool true ∧ ∃ Ob, HPre wr Ob Or bb rb (playTo fkR fkL k) fkR ∧ HPre wr Oa3 Or ab rb fkA fkR ∧ SgsAt wr x0.heap.size (.slice (some ⟨g, 0, none⟩) 4 cap) fkL ∧ (∀ k, Ob k → ¬ Oa3 k) ∧ (∀ k, Ob k → x1.heap.size ≤ k) ∧ Upd (fun _ => False) w wr ∧ x1.heap.size ≤ wr.heap.size)
  case atStart => exact ⟨0, Nat.zero_le _, rfl, rfl, rfl, START.out⟩
  case round =>
    obtain ⟨k, hk, hg, rfl, rfl, Ob, q1, q2, q3, q4, q5, q6, q7⟩ := hrel
    have XC := hid q7
    have HB := hid q1; have HA := hid q2; have SG := hid q3; have DAB := hid q4; have HWB := hid q5; have UC := hid q6; have HG := hid hg
    clear q1 q2 q3 q4 q5 q6 q7 hg START
    by_cases hlt : k < 4
    case pos =>
      as_aux_lemma =>
      have hlti : (k : Int) < 4 := by omega
      have hk1 : (k : Int) + 1 ≤ 1000 := by omega
      have hkl : k < fkL.length := hlt
      obtain ⟨g2, cap2, e1, _, _, _, _, hc⟩ := SgsAt.get SG.out (by decide)
      cases e1
      obtain ⟨m0, m1, m2⟩ := hc k hkl
      obtain ⟨s, hse⟩ : ∃ s, fkL[k] = s := ⟨_, rfl⟩
      have SM := hid (show SgSmall s from fkL_small s (by rw [← hse]; exact List.getElem_mem hkl))
      have STEP := hid (show playTo fkR fkL (k + 1) = (addF rdF fkR (playTo fkR fkL k) s).1 by rw [playTo_succ hkl, hse])
      have ZERO := hid (show (addF rdF fkR (playTo fkR fkL k) s).2 = 0 by rw [← hse]; exact fk_loop k hkl)
      rw [hse] at m0 m1 m2
      clear hc hse
      go_wp2_with fail
      refine (add_any (sg_pre HB.out SM.out)).mono ?_
      rintro en y1 ⟨rfl, O', q1, q2, q3⟩
      rw [ZERO.out]
      have B2 := hid (HB.out.grown q3 q1 (HB.out.plain.add s) q2)
      have A2 := hid (HA.out.upd q3 (fun k hk hk' => DAB.out k hk' hk) HB.out.apart fun k hk => (HB.out.his.lt k hk).1)
      have G2 := hid (ownsRow_upd SG.out q3 (fun j hj e => by injection hj with hj; have hj : g = j := hj; have := HWB.out _ e; have := GL.out; omega) : SgsAt y1 x0.heap.size (.slice (some ⟨g, 0, none⟩) 4 cap) fkL)
      have D2 := hid (show ∀ k, O' k → ¬ Oa3 k from fun k hk hk' => (q2 k hk).elim (fun z => DAB.out k z hk') fun z => by have := (HA.out.his.lt k hk').2; omega)
      have W2 := hid (show ∀ k, O' k → x1.heap.size ≤ k from fun k hk => (q2 k hk).elim (HWB.out k) fun z => Nat.le_trans XC.out z)
      have XD := hid (Nat.le_trans XC.out q3.size)
      have UY := hid (UC.out.comp q3 fun i hi e => by have := HWB.out i e; have := WX.out; omega)
      clear q1 q2 q3 m0 m1 m2
      go_wp2_with fail
      go_roundg (4 - (k + 1))
      case measure => have := HG.out; omega
      case rel =>
        refine ⟨k + 1, by omega, rfl, by go_num, rfl, O', ?_, A2.out, G2.out, D2.out, W2.out, UY.out, XD.out⟩
        rw [STEP.out]; exact B2.out
    as_aux_lemma =>
    obtain rfl : k = 4 := by omega
    have HB := hid (show HPre wr Ob Or bb rb fkB fkR from fk_end ▸ HB.out)
    clear hk hlt HG
    go_upto_region 14 with (fail)
    go_wp2_with fail
    refine (fforks_any HA.out.his HA.out.plain HA.out.gnd.ring.ok HA.out.few).mono ?_
    rintro en z1 ⟨v1, rfl, ho, u⟩
    rw [fk_forksA] at ho
    obtain ⟨va1, vc1, e1, _, _⟩ := prs_slice ho
    have e1 : v1 = .slice va1 0 vc1 := e1
    subst e1
    clear ho
    replace HA := hid (HA.out.keep u); replace HB := hid (HB.out.keep u); replace SG := hid (ownsRow_upd SG.out u fun _ _ => id : SgsAt z1 x0.heap.size (.slice (some ⟨g, 0, none⟩) 4 cap) fkL); replace UC := hid (UC.out.trans u)
    clear u
    go_wp2_with fail
    refine (fguilty_any HA.out.his HA.out.plain HA.out.gnd.ring.ok HA.out.few).mono ?_
    rintro en z2 ⟨v2, rfl, ho, u⟩
    rw [fk_guiltyA] at ho
    obtain ⟨va2, vc2, e2, _, _⟩ := own_slice ho
    have e2 : v2 = .slice va2 0 vc2 := e2
    subst e2
    clear ho
    replace HA := hid (HA.out.keep u); replace HB := hid (HB.out.keep u); replace SG := hid (ownsRow_upd SG.out u fun _ _ => id : SgsAt z2 x0.heap.size (.slice (some ⟨g, 0, none⟩) 4 cap) fkL); replace UC := hid (UC.out.trans u)
    clear u
    go_wp2_with fail
    refine (fstraight_any HA.out.his HA.out.plain HA.out.gnd.ring.ok HA.out.few 3 (by decide)).mono ?_
    rintro en z3 ⟨rfl, u⟩
    rw [straight_yes fk_straightA.1]
    replace HA := hid (HA.out.keep u); replace HB := hid (HB.out.keep u); replace SG := hid (ownsRow_upd SG.out u fun _ _ => id : SgsAt z3 x0.heap.size (.slice (some ⟨g, 0, none⟩) 4 cap) fkL); replace UC := hid (UC.out.trans u)
    clear u
    go_wp2_with fail
    refine (fstraight_any HA.out.his HA.out.plain HA.out.gnd.ring.ok HA.out.few 4 (by decide)).mono ?_
    rintro en z4 ⟨rfl, u⟩
    rw [straight_yes fk_straightA.2.1]
    replace HA := hid (HA.out.keep u); replace HB := hid (HB.out.keep u); replace SG := hid (ownsRow_upd SG.out u fun _ _ => id : SgsAt z4 x0.heap.size (.slice (some ⟨g, 0, none⟩) 4 cap) fkL); replace UC := hid (UC.out.trans u)
    clear u
    go_wp2_with fail
    refine (fstraight_any HA.out.his HA.out.plain HA.out.gnd.ring.ok HA.out.few 7 (by decide)).mono ?_
    rintro en z5 ⟨rfl, u⟩
    rw [straight_yes fk_straightA.2.2]
    replace HA := hid (HA.out.keep u); replace HB := hid (HB.out.keep u); replace SG := hid (ownsRow_upd SG.out u fun _ _ => id : SgsAt z5 x0.heap.size (.slice (some ⟨g, 0, none⟩) 4 cap) fkL); replace UC := hid (UC.out.trans u)
    clear u
    go_upto_region 15 with (fail)
    go_wp2_with fail
    refine (fforks_any HB.out.his HB.out.plain HB.out.gnd.ring.ok HB.out.few).mono ?_
    rintro en z6 ⟨v3, rfl, ho, u⟩
    rw [fk_forksB] at ho
    have OP := hid ho
    obtain ⟨va3, vc3, e3, _, _⟩ := prs_slice ho
    subst e3
    clear ho
    replace HA := hid (HA.out.keep u); replace HB := hid (HB.out.keep u); replace SG := hid (ownsRow_upd SG.out u fun _ _ => id : SgsAt z6 x0.heap.size (.slice (some ⟨g, 0, none⟩) 4 cap) fkL); replace UC := hid (UC.out.trans u)
    clear u
    obtain ⟨z7, hz7⟩ : ∃ z, z = z6.alloc (.cells #[.int .i64 1, .int .i64 2] 93 (0, 0)) := ⟨_, rfl⟩
    have u : Upd (fun _ => False) z6 z7 := by rw [hz7]; exact (Upd.refl _ _).alloc _
    obtain ⟨pb, hpb⟩ : ∃ x, z6.heap.size = x := ⟨_, rfl⟩
    have LB := hid (show z7.heap[pb]? = some (.cells #[.int .i64 1, .int .i64 2] 93 (0, 0)) by rw [hz7, ← hpb]; exact heap_alloc_new)
    replace OP := hid (ownsRow_upd OP.out u fun _ _ => id)
    have HZ7 := hid hz7; have HPB := hid hpb
    clear hz7 hpb
    replace HA := hid (HA.out.keep u); replace HB := hid (HB.out.keep u); replace SG := hid (ownsRow_upd SG.out u fun _ _ => id : SgsAt z7 x0.heap.size (.slice (some ⟨g, 0, none⟩) 4 cap) fkL); replace UC := hid (UC.out.trans u)
    clear u
    go_wp2_with fail
    try rw [← HZ7.out]
    try rw [HPB.out]
    refine (prs9_any _ _ [(1, 2)] [(1, 2)] _ _ _ OP.out (lit_prs LB.out)).mono ?_
    rintro en z8 ⟨rfl, u⟩
    rw [decide_eq_true rfl]
    clear OP LB HZ7 HPB
    replace HA := hid (HA.out.keep u); replace HB := hid (HB.out.keep u); replace SG := hid (ownsRow_upd SG.out u fun _ _ => id : SgsAt z8 x0.heap.size (.slice (some ⟨g, 0, none⟩) 4 cap) fkL); replace UC := hid (UC.out.trans u)
    clear u
    go_wp2_with fail
    refine (fguilty_any HB.out.his HB.out.plain HB.out.gnd.ring.ok HB.out.few).mono ?_
    rintro en z9 ⟨v4, rfl, ho, u⟩
    rw [fk_guiltyB] at ho
    have OP := hid ho
    obtain ⟨va4, vc4, e4, _, _⟩ := own_slice ho
    subst e4
    clear ho
    replace HA := hid (HA.out.keep u); replace HB := hid (HB.out.keep u); replace SG := hid (ownsRow_upd SG.out u fun _ _ => id : SgsAt z9 x0.heap.size (.slice (some ⟨g, 0, none⟩) 4 cap) fkL); replace UC := hid (UC.out.trans u)
    clear u
    obtain ⟨z10, hz10⟩ : ∃ z, z = z9.alloc (.cells #[.int .i64 3] 3 (0, 0)) := ⟨_, rfl⟩
    have u : Upd (fun _ => False) z9 z10 := by rw [hz10]; exact (Upd.refl _ _).alloc _
    obtain ⟨pb, hpb⟩ : ∃ x, z9.heap.size = x := ⟨_, rfl⟩
    have LB := hid (show IntsBlk z10 pb [3] by rw [hz10, ← hpb]; exact heap_alloc_new)
    replace OP := hid (ownsRow_upd OP.out u fun _ _ => id)
    have HZ10 := hid hz10; have HPB := hid hpb
    clear hz10 hpb
    replace HA := hid (HA.out.keep u); replace HB := hid (HB.out.keep u); replace SG := hid (ownsRow_upd SG.out u fun _ _ => id : SgsAt z10 x0.heap.size (.slice (some ⟨g, 0, none⟩) 4 cap) fkL); replace UC := hid (UC.out.trans u)
    clear u
    go_wp2_with fail
    try rw [← HZ10.out]
    try rw [HPB.out]
    refine (ints8_any _ _ [3] [3] (· < z10.heap.size) (· < z10.heap.size) _ (kInts.mono (ints_rep OP.out (fun x hx => by rw [List.mem_singleton.1 hx]; unfold I64; decide)) fun g hg => hg.2) (lit_ints9 LB.out rfl (fun x hx => by rw [List.mem_singleton.1 hx]; unfold I64; decide) (by decide)) (fun _ h => h) (fun _ h => h)).mono ?_
    rintro en z11 ⟨rfl, u⟩
    rw [decide_eq_true rfl]
    clear OP LB HZ10 HPB
    replace HA := hid (HA.out.keep u); replace HB := hid (HB.out.keep u); replace SG := hid (ownsRow_upd SG.out u fun _ _ => id : SgsAt z11 x0.heap.size (.slice (some ⟨g, 0, none⟩) 4 cap) fkL); replace UC := hid (UC.out.trans u)
    clear u
    go_wp2_with fail
    refine (fstraight_any HB.out.his HB.out.plain HB.out.gnd.ring.ok HB.out.few 3 (by decide)).mono ?_
    rintro en z12 ⟨rfl, u⟩
    rw [straight_nay fk_straightB]
    replace HA := hid (HA.out.keep u); replace HB := hid (HB.out.keep u); replace SG := hid (ownsRow_upd SG.out u fun _ _ => id : SgsAt z12 x0.heap.size (.slice (some ⟨g, 0, none⟩) 4 cap) fkL); replace UC := hid (UC.out.trans u)
    clear u
    go_upto_region 16 with (fail)
    have CC := CELL.out _ SG.out
    obtain ⟨⟨a0, a1, a2⟩, ⟨b0, b1, b2⟩, ⟨c0, c1, c2⟩, _⟩ := CC
    have p0 := fun p : UW z12 => p.cell a0; have p1 := fun p : UW z12 => p.cell a1; have p2 := fun p : UW z12 => p.cell a2
    have p3 := fun p : UW z12 => p.cell b0; have p4 := fun p : UW z12 => p.cell b1; have p5 := fun p : UW z12 => p.cell b2
    have p6 := fun p : UW z12 => p.cell c0; have p7 := fun p : UW z12 => p.cell c1; have p8 := fun p : UW z12 => p.cell c2
    have F1 := fun p : UW z12 => fconvict_any (HB.out.keep p.u) s1 s2 FSM.out.2.1 FSM.out.2.2.1
    have F2 := fun p : UW z12 => fconvict_any (HB.out.keep p.u) s0 s1 FSM.out.1 FSM.out.2.1
    have F3 := fun p : UW z12 => fconvict_any (HB.out.keep p.u) s1 s1 FSM.out.2.1 FSM.out.2.1
    have F4 := fun p : UW z12 => fconvict_any (HA.out.keep p.u) s1 s2 FSM.out.2.1 FSM.out.2.2.1
    rw [show convictF fkR fkB s1 s2 = 0 from by rw [← SE1.out, ← SE2.out]; exact fk_convict.1] at F1
    rw [show convictF fkR fkB s0 s1 = 21 from by rw [← SE0.out, ← SE1.out]; exact fk_convict.2.1] at F2
    rw [show convictF fkR fkB s1 s1 = 21 from by rw [← SE1.out]; exact fk_convict.2.2.1] at F3
    rw [show convictF fkR fkA s1 s2 = 19 from by rw [← SE1.out, ← SE2.out]; exact fk_convict.2.2.2] at F4
    clear a0 a1 a2 b0 b1 b2 c0 c1 c2
    refine region_upd (by kernel_rfl) (by kernel_rfl) ?_
    repeat (go_big_quiet_step (fail))
    go_big_quiet_step ((go_at_call 67; exact Calls.upd_of (F1 _)))
    repeat (go_big_quiet_step (fail))
    go_big_quiet_step ((go_at_call 67; exact Calls.upd_of (F2 _)))
    repeat (go_big_quiet_step (fail))
    go_big_quiet_step ((go_at_call 67; exact Calls.upd_of (F3 _)))
    repeat (go_big_quiet_step (fail))
    go_big_quiet_step ((go_at_call 67; exact Calls.upd_of (F4 _)))
    repeat (go_big_quiet_step (fail))
    refine wpQuiet_nil ?_
    intro _ hw1
    refine uw_out hw1 ?_
    rintro w9 u1 e
    obtain rfl := e.symm
    clear e hw1 p0 p1 p2 p3 p4 p5 p6 p7 p8 F1 F2 F3 F4
    go_wp2_with fail
    go_ret
    exact ⟨rfl, UC.out.trans u1⟩
end Go.Proofs.YtalhmpggpjbeaaaGreatDoor
