/- Walks: Common. -/
/- Walks: Minus. -/
/- Walks: Take. -/
import Derived.Test.YtdcahnkcnbhknaaGreatDoorEnUnion
namespace Go.Proofs.YtdcahnkcnbhknaaGreatDoor
open Go.RowKit Go.Deep

theorem common_snoc (a b : List Sp) (k : Nat) (hk : k < a.length) : commonL (a.take (k + 1)) b = commonL (a.take k) b ++ (b.map fun y => meet a[k] y).flatten := by
  unfold commonL
  rw [List.take_succ_eq_append_getElem hk, List.map_append, List.flatten_append]
  simp
theorem meets_snoc (x : Sp) (b : List Sp) (j : Nat) (hj : j < b.length) : ((b.take (j + 1)).map fun y => meet x y).flatten = ((b.take j).map fun y => meet x y).flatten ++ meet x b[j] := by
  rw [List.take_succ_eq_append_getElem hj, List.map_append, List.flatten_append]
  simp
theorem meets_len (x : Sp) (b : List Sp) : ((b.map fun y => meet x y).flatten).length ≤ b.length := by
  have := flat_le (fun y => meet x y) 1 b fun y _ => meet_len x y
  omega
theorem meet_wf {x y : Sp} (hx : SpWf x) (hy : SpWf y) : ∀ s ∈ meet x y, SpWf s := by
  intro s hs
  unfold meet at hs
  split at hs
  · rw [List.mem_singleton] at hs
    subst hs
    have h1 := wfi hx.fr; have h2 := wfi hy.fr; have h3 := wfi hx.upto; have h4 := wfi hy.upto
    exact ⟨hx.mark, iwf (by dsimp only; omega), iwf (by dsimp only; omega)⟩
  · cases hs
theorem common_wf {a b : List Sp} (ha : ∀ s ∈ a, SpWf s) (hb : ∀ s ∈ b, SpWf s) : ∀ s ∈ commonL a b, SpWf s := by
  intro s hs
  unfold commonL at hs
  obtain ⟨l, hl, hs⟩ := List.mem_flatten.1 hs
  obtain ⟨x, hx, rfl⟩ := List.mem_map.1 hl
  obtain ⟨m, hm, hs⟩ := List.mem_flatten.1 hs
  obtain ⟨y, hy, rfl⟩ := List.mem_map.1 hm
  exact meet_wf (ha x hx) (hb y hy) s hs
set_option maxRecDepth 100000 in
set_option maxHeartbeats 8000000 in
theorem common_any (A : Nat → Prop) (va vb : Value) (l1 l2 : List Sp) (w : World) (h1 : kSps.rep A w [va] l1) (h2 : kSps.rep A w [vb] l2) (hl1 : l1.length ≤ 300) (hl2 : l2.length ≤ 300) :
    Calls Tryz.prog 37 #[va, vb] w (SpsPost (commonF l1 l2) w) := by
  have H1 := hid h1; have H2 := hid h2
  clear h1 h2
  go_enter Tryz.func37, Tryz.ntmps37
  go_wp2_with fail
  refine (norm_any A va l1 w H1.out (by omega)).mono ?_
  rintro e w1 ⟨v1, rfl, hown, u⟩
  obtain ⟨xs, hxs⟩ : ∃ xs, normF l1 = xs := ⟨_, rfl⟩
  obtain ⟨ys, hys⟩ : ∃ ys, normF l2 = ys := ⟨_, rfl⟩
  have HX := hid hxs; have HY := hid hys
  have okx : ∀ s ∈ xs, s.Ok := by rw [← hxs]; exact norm_ok l1
  have oky : ∀ s ∈ ys, s.Ok := by rw [← hys]; exact norm_ok l2
  have hxl : xs.length ≤ 300 := by rw [← hxs]; exact Nat.le_trans (norm_len l1) hl1
  have hyl : ys.length ≤ 300 := by rw [← hys]; exact Nat.le_trans (norm_len l2) hl2
  rw [hxs] at hown
  obtain ⟨a, c, rfl, _, _, hcell⟩ := own_cells hown
  have HC := hid hcell; have U := hid u; have OKX := hid okx; have OKY := hid oky
  clear hxs hys hown u hcell okx oky
  go_wp2_with fail
  go_loopg [5, 7, 9, 13, 18, 19, 20] xs.length (fun gg s5 _ _ s13 _ _ _ wr => ∃ k : Nat, k ≤ xs.length ∧ gg = xs.length - k ∧ s13 = .int .i64 k ∧ wr.ownsRow w1.heap.size 39 3 s5 (commonL (xs.take k) ys).length (flatS (commonL (xs.take k) ys)) ∧ Upd (fun _ => False) w1 wr)
  case atStart => exact ⟨0, Nat.zero_le _, rfl, rfl, World.ownsRow_nil _ _ _ _, Upd.refl _ _⟩
  case round =>
    obtain ⟨k, hk, hg, rfl, hown, u⟩ := hrel
    have HG := hid hg; have OWN := hid hown; have UU := hid u
    clear hg hown u
    by_cases hlt : k < xs.length
    case neg =>
      obtain rfl : k = xs.length := by omega
      have own2 := OWN.out
      rw [List.take_length] at own2
      have hrep := sps_own_rep (A := fun _ => True) own2 (common_wf (fun s hs => ok_wf (OKX.out s hs)) fun s hs => ok_wf (OKY.out s hs)) fun _ _ => trivial
      have hcl := common_list_len xs ys
      have hcm : xs.length * ys.length ≤ 90000 := Nat.mul_le_mul hxl hyl
      have hcl2 : (commonL xs ys).length ≤ 100000 := by omega
      have HR := hid hrep
      have HF := hid (show normF (commonL xs ys) = commonF l1 l2 by rw [← HX.out, ← HY.out]; rfl)
      clear own2 hrep hcl hcm
      go_wp2_with fail
      refine (norm_any _ _ _ _ HR.out hcl2).mono ?_
      rintro e w2 ⟨v2, rfl, hown, u⟩
      rw [HF.out] at hown
      have HO := hid (own_base hown (Nat.le_trans U.out.size UU.out.size))
      have U2 := hid ((U.out.trans UU.out).trans u)
      clear hown u
      go_wp2_with fail
      go_ret
      exact ⟨_, rfl, HO.out, U2.out⟩
    have hlti : (k : Int) < xs.length := by omega
    have hk1 : (k : Int) + 1 ≤ 301 := by omega
    obtain ⟨g, rfl, hbg, hgw, m0, m1, m2⟩ := HC.out k hlt
    have m0 := cell_kept m0 (UU.out.block g hgw id)
    have m1 := cell_kept m1 (UU.out.block g hgw id)
    have m2 := cell_kept m2 (UU.out.block g hgw id)
    have hgwr : g < wr.heap.size := Nat.lt_of_lt_of_le hgw UU.out.size
    have hsn := common_snoc xs ys k hlt
    have okx := OKX.out _ (List.getElem_mem hlt)
    obtain ⟨x, hx⟩ : ∃ x, xs[k] = x := ⟨_, rfl⟩
    rw [hx] at m0 m1 m2 hsn okx
    have HSN := hid hsn; have OX := hid okx
    have hbd : (commonL (xs.take k) ys).length ≤ 90000 := Nat.le_trans (common_list_len _ _) (Nat.mul_le_mul (show (xs.take k).length ≤ 300 from Nat.le_trans (List.length_take_le k xs) (by omega)) hyl)
    obtain ⟨O, hO⟩ : ∃ O, commonL (xs.take k) ys = O := ⟨_, rfl⟩
    rw [hO] at hbd
    have HO := hid hO
    have hown := OWN.out
    rw [hO] at hown
    have OWN1 := hid hown
    clear hx hsn okx hO hown OWN HC
    obtain ⟨W1, hW1⟩ : ∃ W1, W1 = wr.alloc (.cells #[.int .i64 x.mark, .int .i64 x.fr, .int .i64 x.to] 39 (0, 0)) := ⟨_, rfl⟩
    have hb1 : W1.heap[wr.heap.size]? = some (.cells #[.int .i64 x.mark, .int .i64 x.fr, .int .i64 x.to] 39 (0, 0)) := by rw [hW1]; exact heap_alloc_new
    have u1 : Upd (fun _ => False) wr W1 := by rw [hW1]; exact (Upd.refl _ _).alloc _
    have c0 : W1.cell? ⟨wr.heap.size, 0, none⟩ = some (.int .i64 x.mark) := by rw [cell_of_block hb1]; rfl
    have c1 : W1.cell? ⟨wr.heap.size, 1, none⟩ = some (.int .i64 x.fr) := by rw [cell_of_block hb1]; rfl
    have c2 : W1.cell? ⟨wr.heap.size, 2, none⟩ = some (.int .i64 x.to) := by rw [cell_of_block hb1]; rfl
    have HW1 := hid hW1; have U0 := hid u1
    clear hW1 hb1
    go_wp2_with fail
    rw [← HW1.out]
    have hu := (U.out.trans UU.out).trans u1
    have hlo := OWN1.out.lt
    refine (norm_any A vb l2 W1 (kSps.keep H2.out (Same.of_upd hu fun _ _ => id)) (by omega)).mono ?_
    rintro e w3 ⟨v3, rfl, hown, u3⟩
    rw [HY.out] at hown
    obtain ⟨a3, c3, rfl, _, _, hcell3⟩ := own_cells hown
    have HC3 := hid hcell3
    have U3 := hid ((UU.out.trans u1).trans u3)
    have OWN3 := hid (ownsRow_upd (ownsRow_upd OWN1.out u1 fun _ _ => id) u3 fun _ _ => id)
    have hxw := World.block_lt_of_cell? _ _ c0
    have c0 := cell_kept c0 (u3.block _ hxw id)
    have c1 := cell_kept c1 (u3.block _ hxw id)
    have c2 := cell_kept c2 (u3.block _ hxw id)
    obtain ⟨bx, hbx⟩ : ∃ bx, wr.heap.size = bx := ⟨_, rfl⟩
    rw [hbx] at c0 c1 c2 hxw
    rw [hbx]
    have hxw3 : bx < w3.heap.size := Nat.lt_of_lt_of_le hxw u3.size
    have hw3 : w1.heap.size ≤ w3.heap.size := Nat.le_trans UU.out.size (Nat.le_trans u1.size u3.size)
    obtain ⟨Bo, hBo⟩ : ∃ Bo, Bo = wr.heap.size := ⟨_, rfl⟩
    have LO := hid (show ∀ q, u5.ownBlock = some q → q < Bo ∨ w3.heap.size ≤ q from fun q hq => .inl (by rw [hBo]; exact (hlo q hq).2))
    have HG3 := hid (show ∀ j (hj : j < ys.length) g, a3 = some ⟨g, 0, none⟩ → ¬ g < Bo from fun j hj g hg => by
      obtain ⟨g', e, hb', _⟩ := hcell3 j hj
      rw [e] at hg; injection hg with hg; injection hg with hg; subst hg
      have := u1.size
      omega)
    have hBx : ¬ bx < Bo := by omega
    have hBw : w1.heap.size ≤ Bo := by rw [hBo]; exact UU.out.size
    have C0 := hid c0; have C1 := hid c1; have C2 := hid c2
    clear hown u3 hcell3 u1 hu c0 c1 c2 m0 m1 m2 hgw hgwr hbg hbx hlo hBo
    go_wp2_with fail
    go_loopg [5, 9, 20] ys.length (fun gg s5 _ s20 wr => ∃ j : Nat, j ≤ ys.length ∧ gg = ys.length - j ∧ s20 = .int .i64 j ∧ wr.ownsRow w1.heap.size 39 3 s5 (O ++ ((ys.take j).map fun y => meet x y).flatten).length (flatS (O ++ ((ys.take j).map fun y => meet x y).flatten)) ∧ (∀ q, s5.ownBlock = some q → q < Bo ∨ w3.heap.size ≤ q) ∧ Upd (fun i => w1.heap.size ≤ i ∧ i < Bo) w3 wr)
    case atStart => exact ⟨0, Nat.zero_le _, rfl, rfl, by rw [List.take_zero, List.map_nil, List.flatten_nil, List.append_nil]; exact OWN3.out, LO.out, Upd.refl _ _⟩
    case round =>
      obtain ⟨j, hj, hg, rfl, hown, hlo, u⟩ := hrel
      have HG2 := hid hg; have OWN4 := hid hown; have U4 := hid u; have LOW := hid hlo
      by_cases hltj : j < ys.length
      case neg =>
        obtain rfl : j = ys.length := by omega
        clear hg hown u hlo
        go_wp2_with fail
        go_roundg (xs.length - (k + 1))
        case measure => have := HG.out; omega
        case rel => exact ⟨k + 1, by omega, rfl, by go_num, by have := OWN4.out; rw [List.take_length] at this; rw [HSN.out, HO.out]; exact this, U3.out.comp U4.out fun i hi h => by have := h.1; omega⟩
      have hltji : (j : Int) < ys.length := by omega
      have hj1 : (j : Int) + 1 ≤ 301 := by omega
      obtain ⟨g3, rfl, hbg3, hgw3, m0, m1, m2⟩ := HC3.out j hltj
      have m0 := cell_kept m0 (U4.out.block g3 hgw3 fun h => HG3.out j hltj g3 rfl h.2)
      have m1 := cell_kept m1 (U4.out.block g3 hgw3 fun h => HG3.out j hltj g3 rfl h.2)
      have m2 := cell_kept m2 (U4.out.block g3 hgw3 fun h => HG3.out j hltj g3 rfl h.2)
      have hgwi : g3 < wr.heap.size := Nat.lt_of_lt_of_le hgw3 U4.out.size
      have hbxi : bx < wr.heap.size := Nat.lt_of_lt_of_le hxw3 U4.out.size
      have c0 := cell_kept C0.out (U4.out.block bx hxw3 fun h => hBx h.2)
      have c1 := cell_kept C1.out (U4.out.block bx hxw3 fun h => hBx h.2)
      have c2 := cell_kept C2.out (U4.out.block bx hxw3 fun h => hBx h.2)
      have hms := meets_snoc x ys j hltj
      obtain ⟨y, hy⟩ : ∃ y, ys[j] = y := ⟨_, rfl⟩
      rw [hy] at m0 m1 m2 hms
      have hpl : ((ys.take j).map fun y => meet x y).flatten.length ≤ 300 := Nat.le_trans (meets_len x (ys.take j)) (Nat.le_trans (List.length_take_le j ys) (by omega))
      obtain ⟨P, hP⟩ : ∃ P, ((ys.take j).map fun y => meet x y).flatten = P := ⟨_, rfl⟩
      rw [hP] at hms hpl hown
      have HMS := hid hms; have OW := hid hown
      clear hy hP hms hg hown u hlo OWN4
      obtain ⟨W2, hW2⟩ : ∃ W2, W2 = wr.alloc (.cells #[.int .i64 y.mark, .int .i64 y.fr, .int .i64 y.to] 39 (0, 0)) := ⟨_, rfl⟩
      have hb1 : W2.heap[wr.heap.size]? = some (.cells #[.int .i64 y.mark, .int .i64 y.fr, .int .i64 y.to] 39 (0, 0)) := by rw [hW2]; exact heap_alloc_new
      have u5 : Upd (fun _ => False) wr W2 := by rw [hW2]; exact (Upd.refl _ _).alloc _
      have d0 : W2.cell? ⟨wr.heap.size, 0, none⟩ = some (.int .i64 y.mark) := by rw [cell_of_block hb1]; rfl
      have d1 : W2.cell? ⟨wr.heap.size, 1, none⟩ = some (.int .i64 y.fr) := by rw [cell_of_block hb1]; rfl
      have d2 : W2.cell? ⟨wr.heap.size, 2, none⟩ = some (.int .i64 y.to) := by rw [cell_of_block hb1]; rfl
      have HW2 := hid hW2; have U5 := hid u5
      clear hW2 hb1
      clear d0 d1 d2
      by_cases hm : x.mark = y.mark
      · have t1 : (x.mark == y.mark) = true := beq_iff_eq.2 hm
        have HM := hid (show meet x y = [⟨x.mark, max x.fr y.fr, min x.to y.to⟩] from if_pos hm)
        obtain ⟨v', w5, r5, o5, u6, n5⟩ := append_one elemSp (ownsRow_upd OW.out u5 fun _ _ => id) #[.int .i64 x.mark, .int .i64 (max x.fr y.fr), .int .i64 (min x.to y.to)] rfl (by simp [Value.oneCell']) (by rw [List.length_append]; unfold maxLen; omega) (by rw [List.length_append]; omega) (Nat.le_trans hw3 (Nat.le_trans U4.out.size u5.size)) 23 (0, 0)
        have hlt5 := (OW.out).lt
        have U6 := hid ((U4.out.trans (u5.mono fun _ h => h.elim)).comp u6 fun i hi e => by
          have h1 := (hlt5 i e).1
          rcases LOW.out i e with h2 | h2
          · exact ⟨h1, h2⟩
          · omega)
        have LO5 := hid (show ∀ q, v'.ownBlock = some q → q < Bo ∨ w3.heap.size ≤ q from fun q hq => by
          rcases n5 with h | ⟨g, h, hgl⟩
          · exact LOW.out q (h ▸ hq)
          · rw [h] at hq; injection hq with hq; subst hq
            exact .inr (Nat.le_of_lt (Nat.lt_of_le_of_lt (Nat.le_trans U4.out.size u5.size) hgl)))
        have O5 := hid o5
        rw [show W2.heap.size = wr.heap.size + 1 by rw [HW2.out]; simp, HW2.out] at r5
        clear hm o5 u6 n5 hlt5 u5
        go_wp2_with (at_builtin; refine wpList_append_run rfl _ _ _ _ rfl rfl rfl r5 ?_)
        go_roundg (ys.length - (j + 1))
        case measure => have := HG2.out; omega
        case rel =>
          refine ⟨j + 1, by omega, rfl, by go_num, ?_, LO5.out, U6.out⟩
          rw [HMS.out, HM.out, ← List.append_assoc, List.length_append (bs := [_]), flatS_append (b := [_])]
          exact O5.out
      · have t1 : (x.mark == y.mark) = false := beq_eq_false_iff_ne.2 hm
        have HM := hid (show meet x y = [] from if_neg hm)
        have OW2 := hid (ownsRow_upd OW.out u5 fun _ _ => id)
        have U6 := hid (show Upd (fun i => w1.heap.size ≤ i ∧ i < Bo) w3 (wr.alloc (.cells #[.int .i64 y.mark, .int .i64 y.fr, .int .i64 y.to] 39 (0, 0))) from U4.out.alloc _)
        have OW6 := OW2.out
        rw [HW2.out] at OW6
        have OW6 := hid OW6
        clear hm u5
        go_wp2_with fail
        go_roundg (ys.length - (j + 1))
        case measure => have := HG2.out; omega
        case rel =>
          refine ⟨j + 1, by omega, rfl, by go_num, ?_, LOW.out, U6.out⟩
          rw [HMS.out, HM.out, List.append_nil]
          exact OW6.out
end Go.Proofs.YtdcahnkcnbhknaaGreatDoor
namespace Go.Proofs.YtdcahnkcnbhknaaGreatDoor
open Go.RowKit Go.Deep

theorem cuts_snoc (y : Sp) (l : List Sp) (k : Nat) (hk : k < l.length) : ((l.take (k + 1)).map (cutS y)).flatten = ((l.take k).map (cutS y)).flatten ++ cutS y l[k] := by
  rw [List.take_succ_eq_append_getElem hk, List.map_append, List.flatten_append]
  simp
theorem cuts_wf {y : Sp} (hy : SpWf y) {l : List Sp} (hl : ∀ s ∈ l, SpWf s) : ∀ s ∈ (l.map (cutS y)).flatten, SpWf s := by
  intro s hs
  obtain ⟨m, hm, hs⟩ := List.mem_flatten.1 hs
  obtain ⟨x, hx, rfl⟩ := List.mem_map.1 hm
  have hx := hl x hx
  have h1 := wfi hx.fr; have h2 := wfi hy.fr; have h3 := wfi hx.upto; have h4 := wfi hy.upto
  unfold cutS at hs
  split at hs
  · rw [List.mem_singleton] at hs; subst hs; exact hx
  · simp only [List.mem_cons, List.not_mem_nil, or_false] at hs
    rcases hs with rfl | rfl
    · exact ⟨hx.mark, hx.fr, iwf (by dsimp only; omega)⟩
    · exact ⟨hx.mark, iwf (by dsimp only; omega), hx.upto⟩
theorem fold_snoc (y : List Sp) (l : List Sp) (k : Nat) (hk : k < y.length) : (y.take (k + 1)).foldl cutL l = cutL ((y.take k).foldl cutL l) y[k] := by
  rw [List.take_succ_eq_append_getElem hk, List.foldl_append]; rfl
/-- An append of m elements, whose cells the statement has just laid in a new block. -/
theorem append_lit {P : Program} {t e : TypeId} {size bytes : Nat} (T : ElemTy P t e size bytes) {w : World} {base : Nat} {v : Value} {n : Nat} {xs : List Value} (hown : w.ownsRow base e size v n xs)
    (cells : Array Value) (m : Nat) (hc : cells.size = m * size) (h1 : ∀ u ∈ cells, u.oneCell' = true) (h63 : n + m ≤ maxLen) (hbytes : (n + m) * bytes ≤ 140737488355328) (hbase : base ≤ w.heap.size) (ty : TypeId) (fr : Nat × Nat) :
    ∃ v' w', (Builtin.append_ #[t, t] ty #[v, .slice (some ⟨w.heap.size, 0, none⟩) m m]).run P (w.alloc (.cells cells e fr)) = .ok v' w' ∧ w'.ownsRow base e size v' (n + m) (xs ++ cells.toList) ∧
      Upd (fun k => v.ownBlock = some k) w w' ∧ (v'.ownBlock = v.ownBlock ∨ ∃ g, v'.ownBlock = some g ∧ w.heap.size < g) := by
  obtain ⟨v', w', hr, h2, h3, h4⟩ := append_own2 T (hown.alloc (.cells cells e fr)) ⟨w.heap.size, 0, none⟩ m m cells.toList (by simp [hc]) (fun j u hu => by
    have e1 : Addr.add ⟨w.heap.size, 0, none⟩ j = ⟨w.heap.size, j, none⟩ := by unfold Addr.add; split <;> simp_all
    rw [e1, cell_of_block heap_alloc_new]
    simpa using hu) (by simpa using h1) h63 hbytes (by simp; omega) ty
  refine ⟨v', w', hr, h2, ((Upd.refl _ w).alloc _).grown h3 (fun k hk => .inl hk), ?_⟩
  rcases h4 with h4 | ⟨g, hg, hs⟩
  · exact .inl h4
  · exact .inr ⟨g, hg, by simp at hs; omega⟩
theorem fold_nrm (y : List Sp) (l : List Sp) (hl : Nrm l) (hy : ∀ s ∈ y, s.Ok) : Nrm (y.foldl cutL l) ∧ (y.foldl cutL l).length ≤ l.length + y.length := by
  induction y generalizing l with
  | nil => exact ⟨hl, Nat.le_refl _⟩
  | cons s y ih =>
    have hs := hy s List.mem_cons_self
    have h1 := cutL_len hs hl
    obtain ⟨h2, h3⟩ := ih (cutL l s) (cutL_spec hl hs).1 fun t ht => hy t (List.mem_cons_of_mem _ ht)
    refine ⟨h2, ?_⟩
    rw [List.foldl_cons, List.length_cons]
    omega
set_option maxRecDepth 100000 in
set_option maxHeartbeats 16000000 in
theorem minus_any (A : Nat → Prop) (va vb : Value) (l1 l2 : List Sp) (w : World) (h1 : kSps.rep A w [va] l1) (h2 : kSps.rep A w [vb] l2) (hl1 : l1.length ≤ 10000) (hl2 : l2.length ≤ 10000) :
    Calls Tryz.prog 39 #[va, vb] w (SpsPost (minusF l1 l2) w) := by
  have H1 := hid h1; have H2 := hid h2
  clear h1 h2
  go_enter Tryz.func39, Tryz.ntmps39
  go_wp2_with fail
  refine (norm_any A va l1 w H1.out (by omega)).mono ?_
  rintro e w0 ⟨v1, rfl, own0, u0⟩
  have U0 := hid u0
  have O0 := hid own0
  have h2k := hid (kSps.keep H2.out (Same.of_upd u0 fun _ _ => id))
  clear own0 u0
  go_wp2_with fail
  refine (norm_any A vb l2 w0 h2k.out (by omega)).mono ?_
  rintro e w1 ⟨v2, rfl, hown, u⟩
  obtain ⟨xs, hxs⟩ : ∃ xs, normF l1 = xs := ⟨_, rfl⟩
  obtain ⟨ys, hys⟩ : ∃ ys, normF l2 = ys := ⟨_, rfl⟩
  have HF := hid (show ys.foldl cutL xs = minusF l1 l2 by rw [← hxs, ← hys]; rfl)
  have nx : Nrm xs := by rw [← hxs]; exact (norm_spec l1).1
  have oky : ∀ s ∈ ys, s.Ok := by rw [← hys]; exact norm_ok l2
  have hxl : xs.length ≤ 10000 := by rw [← hxs]; exact Nat.le_trans (norm_len l1) hl1
  have hyl : ys.length ≤ 10000 := by rw [← hys]; exact Nat.le_trans (norm_len l2) hl2
  have O1 := hid (show w1.ownsRow w.heap.size 39 3 v1 xs.length (flatS xs) by rw [← hxs]; exact ownsRow_upd O0.out u fun _ _ => id)
  rw [hys] at hown
  obtain ⟨a, c, rfl, _, _, hcell⟩ := own_cells hown
  have HC := hid hcell; have U := hid (U0.out.trans u); have NX := hid nx; have OKY := hid oky
  clear hxs hys hown u hcell nx oky O0
  go_wp2_with fail
  go_loopg [5, 7, 8, 10, 16, 20, 21, 22] ys.length (fun gg s5 _ _ _ s16 _ _ _ wr => ∃ k : Nat, k ≤ ys.length ∧ gg = ys.length - k ∧ s16 = .int .i64 k ∧ wr.ownsRow w.heap.size 39 3 s5 ((ys.take k).foldl cutL xs).length (flatS ((ys.take k).foldl cutL xs)) ∧ Upd (fun _ => False) w1 wr)
  case atStart => exact ⟨0, Nat.zero_le _, rfl, rfl, O1.out, Upd.refl _ _⟩
  case round =>
    obtain ⟨k, hk, hg, rfl, hown, u⟩ := hrel
    have HG := hid hg; have OWN := hid hown; have UU := hid u
    clear hg
    by_cases hlt : k < ys.length
    case neg =>
      obtain rfl : k = ys.length := by omega
      have own2 := OWN.out
      rw [List.take_length, HF.out] at own2
      have HO := hid own2
      clear own2 hown u
      go_wp2_with fail
      go_ret
      exact ⟨u5, rfl, HO.out, U.out.trans UU.out⟩
    have hlti : (k : Int) < ys.length := by omega
    have hk1 : (k : Int) + 1 ≤ 10001 := by omega
    obtain ⟨g, rfl, hbg, hgw, m0, m1, m2⟩ := HC.out k hlt
    have m0 := cell_kept m0 (UU.out.block g hgw id)
    have m1 := cell_kept m1 (UU.out.block g hgw id)
    have m2 := cell_kept m2 (UU.out.block g hgw id)
    have hgwr : g < wr.heap.size := Nat.lt_of_lt_of_le hgw UU.out.size
    have hsn := fold_snoc ys xs k hlt
    have okx := OKY.out _ (List.getElem_mem hlt)
    obtain ⟨hn0, hn1⟩ := fold_nrm (ys.take k) xs NX.out fun s hs => OKY.out s (List.mem_of_mem_take hs)
    obtain ⟨y, hy⟩ : ∃ y, ys[k] = y := ⟨_, rfl⟩
    rw [hy] at m0 m1 m2 hsn okx
    have hbd : ((ys.take k).foldl cutL xs).length ≤ 20000 := by have := List.length_take_le k ys; omega
    obtain ⟨O, hO⟩ : ∃ O, (ys.take k).foldl cutL xs = O := ⟨_, rfl⟩
    rw [hO] at hbd hsn hn0 hown
    have HSN := hid hsn; have OX := hid okx; have NO := hid hn0
    have hos := own_cells hown
    obtain ⟨ao, co, rfl, _, _, hcello⟩ := hos
    have hlo := hown.lt
    clear hy hsn okx hO hown OWN HC hn0 hn1
    obtain ⟨W1, hW1⟩ : ∃ W1, W1 = wr.alloc (.cells #[.int .i64 y.mark, .int .i64 y.fr, .int .i64 y.to] 39 (0, 0)) := ⟨_, rfl⟩
    have hb1 : W1.heap[wr.heap.size]? = some (.cells #[.int .i64 y.mark, .int .i64 y.fr, .int .i64 y.to] 39 (0, 0)) := by rw [hW1]; exact heap_alloc_new
    have u1 : Upd (fun _ => False) wr W1 := by rw [hW1]; exact (Upd.refl _ _).alloc _
    have c0 : W1.cell? ⟨wr.heap.size, 0, none⟩ = some (.int .i64 y.mark) := by rw [cell_of_block hb1]; rfl
    have c1 : W1.cell? ⟨wr.heap.size, 1, none⟩ = some (.int .i64 y.fr) := by rw [cell_of_block hb1]; rfl
    have c2 : W1.cell? ⟨wr.heap.size, 2, none⟩ = some (.int .i64 y.to) := by rw [cell_of_block hb1]; rfl
    have HW1 := hid hW1; have U0 := hid u1
    clear hW1 hb1
    have HCO := hid (show ∀ i (hi : i < O.length), ∃ g, ao = some ⟨g, 0, none⟩ ∧ g < wr.heap.size ∧ wr.cell? ⟨g, i * 3, none⟩ = some (.int .i64 O[i].mark) ∧ wr.cell? ⟨g, i * 3 + 1, none⟩ = some (.int .i64 O[i].fr) ∧ wr.cell? ⟨g, i * 3 + 2, none⟩ = some (.int .i64 O[i].to) from fun i hi => by
      obtain ⟨g, e, _, h⟩ := hcello i hi
      exact ⟨g, e, h⟩)
    have hsz1 : W1.heap.size = wr.heap.size + 1 := by rw [HW1.out]; simp
    have hwr : w.heap.size ≤ wr.heap.size := Nat.le_trans U.out.size UU.out.size
    go_wp2_with fail
    rw [← HW1.out]
    obtain ⟨bx, hbx⟩ : ∃ bx, wr.heap.size = bx := ⟨_, rfl⟩
    rw [hbx] at c0 c1 c2 hsz1 ⊢
    have C0 := hid c0; have C1 := hid c1; have C2 := hid c2
    have UW := hid (show Upd (fun _ => False) w1 W1 from UU.out.trans u1)
    have UO := hid u1
    have hwb : w.heap.size ≤ bx := by omega
    clear hcello u1 c0 c1 c2 m0 m1 m2 hgw hgwr hbg hlo u UU hbx
    go_loopg [8, 10, 22] O.length (fun gg s8 _ s22 wr => ∃ j : Nat, j ≤ O.length ∧ gg = O.length - j ∧ s22 = .int .i64 j ∧ wr.ownsRow W1.heap.size 39 3 s8 (((O.take j).map (cutS y)).flatten).length (flatS (((O.take j).map (cutS y)).flatten)) ∧ Upd (fun _ => False) W1 wr)
    case atStart => exact ⟨0, Nat.zero_le _, rfl, rfl, World.ownsRow_nil _ _ _ _, Upd.refl _ _⟩
    case round =>
      obtain ⟨j, hj, hg, rfl, hown, u⟩ := hrel
      have HG2 := hid hg; have OWN4 := hid hown; have U4 := hid u
      by_cases hltj : j < O.length
      case neg =>
        obtain rfl : j = O.length := by omega
        have own2 := hown
        rw [List.take_length] at own2
        have hrep := sps_own_rep (A := fun _ => True) own2 (cuts_wf (ok_wf OX.out) fun s hs => ok_wf (NO.out.ok s hs)) fun _ _ => trivial
        have HR := hid hrep
        have hcl : ((O.map (cutS y)).flatten).length ≤ 100000 := by have := cuts_all y O; omega
        clear hg hown u own2 hrep
        go_wp2_with fail
        refine (norm_any _ _ _ _ HR.out hcl).mono ?_
        rintro e w5 ⟨v5, rfl, hown5, u5q⟩
        have HO5 := hid (show w5.ownsRow w.heap.size 39 3 v5 (cutL O y).length (flatS (cutL O y)) from own_base hown5 (by have := U4.out.size; omega))
        have U5 := hid ((UW.out.trans U4.out).trans u5q)
        clear hown5 u5q
        go_wp2_with fail
        go_roundg (ys.length - (k + 1))
        case measure => have := HG.out; omega
        case rel => exact ⟨k + 1, by omega, rfl, by go_num, by rw [HSN.out]; exact HO5.out, U5.out⟩
      have hltji : (j : Int) < O.length := by omega
      have hj1 : (j : Int) + 1 ≤ 20001 := by omega
      obtain ⟨g3, rfl, hgw3, m0, m1, m2⟩ := HCO.out j hltj
      have u9 := UO.out.trans u
      have m0 := cell_kept m0 (u9.block g3 hgw3 id)
      have m1 := cell_kept m1 (u9.block g3 hgw3 id)
      have m2 := cell_kept m2 (u9.block g3 hgw3 id)
      have hgwi : g3 < wr.heap.size := Nat.lt_of_lt_of_le hgw3 u9.size
      have hbxi : bx < wr.heap.size := by have := u.size; omega
      have c0 := cell_kept C0.out (u.block bx (by omega) id)
      have c1 := cell_kept C1.out (u.block bx (by omega) id)
      have c2 := cell_kept C2.out (u.block bx (by omega) id)
      have hms := cuts_snoc y O j hltj
      obtain ⟨x, hx⟩ : ∃ x, O[j] = x := ⟨_, rfl⟩
      rw [hx] at m0 m1 m2 hms
      have hpl : (((O.take j).map (cutS y)).flatten).length ≤ 40000 := by have := cuts_all y (O.take j); have := List.length_take_le j O; omega
      obtain ⟨P, hP⟩ : ∃ P, ((O.take j).map (cutS y)).flatten = P := ⟨_, rfl⟩
      rw [hP] at hms hpl hown
      have HMS := hid hms; have OW := hid hown
      have hlt5 := hown.lt
      have u5 : Upd (fun _ => False) wr (wr.alloc (.cells #[.int .i64 x.mark, .int .i64 x.fr, .int .i64 x.to] 39 (0, 0))) := (Upd.refl _ _).alloc _
      have own6 := ownsRow_upd hown u5 fun _ _ => id
      have hsz6 : (wr.alloc (.cells #[.int .i64 x.mark, .int .i64 x.fr, .int .i64 x.to] 39 (0, 0))).heap.size = wr.heap.size + 1 := by simp
      have hbs : W1.heap.size ≤ (wr.alloc (.cells #[.int .i64 x.mark, .int .i64 x.fr, .int .i64 x.to] 39 (0, 0))).heap.size := Nat.le_trans u.size u5.size
      clear hx hP hms hg hown OWN4 u9
      by_cases hm : x.mark = y.mark
      · have t1 : (x.mark != y.mark) = false := by rw [hm]; simp
        have HM := hid (show cutS y x = [⟨x.mark, x.fr, min x.to y.fr⟩, ⟨x.mark, max x.fr y.to, x.to⟩] from if_neg fun h => h hm)
        obtain ⟨v', w5, r5, o5, u6, n5⟩ := append_lit elemSp own6 #[.int .i64 x.mark, .int .i64 x.fr, .int .i64 (min x.to y.fr), .int .i64 x.mark, .int .i64 (max x.fr y.to), .int .i64 x.to] 2 rfl (by simp [Value.oneCell']) (by unfold maxLen; omega) (by omega) hbs 23 (0, 0)
        have U6 := hid ((u.trans u5).comp u6 fun i hi e => by have := (hlt5 i e).1; omega)
        have O5 := hid o5
        rw [hsz6] at r5
        clear hm o5 u6 n5 hlt5 u5 own6 hsz6 hbs u
        go_wp2_with (at_builtin; refine wpList_append_run rfl _ _ _ _ rfl rfl rfl r5 ?_)
        go_roundg (O.length - (j + 1))
        case measure => have := HG2.out; omega
        case rel =>
          refine ⟨j + 1, by omega, rfl, by go_num, ?_, U6.out⟩
          rw [HMS.out, HM.out, List.length_append, flatS_append]
          exact O5.out
      · have t1 : (x.mark != y.mark) = true := bne_iff_ne.2 hm
        have HM := hid (show cutS y x = [x] from if_pos hm)
        obtain ⟨v', w5, r5, o5, u6, n5⟩ := append_lit elemSp own6 #[.int .i64 x.mark, .int .i64 x.fr, .int .i64 x.to] 1 rfl (by simp [Value.oneCell']) (by unfold maxLen; omega) (by omega) hbs 23 (0, 0)
        have U6 := hid ((u.trans u5).comp u6 fun i hi e => by have := (hlt5 i e).1; omega)
        have O5 := hid o5
        rw [hsz6] at r5
        clear hm o5 u6 n5 hlt5 u5 own6 hsz6 hbs u
        go_wp2_with (at_builtin; refine wpList_append_run rfl _ _ _ _ rfl rfl rfl r5 ?_)
        go_roundg (O.length - (j + 1))
        case measure => have := HG2.out; omega
        case rel =>
          refine ⟨j + 1, by omega, rfl, by go_num, ?_, U6.out⟩
          rw [HMS.out, HM.out, List.length_append, flatS_append]
          exact O5.out
end Go.Proofs.YtdcahnkcnbhknaaGreatDoor
namespace Go.Proofs.YtdcahnkcnbhknaaGreatDoor
open Go.RowKit Go.Deep

theorem takeP_wf : ∀ (l : List Sp) (n : Int), (∀ s ∈ l, s.Ok) → (∀ p ∈ (takeP l n).1, SpWf p) ∧ ∀ p ∈ (takeP l n).2, SpWf p
  | [], _, _ => ⟨fun _ h => (nomatch h), fun _ h => (nomatch h)⟩
  | s :: l, n, h => by
    have hs := h s List.mem_cons_self
    obtain ⟨i1, i2⟩ := takeP_wf l (max n 0 - min (max n 0) (s.to - s.fr)) fun t ht => h t (List.mem_cons_of_mem _ ht)
    unfold Sp.Ok at hs
    unfold takeP
    constructor
    · intro p hp
      rcases List.mem_cons.1 hp with rfl | hp
      · exact ⟨iwf (by dsimp only; omega), iwf (by dsimp only; omega), iwf (by dsimp only; omega)⟩
      · exact i1 p hp
    · intro p hp
      rcases List.mem_cons.1 hp with rfl | hp
      · exact ⟨iwf (by dsimp only; omega), iwf (by dsimp only; omega), iwf (by dsimp only; omega)⟩
      · exact i2 p hp
def TakePost (r : List Sp × List Sp) (w : World) (e : Ending) (w' : World) : Prop := ∃ v1 v2, e = .returned (.tuple #[v1, v2]) ∧ w'.ownsRow w.heap.size 39 3 v1 r.1.length (flatS r.1) ∧ w'.ownsRow w.heap.size 39 3 v2 r.2.length (flatS r.2) ∧ Upd (fun _ => False) w w'
set_option maxRecDepth 100000 in
set_option maxHeartbeats 16000000 in
theorem take_any (A : Nat → Prop) (v : Value) (l : List Sp) (n0 : Int) (w : World) (hl : kSps.rep A w [v] l) (hlen : l.length ≤ 100000) (hn0 : I64 n0) :
    Calls Tryz.prog 24 #[v, .int .i64 n0] w (TakePost (takeC l n0) w) := by
  have HL := hid hl; have HN0 := hid hn0
  clear hl hn0
  go_enter Tryz.func24, Tryz.ntmps24
  go_wp2_with fail
  refine (norm_any A v l w HL.out hlen).mono ?_
  rintro e w1 ⟨v1, rfl, hown, u⟩
  obtain ⟨xs, hxs⟩ : ∃ xs, normF l = xs := ⟨_, rfl⟩
  have okx : ∀ s ∈ xs, s.Ok := by rw [← hxs]; exact norm_ok l
  have hxl : xs.length ≤ 100000 := by rw [← hxs]; exact Nat.le_trans (norm_len l) hlen
  have HF := hid (show (normF (takeP xs n0).1, normF (takeP xs n0).2) = takeC l n0 by rw [← hxs]; rfl)
  rw [hxs] at hown
  obtain ⟨a, c, rfl, _, _, hcell⟩ := own_cells hown
  have HC := hid hcell; have U := hid u; have OKX := hid okx
  clear hxs hown u hcell okx
  go_wp2_with fail
  go_loopg [1, 6, 7, 9, 10, 14] xs.length (fun gg s1 s6 s7 _ _ s14 wr => ∃ (k : Nat) (F R : List Sp) (n : Int), k ≤ xs.length ∧ gg = xs.length - k ∧ s14 = .int .i64 k ∧ s1 = .int .i64 n ∧ I64 n ∧ wr.ownsRow w1.heap.size 39 3 s6 F.length (flatS F) ∧ wr.ownsRow w1.heap.size 39 3 s7 R.length (flatS R) ∧ F.length = k ∧ R.length = k ∧ (∀ q, s6.ownBlock = some q → s7.ownBlock ≠ some q) ∧ takeP xs n0 = (F ++ (takeP (xs.drop k) n).1, R ++ (takeP (xs.drop k) n).2) ∧ Upd (fun _ => False) w1 wr)
  case atStart => exact ⟨0, [], [], n0, Nat.zero_le _, rfl, rfl, rfl, HN0.out, World.ownsRow_nil _ _ _ _, World.ownsRow_nil _ _ _ _, rfl, rfl, (fun q hq => by cases hq), rfl, Upd.refl _ _⟩
  case round =>
    obtain ⟨k, F, R, n, hk, hg, rfl, rfl, hn, ho6, ho7, hF, hR, hsep, htk, u⟩ := hrel
    have HG := hid hg; have UU := hid u; have TK := hid htk; have SEP := hid hsep; have O6 := hid ho6; have O7 := hid ho7
    have hn1 : -9223372036854775808 ≤ n := hn.1
    have hn2 : n ≤ 9223372036854775807 := hn.2
    clear hg htk hsep
    by_cases hlt : k < xs.length
    case neg =>
      obtain rfl : k = xs.length := by omega
      have tk := TK.out
      rw [List.drop_length] at tk
      have e1 : (takeP xs n0).1 = F := by rw [tk]; simp [takeP]
      have e2 : (takeP xs n0).2 = R := by rw [tk]; simp [takeP]
      obtain ⟨wf1, wf2⟩ := takeP_wf xs n0 OKX.out
      rw [e1] at wf1; rw [e2] at wf2
      have R6 := hid (sps_own_rep (A := fun _ => True) ho6 wf1 fun _ _ => trivial)
      have R7 := hid (sps_own_rep (A := fun _ => True) ho7 wf2 fun _ _ => trivial)
      have HF1 := hid (show normF F = (takeC l n0).1 by rw [← HF.out, e1])
      have HF2 := hid (show normF R = (takeC l n0).2 by rw [← HF.out, e2])
      have hFl : F.length ≤ 100000 := by omega
      have hRl : R.length ≤ 100000 := by omega
      have UW := hid (U.out.trans u)
      clear tk e1 e2 wf1 wf2 ho6 ho7 hF hR u hn hn1 hn2
      go_wp2_with fail
      refine (norm_any _ _ F _ R6.out hFl).mono ?_
      rintro e w5 ⟨v5, rfl, own5, u5⟩
      rw [HF1.out] at own5
      have O5 := hid own5
      have R7b := hid (kSps.keep R7.out (Same.of_upd u5 fun _ _ => id))
      have U5 := hid (UW.out.trans u5)
      have hs5 := UW.out.size
      clear own5 u5
      go_wp2_with fail
      refine (norm_any _ _ R _ R7b.out hRl).mono ?_
      rintro e w6 ⟨v6, rfl, own6, u6⟩
      rw [HF2.out] at own6
      have OA := hid (own_base (ownsRow_upd O5.out u6 fun _ _ => id) hs5)
      have OB := hid (own_base own6 U5.out.size)
      have U6 := hid (U5.out.trans u6)
      clear own6 u6 hs5
      go_wp2_with fail
      go_ret2
      exact ⟨v5, v6, rfl, OA.out, OB.out, U6.out⟩
    have hlti : (k : Int) < xs.length := by omega
    have hk1 : (k : Int) + 1 ≤ 100001 := by omega
    obtain ⟨g, rfl, hbg, hgw, m0, m1, m2⟩ := HC.out k hlt
    have m0 := cell_kept m0 (u.block g hgw id)
    have m1 := cell_kept m1 (u.block g hgw id)
    have m2 := cell_kept m2 (u.block g hgw id)
    have hgwr : g < wr.heap.size := Nat.lt_of_lt_of_le hgw u.size
    have okx := OKX.out _ (List.getElem_mem hlt)
    have hdr : xs.drop k = xs[k] :: xs.drop (k + 1) := List.drop_eq_getElem_cons hlt
    obtain ⟨x, hx⟩ : ∃ x, xs[k] = x := ⟨_, rfl⟩
    rw [hx] at m0 m1 m2 okx hdr
    have hx1 : 0 ≤ x.fr := okx.2.2.1
    have hx2 : x.fr < x.to := okx.2.2.2.1
    have hx3 : x.to ≤ 1048576 := okx.2.2.2.2
    have TK2 := hid (show takeP xs n0 = ((F ++ [⟨x.mark, x.fr, x.fr + min (max n 0) (x.to - x.fr)⟩]) ++ (takeP (xs.drop (k + 1)) (max n 0 - min (max n 0) (x.to - x.fr))).1, (R ++ [⟨x.mark, x.fr + min (max n 0) (x.to - x.fr), x.to⟩]) ++ (takeP (xs.drop (k + 1)) (max n 0 - min (max n 0) (x.to - x.fr))).2) by
      rw [TK.out, hdr]
      conv => lhs; unfold takeP
      simp only [List.append_assoc, List.singleton_append])
    have hlt6 := ho6.lt; have hlt7 := ho7.lt
    have u5 : Upd (fun _ => False) wr (wr.alloc (.cells #[.int .i64 x.mark, .int .i64 x.fr, .int .i64 x.to] 39 (0, 0))) := (Upd.refl _ _).alloc _
    obtain ⟨W1, hW1⟩ : ∃ W1, W1 = wr.alloc (.cells #[.int .i64 x.mark, .int .i64 x.fr, .int .i64 x.to] 39 (0, 0)) := ⟨_, rfl⟩
    have hb1 : W1.heap[wr.heap.size]? = some (.cells #[.int .i64 x.mark, .int .i64 x.fr, .int .i64 x.to] 39 (0, 0)) := by rw [hW1]; exact heap_alloc_new
    have hs1 : W1.heap.size = wr.heap.size + 1 := by rw [hW1]; simp
    rw [← hW1] at u5
    have own6 := ownsRow_upd ho6 u5 fun _ _ => id
    have own7 := ownsRow_upd ho7 u5 fun _ _ => id
    rw [hF] at own6; rw [hR] at own7
    have hbs : w1.heap.size ≤ W1.heap.size := Nat.le_trans u.size u5.size
    obtain ⟨v6, w5, r5, o5, q5, n5⟩ := append_lit elemSp own6 #[.int .i64 x.mark, .int .i64 x.fr, .int .i64 (x.fr + min (max n 0) (x.to - x.fr))] 1 rfl (by simp [Value.oneCell']) (by unfold maxLen; omega) (by omega) hbs 23 (0, 0)
    have own7 := ownsRow_upd own7 q5 fun q h7 h6 => SEP.out q h6 h7
    obtain ⟨v7, w6, r6, o6, q6, n6⟩ := append_lit elemSp own7 #[.int .i64 x.mark, .int .i64 (x.fr + min (max n 0) (x.to - x.fr)), .int .i64 x.to] 1 rfl (by simp [Value.oneCell']) (by unfold maxLen; omega) (by omega) (Nat.le_trans hbs q5.size) 23 (0, 0)
    have hb5 : w5.heap[wr.heap.size]? = some (.cells #[.int .i64 x.mark, .int .i64 x.fr, .int .i64 x.to] 39 (0, 0)) := (q5.block _ (heap_lt hb1) fun h => by have := (hlt6 _ h).2; omega).trans hb1
    have sep56 : ∀ q, v6.ownBlock = some q → u7.ownBlock ≠ some q := fun q hq h7 => by
      rcases n5 with h | ⟨g', h, hgl⟩
      · exact SEP.out q (h ▸ hq) h7
      · rw [h] at hq; injection hq with hq; subst hq
        have := (hlt7 _ h7).2; omega
    have O5 := hid (ownsRow_upd o5 q6 fun q hq h7 => sep56 q hq h7)
    have O6n := hid o6
    have hv6 := o5.lt
    have SEP2 := hid (show ∀ q, v6.ownBlock = some q → v7.ownBlock ≠ some q from fun q hq h7 => by
      rcases n6 with h | ⟨g', h, hgl⟩
      · exact sep56 q hq (h ▸ h7)
      · rw [h] at h7; injection h7 with h7; subst h7
        have := (hv6 _ hq).2; omega)
    have U6 := hid (((u.trans u5).comp q5 fun i hi e => by have := (hlt6 i e).1; omega).comp q6 fun i hi e => by have := (hlt7 i e).1; omega)
    have hsz5 : wr.heap.size < w5.heap.size := heap_lt hb5
    rw [hs1, hW1] at r5
    have b0 : w5.cell? ⟨wr.heap.size, 0, none⟩ = some (.int .i64 x.mark) := by rw [cell_of_block hb5]; rfl
    have b1 : w5.cell? ⟨wr.heap.size, 1, none⟩ = some (.int .i64 x.fr) := by rw [cell_of_block hb5]; rfl
    have b2 : w5.cell? ⟨wr.heap.size, 2, none⟩ = some (.int .i64 x.to) := by rw [cell_of_block hb5]; rfl
    have hF2 := hid hF; have hR2 := hid hR
    have k1 : 0 ≤ min (max n 0) (x.to - x.fr) := by omega
    have k2 : min (max n 0) (x.to - x.fr) ≤ x.to - x.fr := by omega
    have k3 : 0 ≤ max n 0 - min (max n 0) (x.to - x.fr) := by omega
    have k4 : max n 0 - min (max n 0) (x.to - x.fr) ≤ 9223372036854775807 := by omega
    have kn := hid (show I64 (max n 0 - min (max n 0) (x.to - x.fr)) from ⟨by omega, by omega⟩)
    have e1 : IntKind.i64.wrap (max n 0 - min (max n 0) (x.to - x.fr)) = max n 0 - min (max n 0) (x.to - x.fr) := IntWalk.i64_in _ (by omega)
    have e2 : IntKind.i64.wrap (x.fr + min (max n 0) (x.to - x.fr)) = x.fr + min (max n 0) (x.to - x.fr) := IntWalk.i64_in _ (by omega)
    clear hx hdr okx hW1 hb1 hs1 u5 own6 own7 hbs o5 q5 n5 o6 q6 n6 hb5 sep56 hv6 u ho6 ho7 hlt6 hlt7 hF hR hn
    go_wp2_with (at_builtin; first | refine wpList_append_run rfl _ _ _ _ rfl rfl rfl r5 ?_ | refine wpList_append_run rfl _ _ _ _ rfl rfl rfl r6 ?_)
    go_roundg (xs.length - (k + 1))
    case measure => have := HG.out; omega
    case rel =>
      exact ⟨k + 1, F ++ [⟨x.mark, x.fr, x.fr + min (max n 0) (x.to - x.fr)⟩], R ++ [⟨x.mark, x.fr + min (max n 0) (x.to - x.fr), x.to⟩], _, by omega, rfl, by go_num, rfl, kn.out, by rw [List.length_append, hF2.out, flatS_append]; exact O5.out, by rw [List.length_append, hR2.out, flatS_append]; exact O6n.out, by rw [List.length_append, hF2.out]; rfl, by rw [List.length_append, hR2.out]; rfl, SEP2.out, TK2.out, U6.out⟩
end Go.Proofs.YtdcahnkcnbhknaaGreatDoor
