/- Walks: Count, Has, Union. -/
/- Walks: Grow, Concat, Union. -/
import Derived.Test.YtdcahnkcnbhknaaGreatDoorEnNormW
import Derived.Test.YtdcahnkcnbhknaaGreatDoorSortS
import Derived.Shelf.SlicesQ.IndexFunc
import Derived.Test.YtdcahnkcnbhknaaGreatDoorEnTake
import Derived.Lib.AppendZeros
namespace Go.Proofs.YtdcahnkcnbhknaaGreatDoor
open Go.RowKit Go.Deep

set_option maxRecDepth 100000 in
set_option maxHeartbeats 4000000 in
theorem count_any (A : Nat → Prop) (v : Value) (l : List Sp) (w : World) (hl : kSps.rep A w [v] l) (hlen : l.length ≤ 100000) :
    Calls Tryz.prog 31 #[v] w fun e w' => e = .returned (.int .i64 (countF l)) ∧ Upd (fun _ => False) w w' := by
  have HL := hid hl
  clear hl
  go_enter Tryz.func31, Tryz.ntmps31
  go_wp2_with fail
  refine (norm_any A v l w HL.out hlen).mono ?_
  rintro e w1 ⟨v1, rfl, hown, u⟩
  obtain ⟨r, hr⟩ : ∃ r, normF l = r := ⟨_, rfl⟩
  have hok : ∀ s ∈ r, s.Ok := by rw [← hr]; exact norm_ok l
  have hrl : r.length ≤ 100000 := by rw [← hr]; exact Nat.le_trans (norm_len l) hlen
  have HF := hid (show spanSum r = countF l by rw [← hr]; rfl)
  rw [hr] at hown
  obtain ⟨a, c, rfl, _, _, hcell⟩ := own_cells hown
  have HC := hid hcell; have U := hid u; have OK := hid hok
  clear hr hown u hcell hok
  go_wp2_with fail
  go_loopg [3, 5, 9] r.length (fun gg s3 _ s9 wr => ∃ k : Nat, k ≤ r.length ∧ gg = r.length - k ∧ s9 = .int .i64 k ∧ s3 = .int .i64 (spanSum (r.take k)) ∧ Upd (fun _ => False) w1 wr)
  case atStart => exact ⟨0, Nat.zero_le _, rfl, rfl, rfl, Upd.refl _ _⟩
  case round =>
    obtain ⟨k, hk, hg, rfl, rfl, u⟩ := hrel
    have HG := hid hg; have UU := hid u
    have hsr := sum_range OK.out k
    have htl : (r.take k).length ≤ k := List.length_take_le _ _
    clear hg u
    by_cases hlt : k < r.length
    · have hlti : (k : Int) < r.length := by omega
      obtain ⟨g, rfl, hbg, hgw, m0, m1, m2⟩ := HC.out k hlt
      have m0 := cell_kept m0 (UU.out.block g hgw id)
      have m1 := cell_kept m1 (UU.out.block g hgw id)
      have m2 := cell_kept m2 (UU.out.block g hgw id)
      have hst := sum_take k hlt
      have hx0 := OK.out _ (List.getElem_mem hlt)
      obtain ⟨x, hx⟩ : ∃ x, r[k] = x := ⟨_, rfl⟩
      rw [hx] at m0 m1 m2 hst hx0
      have HST := hid hst
      have hx1 : 0 ≤ x.fr := hx0.2.2.1
      have hx2 : x.fr < x.to := hx0.2.2.2.1
      have hx3 : x.to ≤ 1048576 := hx0.2.2.2.2
      have hgwr : g < wr.heap.size := Nat.lt_of_lt_of_le hgw UU.out.size
      obtain ⟨S, hS⟩ : ∃ S, spanSum (r.take k) = S := ⟨_, rfl⟩
      rw [hS] at hsr ⊢
      have HS := hid hS
      have hs0 := hsr.1
      have hs1 : S ≤ 104857600000 := by omega
      clear hst hx hx0 hS hsr
      go_wp2_with fail
      go_roundg (r.length - (k + 1))
      case measure => have := HG.out; omega
      case rel => exact ⟨k + 1, by omega, rfl, by go_num, by rw [HST.out, HS.out], UU.out.trans ((Upd.refl _ _).alloc _)⟩
    · obtain rfl : k = r.length := by omega
      have HS := hid (show spanSum (r.take r.length) = countF l by rw [List.take_length]; exact HF.out)
      clear hsr htl
      go_wp2_with fail
      go_ret
      exact ⟨by rw [HS.out]; rfl, U.out.trans UU.out⟩
/-- Whether a span has a coin. -/
def hasB (s : Sp) (m n : Int) : Bool := decide (s.Ok ∧ s.mark = m ∧ s.fr ≤ n ∧ n < s.to)
set_option maxRecDepth 100000 in
set_option maxHeartbeats 2000000 in
theorem has1_any (s : Sp) (m n : Int) (p q : Nat) (W : World) (hp : W.cell? ⟨p, 0, none⟩ = some (.int .i64 m)) (hq : W.cell? ⟨q, 0, none⟩ = some (.int .i64 n)) :
    Calls Tryz.prog 98 #[spVal s, .pointer (some ⟨p, 0, none⟩), .pointer (some ⟨q, 0, none⟩)] W fun e w' => e = .returned (.bool (hasB s m n)) ∧ Upd (fun _ => False) W w' := by
  have hpw := World.block_lt_of_cell? _ _ hp
  have hqw := World.block_lt_of_cell? _ _ hq
  obtain ⟨W1, hW1⟩ : ∃ W1, W1 = W.alloc (.cells #[.int .i64 s.mark, .int .i64 s.fr, .int .i64 s.to] 39 (0, 0)) := ⟨_, rfl⟩
  have hb1 : W1.heap[W.heap.size]? = some (.cells #[.int .i64 s.mark, .int .i64 s.fr, .int .i64 s.to] 39 (0, 0)) := by rw [hW1]; exact heap_alloc_new
  have u1 : Upd (fun _ => False) W W1 := by rw [hW1]; exact (Upd.refl _ _).alloc _
  have c0 : W1.cell? ⟨W.heap.size, 0, none⟩ = some (.int .i64 s.mark) := by rw [cell_of_block hb1]; rfl
  have c1 : W1.cell? ⟨W.heap.size, 1, none⟩ = some (.int .i64 s.fr) := by rw [cell_of_block hb1]; rfl
  have c2 : W1.cell? ⟨W.heap.size, 2, none⟩ = some (.int .i64 s.to) := by rw [cell_of_block hb1]; rfl
  have e0 := cell_kept hp (u1.block p hpw id)
  have e1 := cell_kept hq (u1.block q hqw id)
  have HW1 := hid hW1; have U1 := hid u1
  clear hW1 hb1 u1 hp hq
  have go : ∀ b, hasB s m n = b → (∀ w2, Upd (fun _ => False) W1 w2 → True) → True := fun _ _ _ => trivial
  clear go
  by_cases ho : s.Ok
  case neg =>
    have HB := hid (show hasB s m n = false from decide_eq_false fun h => ho h.1)
    have hv : ∀ w, Calls Tryz.prog 87 #[.agg #[.int .i64 s.mark, .int .i64 s.fr, .int .i64 s.to]] w fun e w' => e = .returned (.bool false) ∧ Upd (fun _ => False) w w' := fun w => (valid_any s w).mono fun e w' h => ⟨by rw [h.1, decide_eq_false ho], h.2⟩
    have HV := hid hv
    clear hv ho
    unfold spVal
    go_enter Tryz.func98, Tryz.ntmps98
    go_wp2_with fail
    rw [← HW1.out]
    go_wp2_with (go_at_call 87; refine (HV.out _).mono ?_; rintro e w2 ⟨rfl, u2⟩; have U2 := hid u2; clear u2)
    go_ret
    exact ⟨by rw [HB.out]; rfl, U1.out.trans U2.out⟩
  have hv : ∀ w, Calls Tryz.prog 87 #[.agg #[.int .i64 s.mark, .int .i64 s.fr, .int .i64 s.to]] w fun e w' => e = .returned (.bool true) ∧ Upd (fun _ => False) w w' := fun w => (valid_any s w).mono fun e w' h => ⟨by rw [h.1, decide_eq_true ho], h.2⟩
  have HV := hid hv; have HO := hid ho
  clear hv ho
  by_cases h1 : s.mark = m
  case neg =>
    have HB := hid (show hasB s m n = false from decide_eq_false fun h => h1 h.2.1)
    have t1 : (s.mark == m) = false := beq_eq_false_iff_ne.2 h1
    clear h1
    unfold spVal
    go_enter Tryz.func98, Tryz.ntmps98
    go_wp2_with fail
    rw [← HW1.out]
    go_wp2_with (go_at_call 87; refine (HV.out _).mono ?_; rintro e w2 ⟨rfl, u2⟩; have U2 := hid u2; have c0 := cell_kept c0 (u2.block _ (World.block_lt_of_cell? _ _ c0) id); have e0 := cell_kept e0 (u2.block _ (World.block_lt_of_cell? _ _ e0) id); clear u2)
    go_ret
    exact ⟨by rw [HB.out]; rfl, U1.out.trans U2.out⟩
  have t1 : (s.mark == m) = true := beq_iff_eq.2 h1
  have H1 := hid h1
  clear h1
  by_cases h2 : s.fr ≤ n
  case neg =>
    have HB := hid (show hasB s m n = false from decide_eq_false fun h => h2 h.2.2.1)
    have t2 : decide (s.fr ≤ n) = false := decide_eq_false h2
    clear h2
    unfold spVal
    go_enter Tryz.func98, Tryz.ntmps98
    go_wp2_with fail
    rw [← HW1.out]
    go_wp2_with (go_at_call 87; refine (HV.out _).mono ?_; rintro e w2 ⟨rfl, u2⟩; have U2 := hid u2; have c0 := cell_kept c0 (u2.block _ (World.block_lt_of_cell? _ _ c0) id); have c1 := cell_kept c1 (u2.block _ (World.block_lt_of_cell? _ _ c1) id); have e0 := cell_kept e0 (u2.block _ (World.block_lt_of_cell? _ _ e0) id); have e1 := cell_kept e1 (u2.block _ (World.block_lt_of_cell? _ _ e1) id); clear u2)
    go_ret
    exact ⟨by rw [HB.out]; rfl, U1.out.trans U2.out⟩
  have t2 : decide (s.fr ≤ n) = true := decide_eq_true h2
  have HB := hid (show hasB s m n = decide (n < s.to) from decide_eq_decide.2 ⟨fun h => h.2.2.2, fun h => ⟨HO.out, H1.out, h2, h⟩⟩)
  clear h2
  obtain ⟨t3, ht3⟩ : ∃ b, decide (n < s.to) = b := ⟨_, rfl⟩
  have HB2 := hid (HB.out.trans ht3)
  unfold spVal
  go_enter Tryz.func98, Tryz.ntmps98
  go_wp2_with fail
  rw [← HW1.out]
  go_wp2_with (go_at_call 87; refine (HV.out _).mono ?_; rintro e w2 ⟨rfl, u2⟩; have U2 := hid u2; have c0 := cell_kept c0 (u2.block _ (World.block_lt_of_cell? _ _ c0) id); have c1 := cell_kept c1 (u2.block _ (World.block_lt_of_cell? _ _ c1) id); have c2 := cell_kept c2 (u2.block _ (World.block_lt_of_cell? _ _ c2) id); have e0 := cell_kept e0 (u2.block _ (World.block_lt_of_cell? _ _ e0) id); have e1 := cell_kept e1 (u2.block _ (World.block_lt_of_cell? _ _ e1) id); clear u2)
  go_ret
  exact ⟨by rw [HB2.out]; rfl, U1.out.trans U2.out⟩
theorem egH : ∀ args w, (callFunc 98 args).run Tryz.prog w = .ok (.enter 98 args) w := enters_of Tryz.func98 (by kernel_rfl) rfl
theorem any_has (l : List Sp) (m n : Int) : (l.any fun s => hasB s m n) = decide (HasM l m n) := by
  have h : (l.any fun s => hasB s m n) = true ↔ HasM l m n := by
    simp only [List.any_eq_true, HasM, hasB, decide_eq_true_eq]
  by_cases hx : HasM l m n
  · rw [decide_eq_true hx]; exact h.2 hx
  · rw [decide_eq_false hx]; exact Bool.eq_false_iff.2 fun h' => hx (h.1 h')
theorem cf_none (a : Option Addr) (c : Nat) (fv : Value) (w : World) : Calls Tryz.prog 97 #[.slice a 0 c, fv] w fun e w' => e = .returned (.bool false) ∧ w = w' := by
  go_enter Tryz.func97, Tryz.ntmps97
  go_wp2_with (go_at_call 114; refine (idx_none _ _ _ _).mono ?_; rintro e w1 ⟨rfl, rfl⟩)
  go_ret
  exact ⟨rfl, rfl⟩
set_option maxRecDepth 100000 in
set_option maxHeartbeats 2000000 in
theorem has_any (A : Nat → Prop) (v : Value) (l : List Sp) (m n : Int) (w : World) (hl : kSps.rep A w [v] l) :
    Calls Tryz.prog 33 #[v, .int .i64 m, .int .i64 n] w fun e w' => e = .returned (.bool (decide (HasM l m n))) ∧ Upd (fun _ => False) w w' := by
  obtain ⟨a, c, rfl, h1, h2, h3⟩ := slice_open hl
  unfold maxLen at h2
  obtain ⟨W1, hW1⟩ : ∃ W1, W1 = (w.alloc (.cells #[.int .i64 m] 3 (0, 0))).alloc (.cells #[.int .i64 n] 3 (0, 0)) := ⟨_, rfl⟩
  have u1 : Upd (fun _ => False) w W1 := by rw [hW1]; exact ((Upd.refl _ _).alloc _).alloc _
  have e0 : W1.cell? ⟨w.heap.size, 0, none⟩ = some (.int .i64 m) := by rw [hW1]; exact Lib.cell?_alloc_some _ (by rw [cell_of_block heap_alloc_new]; rfl)
  have e1 : W1.cell? ⟨w.heap.size + 1, 0, none⟩ = some (.int .i64 n) := by
    rw [hW1]; exact alloc_cell (by simp) rfl
  have hW0 : w.heap.size < W1.heap.size := World.block_lt_of_cell? _ _ e0
  have hW2 : w.heap.size + 1 < W1.heap.size := World.block_lt_of_cell? _ _ e1
  have HW1 := hid hW1; have U1 := hid u1
  rcases Nat.eq_zero_or_pos l.length with h0 | hpos
  · have HB := hid (show decide (HasM l m n) = false from decide_eq_false fun ⟨s, hs, _⟩ => by rw [List.length_eq_zero_iff.1 h0] at hs; cases hs)
    rw [h0]
    clear hW1 u1 hl h3 h0
    go_enter Tryz.func33, Tryz.ntmps33
    go_wp2_with (go_at_call 97; refine (cf_none _ _ _ _).mono ?_; rintro e w2 ⟨rfl, rfl⟩)
    go_ret
    exact ⟨by rw [HB.out]; rfl, ((Upd.refl _ _).alloc _).alloc _⟩
  · obtain ⟨b, o, rfl, hb, hel⟩ := h3 hpos
    have hbw : b < w.heap.size := World.block_lt_of_cell? _ _ (sp_cells hel hpos).2.1
    have hcon := AnyQ.slices_ContainsFunc Tryz.hasA 3 Tryz.isAgg39 Tryz.sizeOf39 spCells (fun _ => rfl) (fun s => hasB s m n) 98 #[.pointer (some ⟨w.heap.size, 0, none⟩), .pointer (some ⟨w.heap.size + 1, 0, none⟩)] egH b o l.length c l W1
      (fun W x hB => (has1_any x m n _ _ W ((hB.cell (p := ⟨w.heap.size, 0, none⟩) hW0).trans e0) ((hB.cell (p := ⟨w.heap.size + 1, 0, none⟩) hW2).trans e1)).mono fun e w' ⟨he, u⟩ => ⟨he, hB.trans (u.below hB.size fun _ h => h.elim)⟩)
      (Nat.le_refl _) (by omega) (Nat.lt_of_lt_of_le hbw u1.size) (fun j hj i x hx => by
        obtain ⟨_, g0, g1, g2⟩ := sp_cells hel hj
        have g0 := cell_kept g0 (u1.block b hbw id)
        have g1 := cell_kept g1 (u1.block b hbw id)
        have g2 := cell_kept g2 (u1.block b hbw id)
        rw [getElem!_pos l j hj] at hx
        have : i < 3 := (List.getElem?_eq_some_iff.1 hx).1
        have : i = 0 ∨ i = 1 ∨ i = 2 := by omega
        rcases this with rfl | rfl | rfl
        · rw [Nat.add_zero, g0]; exact hx
        · rw [g1]; exact hx
        · rw [g2]; exact hx)
    change Calls Tryz.prog 97 _ _ _ at hcon
    rw [List.take_length, any_has] at hcon
    have HC := hid hcon
    obtain ⟨bb, hbb⟩ : ∃ bb, decide (HasM l m n) = bb := ⟨_, rfl⟩
    rw [hbb] at hcon ⊢
    have HC := hid hcon
    clear hW1 u1 hl h3 hel hcon hbb
    go_enter Tryz.func33, Tryz.ntmps33
    go_wp2_with fail
    rw [← HW1.out]
    refine HC.out.mono ?_
    rintro e w2 ⟨rfl, hB⟩
    have U2 := hid (U1.out.trans (Upd.of_below hB fun i hi _ => hi))
    clear hB
    go_wp2_with fail
    go_ret
    exact ⟨rfl, U2.out⟩
end Go.Proofs.YtdcahnkcnbhknaaGreatDoor
namespace Go.Proofs.YtdcahnkcnbhknaaGreatDoor
open Go.RowKit Go.Deep

def GrowPost (w : World) (e : Ending) (w' : World) : Prop := ∃ v, e = .returned v ∧ w'.ownsRow w.heap.size 39 3 v 0 [] ∧ Upd (fun _ => False) w w'
set_option maxRecDepth 100000 in
set_option maxHeartbeats 1000000 in
theorem grow_any (n : Nat) (hn : n ≤ 1000000) (w : World) : Calls Tryz.prog 118 #[.slice none 0 0, .int .i64 n] w (GrowPost w) := by
  have hni : (n : Int) ≤ 1000000 := by omega
  rcases Nat.eq_zero_or_pos n with h0 | hpos
  · subst h0
    go_enter Tryz.func118, Tryz.ntmps118
    go_wp2_with fail
    go_ret
    exact ⟨_, rfl, World.ownsRow_nil _ _ _ _, Upd.refl _ _⟩
  · obtain ⟨i0, hi, hz0, hz1, hz2⟩ := info_parts (show (Tryz.prog.info? 39).map (fun i => (i.zero, i.size, i.bytes)) = some (some (.agg #[.int .i64 0, .int .i64 0, .int .i64 0]), 3, 24) by kernel_rfl)
    have hr := fun ty => Lib.run_append_nil_zeros (P := Tryz.prog) w 23 3 ty 39 i0 _ .i64 .i64 Tryz.underlying23 Tryz.underlying3 hi hz0 n hpos (by omega) (by omega) (by rw [hz2]; omega)
    have hge := grownCap_ge w n 0 39
    have hcm := grownCap_le_maxLen w n 0 39 (by unfold maxLen; omega)
    obtain ⟨gc, hgc⟩ : ∃ gc, grownCap w n 0 39 = gc := ⟨_, rfl⟩
    rw [hgc] at hr hge hcm
    obtain ⟨w1, hw1⟩ : ∃ w1, w.drew.alloc (.cells (Builtin.zeroCells (Value.agg #[.int .i64 0, .int .i64 0, .int .i64 0]).cells n ++ Builtin.zeroCells (Value.agg #[.int .i64 0, .int .i64 0, .int .i64 0]).cells (gc - n)) 39) = w1 := ⟨_, rfl⟩
    rw [hw1] at hr
    have HP := hid (show w1.ownsRow w.heap.size 39 3 (.slice (some ⟨w.heap.size, 0, none⟩) 0 gc) 0 [] ∧ Upd (fun _ => False) w w1 from ⟨⟨rfl, .inr ⟨w.heap.size, gc, _, rfl, Nat.le_refl _, by rw [← hw1]; exact heap_alloc_new (w := w.drew), Nat.zero_le _, hcm, by
        rw [Array.size_append, size_zeroCells, size_zeroCells]
        show n * 3 + (gc - n) * 3 = gc * 3
        omega, by simp⟩⟩, by rw [← hw1]; exact ((Upd.refl _ w).drew).alloc _⟩)
    have hni0 : (0 : Int) < (n : Int) := by omega
    have hr := hr 23
    have hgci : (0 : Int) ≤ (gc : Int) := by omega
    clear hw1 hgc hi hz0 hz1 hz2 hcm hge
    go_enter Tryz.func118, Tryz.ntmps118
    go_wp2_with (at_builtin; refine wpList_append_run rfl _ _ _ _ rfl rfl rfl hr ?_)
    go_ret
    exact ⟨_, rfl, HP.out⟩
set_option maxRecDepth 100000 in
set_option maxHeartbeats 4000000 in
theorem concat_any (A : Nat → Prop) (a1 a2 : Option Addr) (c1 c2 : Nat) (l1 l2 : List Sp) (p : Nat) (w : World) (h1 : kSps.rep A w [.slice a1 l1.length c1] l1) (h2 : kSps.rep A w [.slice a2 l2.length c2] l2)
    (hl1 : l1.length ≤ 100000) (hl2 : l2.length ≤ 100000) (q1 : w.cell? ⟨p, 0, none⟩ = some (.slice a1 l1.length c1)) (q2 : w.cell? ⟨p, 1, none⟩ = some (.slice a2 l2.length c2)) :
    Calls Tryz.prog 99 #[.slice (some ⟨p, 0, none⟩) 2 2] w (SpsPost (l1 ++ l2) w) := by
  obtain ⟨n1, hn1⟩ : ∃ n, l1.length = n := ⟨_, rfl⟩
  obtain ⟨n2, hn2⟩ : ∃ n, l2.length = n := ⟨_, rfl⟩
  have HN1 := hid hn1; have HN2 := hid hn2
  have H1 := hid h1; have H2 := hid h2
  have hpw := World.block_lt_of_cell? _ _ q1
  rw [hn1] at hl1 q1; rw [hn2] at hl2 q2
  have b1 : (n1 : Int) ≤ 100000 := by omega
  have b2 : (n2 : Int) ≤ 100000 := by omega
  clear hn1 hn2 h1 h2
  have Q0 := hid q1; have Q9 := hid q2
  go_enter Tryz.func99, Tryz.ntmps99
  go_wp2_with fail
  go_loopg [3, 5, 11] 2 (fun gg s3 _ s11 wr => w = wr ∧ ((gg = 2 ∧ s3 = .int .i64 0 ∧ s11 = .int .i64 0) ∨ (gg = 1 ∧ s3 = .int .i64 n1 ∧ s11 = .int .i64 1) ∨ (gg = 0 ∧ s3 = .int .i64 ((n1 + n2 : Nat) : Int) ∧ s11 = .int .i64 2)))
  case atStart => exact ⟨rfl, .inl ⟨rfl, rfl, rfl⟩⟩
  case round =>
    obtain ⟨rfl, ⟨rfl, rfl, rfl⟩ | ⟨rfl, rfl, rfl⟩ | ⟨rfl, rfl, rfl⟩⟩ := hrel
    · go_wp2_with fail
      go_roundg 1
      case measure => omega
      case rel => exact ⟨rfl, .inr (.inl ⟨rfl, by first | rfl | go_num, by first | rfl | go_num⟩)⟩
    · go_wp2_with fail
      go_roundg 0
      case measure => omega
      case rel => exact ⟨rfl, .inr (.inr ⟨rfl, by first | rfl | go_num, by first | rfl | go_num⟩)⟩
    · go_wp2_with fail
      refine (grow_any (n1 + n2) (by omega) _).mono ?_
      rintro e w1 ⟨v1, rfl, hown, u⟩
      have OWN := hid hown; have U := hid u
      clear hown u q1 q2
      go_wp2_with fail
      go_loopg [6, 8, 27] 2 (fun gg s6 _ s27 wr => Upd (fun _ => False) w wr ∧ ((gg = 2 ∧ s27 = .int .i64 0 ∧ wr.ownsRow w.heap.size 39 3 s6 0 []) ∨ (gg = 1 ∧ s27 = .int .i64 1 ∧ wr.ownsRow w.heap.size 39 3 s6 n1 (flatS l1)) ∨ (gg = 0 ∧ s27 = .int .i64 2 ∧ wr.ownsRow w.heap.size 39 3 s6 (n1 + n2) (flatS l1 ++ flatS l2))))
      case atStart => exact ⟨U.out, .inl ⟨rfl, rfl, OWN.out⟩⟩
      case round =>
        obtain ⟨u, ⟨rfl, rfl, hown⟩ | ⟨rfl, rfl, hown⟩ | ⟨rfl, rfl, hown⟩⟩ := hrel
        · have q1 := cell_kept Q0.out (u.block p hpw id)
          obtain ⟨v', w2, r2, o2, g2⟩ := append_src hown a1 c1 l1 (kSps.keep H1.out (Same.of_upd u fun _ _ => id)) (by rw [HN1.out]; omega) u.size
          have hlt2 := hown.lt
          have U2 := hid (u.grown g2 fun k hk => .inr (hlt2 k hk).1)
          rw [HN1.out] at r2 o2
          have O2 := hid o2
          clear hown u hlt2 g2 o2
          go_wp2_with (at_builtin; refine wpList_append_run rfl _ _ _ _ rfl rfl rfl r2 ?_)
          go_roundg 1
          case measure => omega
          case rel => exact ⟨U2.out, .inr (.inl ⟨rfl, by first | rfl | go_num, by have := O2.out; simpa using this⟩)⟩
        · have q2 := cell_kept Q9.out (u.block p hpw id)
          obtain ⟨v', w2, r2, o2, g2⟩ := append_src hown a2 c2 l2 (kSps.keep H2.out (Same.of_upd u fun _ _ => id)) (by rw [HN2.out]; omega) u.size
          have hlt2 := hown.lt
          have U2 := hid (u.grown g2 fun k hk => .inr (hlt2 k hk).1)
          rw [HN2.out] at r2 o2
          have O2 := hid o2
          clear hown u hlt2 g2 o2
          go_wp2_with (at_builtin; refine wpList_append_run rfl _ _ _ _ rfl rfl rfl r2 ?_)
          go_roundg 0
          case measure => omega
          case rel => exact ⟨U2.out, .inr (.inr ⟨rfl, by first | rfl | go_num, O2.out⟩)⟩
        · have OW := hid hown; have UU := hid u
          clear hown u
          go_wp2_with fail
          go_ret
          exact ⟨_, rfl, by have := OW.out; rw [← HN1.out, ← HN2.out] at this; rw [List.length_append, flatS_append]; exact this, UU.out⟩
theorem union_any (A : Nat → Prop) (a1 a2 : Option Addr) (c1 c2 : Nat) (l1 l2 : List Sp) (w : World) (h1 : kSps.rep A w [.slice a1 l1.length c1] l1) (h2 : kSps.rep A w [.slice a2 l2.length c2] l2)
    (hl1 : l1.length ≤ 10000) (hl2 : l2.length ≤ 10000) : Calls Tryz.prog 35 #[.slice a1 l1.length c1, .slice a2 l2.length c2] w (SpsPost (unionF l1 l2) w) := by
  have wf : ∀ s ∈ l1 ++ l2, SpWf s := fun s hs => (List.mem_append.1 hs).elim (sps_wf h1 s) (sps_wf h2 s)
  have u0 : ∀ o, Upd (fun _ => False) w (w.alloc o) := fun o => (Upd.refl _ _).alloc o
  have H1 := hid h1; have H2 := hid h2; have WF := hid wf; have U0 := hid u0
  have hA : (l1 ++ l2).length ≤ 100000 := by rw [List.length_append]; omega
  clear h1 h2 wf u0
  go_enter Tryz.func35, Tryz.ntmps35
  go_wp2_with fail
  refine (concat_any A a1 a2 c1 c2 l1 l2 _ _ (kSps.keep H1.out (Same.of_upd (U0.out _) fun _ _ => id)) (kSps.keep H2.out (Same.of_upd (U0.out _) fun _ _ => id)) (by omega) (by omega) (by rw [cell_of_block heap_alloc_new]; rfl) (by rw [cell_of_block heap_alloc_new]; rfl)).mono ?_
  rintro e w1 ⟨v1, rfl, hown, u⟩
  have U1 := hid ((U0.out _).trans u)
  have hrep := sps_own_rep (A := fun _ => True) hown WF.out fun _ _ => trivial
  have HR := hid hrep
  clear hown u hrep
  go_wp2_with fail
  refine (norm_any _ v1 (l1 ++ l2) _ HR.out hA).mono ?_
  rintro e w2 ⟨v2, rfl, hown, u⟩
  have HO := hid (show w2.ownsRow w.heap.size 39 3 v2 (unionF l1 l2).length (flatS (unionF l1 l2)) from own_base hown U1.out.size)
  have U2 := hid (U1.out.trans u)
  clear hown u
  go_wp2_with fail
  go_ret
  exact ⟨_, rfl, HO.out, U2.out⟩
end Go.Proofs.YtdcahnkcnbhknaaGreatDoor
