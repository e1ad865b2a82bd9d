/- Walks: the reference's put, Norm, Count and Union. -/
import Derived.Test.YtdcahnkcnbhknaaGreatDoorEnRfA
import Derived.Test.YtdcahnkcnbhknaaGreatDoorEnRow
import Derived.StillTailTactics
import Derived.Deep.RegionHeld3
namespace Go.Proofs.YtdcahnkcnbhknaaGreatDoor
open Go.RowKit Go.Deep

theorem putA_hit {x s : Sp} {r : List Sp} (h : x.mark < s.mark ∨ (x.mark = s.mark ∧ x.to < s.fr)) : putA (x :: r) s = x :: putA r s := by
  conv => lhs; unfold putA
  rw [if_pos h]
theorem putA_miss {x s : Sp} {r : List Sp} (h : ¬ (x.mark < s.mark ∨ (x.mark = s.mark ∧ x.to < s.fr))) : putA (x :: r) s = putB (x :: r) s := by
  conv => lhs; unfold putA
  rw [if_neg h]
theorem putB_hit {x s : Sp} {r : List Sp} (h : x.mark = s.mark ∧ x.fr ≤ s.to) : putB (x :: r) s = putB r ⟨s.mark, min s.fr x.fr, max s.to x.to⟩ := by
  conv => lhs; unfold putB
  rw [if_pos h]
theorem putB_miss {x s : Sp} {r : List Sp} (h : ¬ (x.mark = s.mark ∧ x.fr ≤ s.to)) : putB (x :: r) s = s :: x :: r := by
  conv => lhs; unfold putB
  rw [if_neg h]
/-- The rest of a slice. -/
theorem sps_drop {A B : Nat → Prop} {w : World} {b o c : Nat} {l : List Sp} (hel : Elems kSp A w b o l) (h2 : c ≤ maxLen) (hB : B b) (j : Nat) (hlc : l.length ≤ c) :
    kSps.rep B w [.slice (some ⟨b, o + j * 3, none⟩) (l.length - j) (c - j)] (l.drop j) := by
  refine .inr ⟨b, o + j * 3, c - j, by rw [List.length_drop], by rw [List.length_drop]; omega, by unfold maxLen at *; omega, hB, fun i hi => ?_⟩
  rw [List.length_drop] at hi
  obtain ⟨cs, hr, hc⟩ := hel (j + i) (by omega)
  obtain ⟨rfl, hw⟩ := sp_open hr
  refine ⟨_, by rw [List.getElem_drop]; exact sp_rep hw, fun q hq => ?_⟩
  have := hc q hq
  rw [show kSp.size = 3 from rfl] at *
  rw [show o + j * 3 + i * 3 + q = o + (j + i) * 3 + q by omega]
  exact this
theorem append_zero {P : Program} {w : World} {base n c : Nat} {t ty e : TypeId} {size bytes : Nat} (T : ElemTy P t e size bytes) {v : Value} {xs : List Value} (hown : w.ownsRow base e size v n xs) (a : Option Addr) :
    (Builtin.append_ #[t, t] ty #[v, .slice a 0 c]).run P w = .ok v w := by
  obtain ⟨ht, ⟨i, z, hi, _⟩, _⟩ := T
  cases a <;> rcases hown.2 with ⟨rfl, rfl⟩ | ⟨g, cap, cur, rfl, _, _, hnc, _⟩
  · simp [Builtin.append_, run_underlying ht, sizeOf, typeInfo, hi, Builtin.lenOf, Builtin.firstCells]
  · simp [Builtin.append_, run_underlying ht, sizeOf, typeInfo, hi, Builtin.lenOf, Builtin.firstCells, hnc, storeCells]
  · simp [Builtin.append_, run_underlying ht, sizeOf, typeInfo, hi, Builtin.lenOf, Builtin.firstCells, loadCells, loadCellsFrom]
  · simp [Builtin.append_, run_underlying ht, sizeOf, typeInfo, hi, Builtin.lenOf, Builtin.firstCells, hnc, storeCells, loadCells, loadCellsFrom]
/-- One span more, and others behind it. -/
theorem put_end {w : World} {base k n' c' : Nat} {v : Value} {xs : List Value} (own : w.ownsRow base 39 3 v k xs) (hk : k ≤ 100000) (hb : base ≤ w.heap.size) (t : Sp) {r : List Sp} (hr : r.length ≤ 100000) {a' : Option Addr} (hn : n' = r.length) (hrep : kSps.rep (· < base) w [.slice a' n' c'] r) :
    ∃ v1 w1 v2 w2, (Builtin.append_ #[23, 23] 23 #[v, .slice (some ⟨w.heap.size, 0, none⟩) 1 1]).run Tryz.prog ((w.alloc (.cells #[.int .i64 t.mark, .int .i64 t.fr, .int .i64 t.to] 39 (0, 0))).drew) = .ok v1 w1 ∧
      (Builtin.append_ #[23, 23] 23 #[v1, .slice a' n' c']).run Tryz.prog w1 = .ok v2 w2 ∧ w2.ownsRow base 39 3 v2 (k + 1 + n') (xs ++ [.int .i64 t.mark, .int .i64 t.fr, .int .i64 t.to] ++ flatS r) ∧ Upd (base ≤ ·) w w1 ∧ Upd (base ≤ ·) w w2 := by
  subst hn
  obtain ⟨v1, w1, r1, o1, u1, n1⟩ := append_one elemSp own.drew #[.int .i64 t.mark, .int .i64 t.fr, .int .i64 t.to] rfl (by simp [Value.oneCell']) (by unfold maxLen; omega) (by omega) hb 23 (0, 0)
  have hlt := own.lt
  have u1' : Upd (base ≤ ·) w w1 := (Upd.refl (base ≤ ·) w).drew.trans (u1.mono fun i hi => (hlt i hi).1)
  have hrep1 : kSps.rep (· < base) w1 [.slice a' r.length c'] r := kSps.keep hrep (Same.of_upd u1' fun g hg hh => absurd hg (Nat.not_lt_of_le hh))
  have hlt1 := o1.lt
  obtain ⟨v2, w2, r2, o2, g2⟩ := append_src o1 a' c' r hrep1 (by omega) (Nat.le_trans hb u1'.size)
  exact ⟨v1, w1, v2, w2, r1, r2, o2, u1', u1'.grown g2 fun i hi => .inl (hlt1 i hi).1⟩
theorem cellsS {w : World} {p : Nat} {s : Sp} {t : TypeId} (h : w.heap[p]? = some (.cells #[.int .i64 s.mark, .int .i64 s.fr, .int .i64 s.to] t (0, 0))) :
    w.cell? ⟨p, 0, none⟩ = some (.int .i64 s.mark) ∧ w.cell? ⟨p, 1, none⟩ = some (.int .i64 s.fr) ∧ w.cell? ⟨p, 2, none⟩ = some (.int .i64 s.to) := by
  refine ⟨?_, ?_, ?_⟩ <;> (rw [cell_of_block h]; rfl)
theorem sps_nil {A : Nat → Prop} {w : World} {a : Option Addr} {c n : Nat} {l : List Sp} (hl : l = []) (hn : n = 0) (hc : c ≤ maxLen) : kSps.rep A w [.slice a n c] l := by
  subst hl hn
  exact .inl ⟨a, c, rfl, hc, rfl⟩
set_option maxRecDepth 100000 in
set_option maxHeartbeats 16000000 in
theorem put_any (A : Nat → Prop) (v : Value) (l : List Sp) (s : Sp) (w : World) (hl : kSps.rep A w [v] l) (hlen : l.length ≤ 100000) (hs : SpWf s) :
    Calls Tryz.prog 96 #[v, spVal s] w (SpsPost (putA l s) w) := by
  obtain ⟨a, cap, rfl, p1, p2, p3⟩ := slice_open hl
  have wfl := sps_wf hl
  have p2' : cap ≤ 9223372036854775807 := p2
  obtain ⟨W0, hW0⟩ : ∃ W0, W0 = w.alloc (.cells #[.int .i64 s.mark, .int .i64 s.fr, .int .i64 s.to] 39 (0, 0)) := ⟨_, rfl⟩
  have u0 : Upd (fun _ => False) w W0 := by rw [hW0]; exact (Upd.refl _ _).alloc _
  have hb0 : W0.heap[w.heap.size]? = some (.cells #[.int .i64 s.mark, .int .i64 s.fr, .int .i64 s.to] 39 (0, 0)) := by rw [hW0]; exact heap_alloc_new
  obtain ⟨p, hp⟩ : ∃ p, w.heap.size = p := ⟨_, rfl⟩
  rw [hp] at hb0
  have hpl := heap_lt hb0
  have HL := hid hl; have H := hid p3; have P2 := hid p2; have HW0 := hid hW0; have U0 := hid u0; have HB0 := hid hb0; have HP := hid hp; have WFL := hid wfl; have WFS := hid hs; have HPL := hid hpl
  have R0 := hid (kSps.keep hl (Same.of_upd u0 fun _ _ => id))
  clear hl p3 p2 hW0 u0 hb0 hp wfl hs hpl
  unfold spVal
  go_enter Tryz.func96, Tryz.ntmps96
  go_wp2_with fail
  rw [← HW0.out]
  try rw [HP.out]
  go_loopg [5, 6] l.length (fun gg s5 s6 wr => ∃ k : Nat, k ≤ l.length ∧ gg = l.length - k ∧ s6 = .int .i64 k ∧ wr.ownsRow W0.heap.size 39 3 s5 k (flatS (l.take k)) ∧ putA l s = l.take k ++ putA (l.drop k) s ∧ Upd (fun _ => False) W0 wr)
  case atStart => exact ⟨0, Nat.zero_le _, rfl, rfl, World.ownsRow_nil _ _ _ _, rfl, Upd.refl _ _⟩
  case round =>
    obtain ⟨k, hk, hg, rfl, hown, hpa, u⟩ := hrel
    have HG := hid hg; have OWN := hid hown; have PA := hid hpa; have UU := hid u
    have hbr := (u.block p HPL.out id).trans HB0.out
    obtain ⟨b0, b1, b2⟩ := cellsS hbr
    have hprl := heap_lt hbr
    have HBR := hid hbr
    clear hg hown hpa u hbr
    by_cases hlt : k < l.length
    case neg =>
      obtain rfl : k = l.length := by omega
      have EX := hid (show putA l s = l.take l.length ++ putB (l.drop l.length) s by
        have h := PA.out
        rw [List.drop_length] at h ⊢
        exact h)
      clear PA
      go_wp2_with fail
      have eb0 := fun p : UW wr => p.cell b0
      have eb1 := fun p : UW wr => p.cell b1
      have eb2 := fun p : UW wr => p.cell b2
      refine region_upd (by kernel_rfl) (by kernel_rfl) ?_
      repeat (go_big_quiet_step (fail))
      refine wpQuiet_nil ?_
      intro w4 hw1
      obtain ⟨pw, hpw⟩ := hw1
      have uq : Upd (fun _ => False) wr w4 := by rw [hpw]; exact pw.u
      clear hpw pw eb0 eb1 eb2
      have U4 := hid (UU.out.trans uq)
      have OW4 := hid (ownsRow_upd OWN.out uq fun _ _ => id)
      have hb4 := (uq.block p hprl id).trans HBR.out
      have HB4 := hid hb4
      clear uq hb4 b0 b1 b2 UU OWN HBR
      obtain ⟨wo, hwo⟩ : ∃ wo : World, wo = w4 := ⟨_, rfl⟩
      subst hwo
      go_wp2_with fail
      go_loopg [6] (l.length - l.length) (fun gg s6 wr => ∃ (j : Nat) (t : Sp), l.length ≤ j ∧ j ≤ l.length ∧ gg = l.length - j ∧ s6 = .int .i64 j ∧ wr.heap[p]? = some (.cells #[.int .i64 t.mark, .int .i64 t.fr, .int .i64 t.to] 39 (0, 0)) ∧ putB (l.drop l.length) s = putB (l.drop j) t ∧ SpWf t ∧ Upd (· = p) wo wr)
      case atStart => exact ⟨l.length, s, Nat.le_refl _, hk, rfl, rfl, HB4.out, rfl, WFS.out, Upd.refl _ _⟩
      case round =>
        obtain ⟨j, t, hkj, hj, hg, rfl, hbt, hpb, hwt, u⟩ := hrel
        have HG := hid hg; have PB := hid hpb; have UU := hid u; have HBT := hid hbt; have WFT := hid hwt
        obtain ⟨c0, c1, c2⟩ := cellsS hbt
        have hptl := heap_lt hbt
        have ft : ∀ q, wr.frozen? ⟨p, q, none⟩ = false := fun q => frozen_of_block hbt
        have FT := hid ft
        clear hg hpb u hbt hwt ft
        by_cases hltj : j < l.length
        case neg =>
          obtain rfl : j = l.length := by omega
          have EY := hid (show putA l s = l.take l.length ++ (t :: l.drop l.length) by
            rw [EX.out, PB.out, List.drop_length]; rfl)
          clear PB
          go_wp2_with fail
          have ec0 := fun p : UW wr => p.cell c0
          have ec1 := fun p : UW wr => p.cell c1
          have ec2 := fun p : UW wr => p.cell c2
          refine region_upd (by kernel_rfl) (by kernel_rfl) ?_
          repeat (go_big_quiet_step (fail))
          refine wpQuiet_nil ?_
          intro w4 hw1
          obtain ⟨pw, hpw⟩ := hw1
          have uq : Upd (fun _ => False) wr w4 := by rw [hpw]; exact pw.u
          clear hpw pw ec0 ec1 ec2
          have OW5 := ownsRow_upd (ownsRow_upd OW4.out UU.out fun g hg e => by have := (OW4.out.lt g hg).1; have := HPL.out; omega) uq fun _ _ => id
          have hb5 := (uq.block p hptl id).trans HBT.out
          have U5 := hid (((U0.out.trans U4.out).comp UU.out fun i hi e => by have := HP.out; omega).trans uq)
          have hbs : W0.heap.size ≤ w4.heap.size := Nat.le_trans U4.out.size (Nat.le_trans UU.out.size uq.size)
          obtain ⟨v1, w5, r1, o1, u1q, n1⟩ := append_one elemSp OW5.drew #[.int .i64 t.mark, .int .i64 t.fr, .int .i64 t.to] rfl (by simp [Value.oneCell']) (by unfold maxLen; omega) (by omega) hbs 23 (0, 0)
          have r1 : (Builtin.append_ #[23, 23] 23 #[u5, .slice (some ⟨w4.heap.size, 0, none⟩) 1 1]).run Tryz.prog ((w4.alloc (.cells #[.int .i64 t.mark, .int .i64 t.fr, .int .i64 t.to] 39 (0, 0))).drew) = .ok v1 w5 := r1
          have r2 : ∀ a' c', (Builtin.append_ #[23, 23] 23 #[v1, .slice a' 0 c']).run Tryz.prog w5 = .ok v1 w5 := fun a' c' => append_zero elemSp o1 a'
          have hlo := OW5.lt
          have u1 : Upd (W0.heap.size ≤ ·) w4 w5 := (Upd.refl (W0.heap.size ≤ ·) w4).drew.trans (u1q.mono fun i hi => (hlo i hi).1)
          have K0 := cellsS hb5
          have K1 := cellsS (((Upd.refl (fun _ => False) w4).alloc (.cells #[.int .i64 t.mark, .int .i64 t.fr, .int .i64 t.to] 39 (0, 0))).block p (heap_lt hb5) id |>.trans hb5)
          have K5 := cellsS ((u1.block p (heap_lt hb5) (Nat.not_le_of_lt HPL.out)).trans hb5)
          have O2 := hid o1; have U6 := hid (U5.out.comp u1 fun i hi e => by have := U0.out.size; omega)
          have i3 : (l.length : Int) ≤ (cap : Int) := by omega
          clear o1 u1 u1q n1 hlo OW5 hb5 uq hbs U5 UU HBT c0 c1 c2
          cases a with
          | none =>
            go_wp2_with fail
            go_region_held3 (fun w' => w'.cell? ⟨p, 0, none⟩ = some (.int .i64 t.mark) ∧ w'.cell? ⟨p, 1, none⟩ = some (.int .i64 t.fr) ∧ w'.cell? ⟨p, 2, none⟩ = some (.int .i64 t.to)) (first | with_reducible exact K0 | with_reducible exact K1 | with_reducible exact K5 | go_keep) ((first | (refine step_append_run rfl _ _ _ _ rfl rfl rfl r1 ?_) | (refine step_append_run rfl _ _ _ _ rfl rfl rfl (r2 _ _) ?_)))
            go_wp2_with fail
            go_ret
            exact ⟨_, rfl, by rw [EY.out]; have := own_base O2.out U0.out.size; simpa [flatS_append, flatS_cons, flatS, spCells] using this, U6.out⟩
          | some ad =>
          by_cases hc : cap = l.length
          case pos =>
            subst hc
            go_wp2_with fail
            go_region_held3 (fun w' => w'.cell? ⟨p, 0, none⟩ = some (.int .i64 t.mark) ∧ w'.cell? ⟨p, 1, none⟩ = some (.int .i64 t.fr) ∧ w'.cell? ⟨p, 2, none⟩ = some (.int .i64 t.to)) (first | with_reducible exact K0 | with_reducible exact K1 | with_reducible exact K5 | go_keep) ((first | (refine step_append_run rfl _ _ _ _ rfl rfl rfl r1 ?_) | (refine step_append_run rfl _ _ _ _ rfl rfl rfl (r2 _ _) ?_)))
            go_wp2_with fail
            go_ret
            exact ⟨_, rfl, by rw [EY.out]; have := own_base O2.out U0.out.size; simpa [flatS_append, flatS_cons, flatS, spCells] using this, U6.out⟩
          go_wp2_with fail
          go_region_held3 (fun w' => w'.cell? ⟨p, 0, none⟩ = some (.int .i64 t.mark) ∧ w'.cell? ⟨p, 1, none⟩ = some (.int .i64 t.fr) ∧ w'.cell? ⟨p, 2, none⟩ = some (.int .i64 t.to)) (first | with_reducible exact K0 | with_reducible exact K1 | with_reducible exact K5 | go_keep) ((first | (refine step_append_run rfl _ _ _ _ rfl rfl rfl r1 ?_) | (refine step_append_run rfl _ _ _ _ rfl rfl rfl (r2 _ _) ?_)))
          go_wp2_with fail
          go_ret
          exact ⟨_, rfl, by rw [EY.out]; have := own_base O2.out U0.out.size; simpa [flatS_append, flatS_cons, flatS, spCells] using this, U6.out⟩
        exact absurd hltj (by omega)

    have hlti : (k : Int) < l.length := by omega
    have hltd : decide ((k : Int) < (l.length : Int)) = true := decide_eq_true hlti
    have hltd2 : decide (k < l.length) = true := decide_eq_true hlt
    obtain ⟨b, o, rfl, hb, hel⟩ := H.out (by omega)
    have HEL := hid hel
    obtain ⟨_, m0, m1, m2⟩ := sp_cells hel hlt
    have hbl := World.block_lt_of_cell? _ _ m0
    have ux := U0.out.trans UU.out
    have m0 := cell_kept m0 (ux.block b hbl id)
    have m1 := cell_kept m1 (ux.block b hbl id)
    have m2 := cell_kept m2 (ux.block b hbl id)
    have hdr : l.drop k = l[k] :: l.drop (k + 1) := List.drop_eq_getElem_cons hlt
    have htk : l.take (k + 1) = l.take k ++ [l[k]] := List.take_succ_eq_append_getElem hlt
    clear hel ux hbl
    obtain ⟨x, hx⟩ : ∃ x, l[k] = x := ⟨_, rfl⟩
    rw [hx] at m0 m1 m2 hdr htk
    have HDR := hid hdr; have HTK := hid htk
    clear hx hdr htk
    have HIT := hid (show (x.mark < s.mark ∨ (x.mark = s.mark ∧ x.to < s.fr)) → putA l s = l.take (k + 1) ++ putA (l.drop (k + 1)) s from fun h => by
      rw [PA.out, HDR.out, putA_hit h, HTK.out, List.append_assoc]; rfl)
    have MISS := hid (show ¬ (x.mark < s.mark ∨ (x.mark = s.mark ∧ x.to < s.fr)) → putA l s = l.take k ++ putB (l.drop k) s from fun h => by
      rw [PA.out, HDR.out, putA_miss h, ← HDR.out])
    clear PA HDR
    by_cases h1 : x.mark < s.mark
    case pos =>
      have t1 : decide (x.mark < s.mark) = true := decide_eq_true h1
      have PA2 := hid (HIT.out (.inl h1))
      clear h1 HIT MISS
      go_wp2_with fail
      have eb0 := fun p : UW wr => p.cell b0
      have eb1 := fun p : UW wr => p.cell b1
      have eb2 := fun p : UW wr => p.cell b2
      have em0 := fun p : UW wr => p.cell m0
      have em1 := fun p : UW wr => p.cell m1
      have em2 := fun p : UW wr => p.cell m2
      refine region_upd (by kernel_rfl) (by kernel_rfl) ?_
      repeat (go_big_quiet_step (fail))
      refine wpQuiet_nil ?_
      intro w4 hw1
      obtain ⟨pw, hpw⟩ := hw1
      have uq : Upd (fun _ => False) wr w4 := by rw [hpw]; exact pw.u
      clear hpw pw eb0 eb1 eb2 em0 em1 em2
      have n0 : w4.cell? ⟨b, o + k * 3, none⟩ = _ := UW.cell m0 ⟨w4, uq⟩
      have n1 : w4.cell? ⟨b, o + k * 3 + 1, none⟩ = _ := UW.cell m1 ⟨w4, uq⟩
      have n2 : w4.cell? ⟨b, o + k * 3 + 2, none⟩ = _ := UW.cell m2 ⟨w4, uq⟩
      have own5 := ownsRow_upd OWN.out uq fun _ _ => id
      obtain ⟨v', w5, r5, o5, u5q, n5⟩ := append_one elemSp own5 #[.int .i64 x.mark, .int .i64 x.fr, .int .i64 x.to] rfl (by simp [Value.oneCell']) (by unfold maxLen; omega) (by omega) (Nat.le_trans UU.out.size uq.size) 23 (0, 0)
      have hlt5 := own5.lt
      have U5 := hid ((UU.out.trans uq).comp u5q fun i hi e => by have := (hlt5 i e).1; omega)
      have O5 := hid o5
      clear own5 o5 u5q n5 hlt5 uq b0 b1 b2 m0 m1 m2
      go_wp2_with (at_builtin; refine wpList_append_run rfl _ _ _ _ rfl rfl rfl r5 ?_)
      go_roundg (l.length - (k + 1))
      case measure => have := HG.out; omega
      case rel => exact ⟨k + 1, by omega, rfl, by go_num, by rw [HTK.out, flatS_append]; exact O5.out, PA2.out, U5.out⟩
    have t1 : decide (x.mark < s.mark) = false := decide_eq_false h1
    by_cases h2 : x.mark = s.mark
    case neg =>
      have t2 : (x.mark == s.mark) = false := beq_eq_false_iff_ne.2 h2
      have EX := hid (MISS.out (by omega))
      clear h1 h2 HIT MISS
      clear HTK
      go_wp2_with fail
      have eb0 := fun p : UW wr => p.cell b0
      have eb1 := fun p : UW wr => p.cell b1
      have eb2 := fun p : UW wr => p.cell b2
      have em0 := fun p : UW wr => p.cell m0
      have em1 := fun p : UW wr => p.cell m1
      have em2 := fun p : UW wr => p.cell m2
      refine region_upd (by kernel_rfl) (by kernel_rfl) ?_
      repeat (go_big_quiet_step (fail))
      refine wpQuiet_nil ?_
      intro w4 hw1
      obtain ⟨pw, hpw⟩ := hw1
      have uq : Upd (fun _ => False) wr w4 := by rw [hpw]; exact pw.u
      clear hpw pw eb0 eb1 eb2 em0 em1 em2
      clear m0 m1 m2 t1 t2 hltd hltd2 hlti hb
      have U4 := hid (UU.out.trans uq)
      have OW4 := hid (ownsRow_upd OWN.out uq fun _ _ => id)
      have hb4 := (uq.block p hprl id).trans HBR.out
      have HB4 := hid hb4
      clear uq hb4 b0 b1 b2 UU OWN HBR
      obtain ⟨wo, hwo⟩ : ∃ wo : World, wo = w4 := ⟨_, rfl⟩
      subst hwo
      go_wp2_with fail
      go_loopg [6] (l.length - k) (fun gg s6 wr => ∃ (j : Nat) (t : Sp), k ≤ j ∧ j ≤ l.length ∧ gg = l.length - j ∧ s6 = .int .i64 j ∧ wr.heap[p]? = some (.cells #[.int .i64 t.mark, .int .i64 t.fr, .int .i64 t.to] 39 (0, 0)) ∧ putB (l.drop k) s = putB (l.drop j) t ∧ SpWf t ∧ Upd (· = p) wo wr)
      case atStart => exact ⟨k, s, Nat.le_refl _, hk, rfl, rfl, HB4.out, rfl, WFS.out, Upd.refl _ _⟩
      case round =>
        obtain ⟨j, t, hkj, hj, hg, rfl, hbt, hpb, hwt, u⟩ := hrel
        have HG := hid hg; have PB := hid hpb; have UU := hid u; have HBT := hid hbt; have WFT := hid hwt
        obtain ⟨c0, c1, c2⟩ := cellsS hbt
        have hptl := heap_lt hbt
        have ft : ∀ q, wr.frozen? ⟨p, q, none⟩ = false := fun q => frozen_of_block hbt
        have FT := hid ft
        clear hg hpb u hbt hwt ft
        by_cases hltj : j < l.length
        case neg =>
          obtain rfl : j = l.length := by omega
          have EY := hid (show putA l s = l.take k ++ (t :: l.drop l.length) by
            rw [EX.out, PB.out, List.drop_length]; rfl)
          clear PB
          go_wp2_with fail
          have ec0 := fun p : UW wr => p.cell c0
          have ec1 := fun p : UW wr => p.cell c1
          have ec2 := fun p : UW wr => p.cell c2
          refine region_upd (by kernel_rfl) (by kernel_rfl) ?_
          repeat (go_big_quiet_step (fail))
          refine wpQuiet_nil ?_
          intro w4 hw1
          obtain ⟨pw, hpw⟩ := hw1
          have uq : Upd (fun _ => False) wr w4 := by rw [hpw]; exact pw.u
          clear hpw pw ec0 ec1 ec2
          have OW5 := ownsRow_upd (ownsRow_upd OW4.out UU.out fun g hg e => by have := (OW4.out.lt g hg).1; have := HPL.out; omega) uq fun _ _ => id
          have hb5 := (uq.block p hptl id).trans HBT.out
          have U5 := hid (((U0.out.trans U4.out).comp UU.out fun i hi e => by have := HP.out; omega).trans uq)
          have hbs : W0.heap.size ≤ w4.heap.size := Nat.le_trans U4.out.size (Nat.le_trans UU.out.size uq.size)
          obtain ⟨v1, w5, r1, o1, u1q, n1⟩ := append_one elemSp OW5.drew #[.int .i64 t.mark, .int .i64 t.fr, .int .i64 t.to] rfl (by simp [Value.oneCell']) (by unfold maxLen; omega) (by omega) hbs 23 (0, 0)
          have r1 : (Builtin.append_ #[23, 23] 23 #[u5, .slice (some ⟨w4.heap.size, 0, none⟩) 1 1]).run Tryz.prog ((w4.alloc (.cells #[.int .i64 t.mark, .int .i64 t.fr, .int .i64 t.to] 39 (0, 0))).drew) = .ok v1 w5 := r1
          have r2 : ∀ a' c', (Builtin.append_ #[23, 23] 23 #[v1, .slice a' 0 c']).run Tryz.prog w5 = .ok v1 w5 := fun a' c' => append_zero elemSp o1 a'
          have hlo := OW5.lt
          have u1 : Upd (W0.heap.size ≤ ·) w4 w5 := (Upd.refl (W0.heap.size ≤ ·) w4).drew.trans (u1q.mono fun i hi => (hlo i hi).1)
          have K0 := cellsS hb5
          have K1 := cellsS (((Upd.refl (fun _ => False) w4).alloc (.cells #[.int .i64 t.mark, .int .i64 t.fr, .int .i64 t.to] 39 (0, 0))).block p (heap_lt hb5) id |>.trans hb5)
          have K5 := cellsS ((u1.block p (heap_lt hb5) (Nat.not_le_of_lt HPL.out)).trans hb5)
          have O2 := hid o1; have U6 := hid (U5.out.comp u1 fun i hi e => by have := U0.out.size; omega)
          have i3 : (l.length : Int) ≤ (cap : Int) := by omega
          clear o1 u1 u1q n1 hlo OW5 hb5 uq hbs U5 UU HBT c0 c1 c2
          by_cases hc : cap = l.length
          case pos =>
            subst hc
            go_wp2_with fail
            go_region_held3 (fun w' => w'.cell? ⟨p, 0, none⟩ = some (.int .i64 t.mark) ∧ w'.cell? ⟨p, 1, none⟩ = some (.int .i64 t.fr) ∧ w'.cell? ⟨p, 2, none⟩ = some (.int .i64 t.to)) (first | with_reducible exact K0 | with_reducible exact K1 | with_reducible exact K5 | go_keep) ((first | (refine step_append_run rfl _ _ _ _ rfl rfl rfl r1 ?_) | (refine step_append_run rfl _ _ _ _ rfl rfl rfl (r2 _ _) ?_)))
            go_wp2_with fail
            go_ret
            exact ⟨_, rfl, by rw [EY.out]; have := own_base O2.out U0.out.size; rw [show k + 1 = min k l.length + 1 by omega] at this; simpa [flatS_append, flatS_cons, flatS, spCells] using this, U6.out⟩
          go_wp2_with fail
          go_region_held3 (fun w' => w'.cell? ⟨p, 0, none⟩ = some (.int .i64 t.mark) ∧ w'.cell? ⟨p, 1, none⟩ = some (.int .i64 t.fr) ∧ w'.cell? ⟨p, 2, none⟩ = some (.int .i64 t.to)) (first | with_reducible exact K0 | with_reducible exact K1 | with_reducible exact K5 | go_keep) ((first | (refine step_append_run rfl _ _ _ _ rfl rfl rfl r1 ?_) | (refine step_append_run rfl _ _ _ _ rfl rfl rfl (r2 _ _) ?_)))
          go_wp2_with fail
          go_ret
          exact ⟨_, rfl, by rw [EY.out]; have := own_base O2.out U0.out.size; rw [show k + 1 = min k l.length + 1 by omega] at this; simpa [flatS_append, flatS_cons, flatS, spCells] using this, U6.out⟩
        have hltji : (j : Int) < l.length := by omega
        have hltd : decide ((j : Int) < (l.length : Int)) = true := decide_eq_true hltji
        have hltd2 : decide (j < l.length) = true := decide_eq_true hltj
        have hel := HEL.out
        obtain ⟨_, m0, m1, m2⟩ := sp_cells hel hltj
        have hbl : b < w.heap.size := World.block_lt_of_cell? _ _ m0
        have hbp : ¬ b = p := fun e => by have := HP.out; omega
        have ux := U0.out.trans U4.out
        have m0 := cell_kept (cell_kept m0 (ux.block b hbl id)) (UU.out.block b (Nat.lt_of_lt_of_le hbl ux.size) hbp)
        have m1 := cell_kept (cell_kept m1 (ux.block b hbl id)) (UU.out.block b (Nat.lt_of_lt_of_le hbl ux.size) hbp)
        have m2 := cell_kept (cell_kept m2 (ux.block b hbl id)) (UU.out.block b (Nat.lt_of_lt_of_le hbl ux.size) hbp)
        have hbwr : b < wr.heap.size := Nat.lt_of_lt_of_le hbl (Nat.le_trans ux.size UU.out.size)
        have wfx := WFL.out _ (List.getElem_mem hltj)
        have hdr : l.drop j = l[j] :: l.drop (j + 1) := List.drop_eq_getElem_cons hltj
        clear hel ux
        obtain ⟨x, hx⟩ : ∃ x, l[j] = x := ⟨_, rfl⟩
        rw [hx] at m0 m1 m2 wfx hdr
        have HDR := hid hdr; have WFX := hid wfx
        clear hx wfx hdr
        by_cases h1 : x.mark = t.mark
        case neg =>
          have t1 : (x.mark == t.mark) = false := beq_eq_false_iff_ne.2 h1
          have EY := hid (show putA l s = l.take k ++ (t :: l.drop j) by
            rw [EX.out, PB.out, HDR.out, putB_miss fun h => h1 h.1])
          clear PB h1
          go_wp2_with fail
          have ec0 := fun p : UW wr => p.cell c0
          have ec1 := fun p : UW wr => p.cell c1
          have ec2 := fun p : UW wr => p.cell c2
          have em0 := fun p : UW wr => p.cell m0
          have em1 := fun p : UW wr => p.cell m1
          have em2 := fun p : UW wr => p.cell m2
          refine region_upd (by kernel_rfl) (by kernel_rfl) ?_
          repeat (go_big_quiet_step (fail))
          refine wpQuiet_nil ?_
          intro w4 hw1
          obtain ⟨pw, hpw⟩ := hw1
          have uq : Upd (fun _ => False) wr w4 := by rw [hpw]; exact pw.u
          clear hpw pw ec0 ec1 ec2 em0 em1 em2
          have OW5 := ownsRow_upd (ownsRow_upd OW4.out UU.out fun g hg e => by have := (OW4.out.lt g hg).1; have := HPL.out; omega) uq fun _ _ => id
          have hb5 := (uq.block p hptl id).trans HBT.out
          have U5 := hid (((U0.out.trans U4.out).comp UU.out fun i hi e => by have := HP.out; omega).trans uq)
          have hbs : W0.heap.size ≤ w4.heap.size := Nat.le_trans U4.out.size (Nat.le_trans UU.out.size uq.size)
          have hrp := kSps.keep (sps_drop (B := (· < W0.heap.size)) HEL.out P2.out (Nat.lt_of_lt_of_le hbl U0.out.size) j p1) (Same.of_upd U5.out fun _ _ => id)
          obtain ⟨v1, w5, v2, w6, r1, r2, o2, u1, u2⟩ := put_end OW5 (by omega) hbs t (r := l.drop j) (by rw [List.length_drop]; omega) (by rw [List.length_drop]) hrp
          have K0 := cellsS hb5
          have K1 := cellsS (((Upd.refl (fun _ => False) w4).alloc (.cells #[.int .i64 t.mark, .int .i64 t.fr, .int .i64 t.to] 39 (0, 0))).block p (heap_lt hb5) id |>.trans hb5)
          have K5 := cellsS ((u1.block p (heap_lt hb5) (Nat.not_le_of_lt HPL.out)).trans hb5)
          have K6 := cellsS ((u2.block p (heap_lt hb5) (Nat.not_le_of_lt HPL.out)).trans hb5)
          have O2 := hid o2; have U6 := hid (U5.out.comp u2 fun i hi e => by have := U0.out.size; omega)
          have i1 : (0 : Int) ≤ (j : Int) := by omega
          have i2 : (j : Int) ≤ (l.length : Int) := by omega
          have i3 : (l.length : Int) ≤ (cap : Int) := by omega
          have i4 : ¬ cap = j := by omega
          clear o2 u1 u2 hrp OW5 hb5 uq hbs U5 UU HBT c0 c1 c2 m0 m1 m2
          go_wp2_with fail
          go_region_held3 (fun w' => w'.cell? ⟨p, 0, none⟩ = some (.int .i64 t.mark) ∧ w'.cell? ⟨p, 1, none⟩ = some (.int .i64 t.fr) ∧ w'.cell? ⟨p, 2, none⟩ = some (.int .i64 t.to)) (first | with_reducible exact K0 | with_reducible exact K1 | with_reducible exact K5 | with_reducible exact K6 | go_keep) ((first | (refine step_append_run rfl _ _ _ _ rfl rfl rfl r1 ?_) | (refine step_append_run rfl _ _ _ _ rfl rfl rfl r2 ?_)))
          go_wp2_with fail
          go_ret
          exact ⟨_, rfl, by rw [EY.out]; have := own_base O2.out U0.out.size; rw [show k + 1 + (l.length - j) = min k l.length + (l.length - j + 1) by omega] at this; simpa [flatS_append, flatS_cons] using this, U6.out⟩
        have t1 : (x.mark == t.mark) = true := beq_iff_eq.2 h1
        by_cases h2 : x.fr ≤ t.to
        case neg =>
          have t2 : decide (x.fr ≤ t.to) = false := decide_eq_false h2
          have EY := hid (show putA l s = l.take k ++ (t :: l.drop j) by
            rw [EX.out, PB.out, HDR.out, putB_miss fun h => h2 h.2])
          clear PB h1 h2
          go_wp2_with fail
          have ec0 := fun p : UW wr => p.cell c0
          have ec1 := fun p : UW wr => p.cell c1
          have ec2 := fun p : UW wr => p.cell c2
          have em0 := fun p : UW wr => p.cell m0
          have em1 := fun p : UW wr => p.cell m1
          have em2 := fun p : UW wr => p.cell m2
          refine region_upd (by kernel_rfl) (by kernel_rfl) ?_
          repeat (go_big_quiet_step (fail))
          refine wpQuiet_nil ?_
          intro w4 hw1
          obtain ⟨pw, hpw⟩ := hw1
          have uq : Upd (fun _ => False) wr w4 := by rw [hpw]; exact pw.u
          clear hpw pw ec0 ec1 ec2 em0 em1 em2
          have OW5 := ownsRow_upd (ownsRow_upd OW4.out UU.out fun g hg e => by have := (OW4.out.lt g hg).1; have := HPL.out; omega) uq fun _ _ => id
          have hb5 := (uq.block p hptl id).trans HBT.out
          have U5 := hid (((U0.out.trans U4.out).comp UU.out fun i hi e => by have := HP.out; omega).trans uq)
          have hbs : W0.heap.size ≤ w4.heap.size := Nat.le_trans U4.out.size (Nat.le_trans UU.out.size uq.size)
          have hrp := kSps.keep (sps_drop (B := (· < W0.heap.size)) HEL.out P2.out (Nat.lt_of_lt_of_le hbl U0.out.size) j p1) (Same.of_upd U5.out fun _ _ => id)
          obtain ⟨v1, w5, v2, w6, r1, r2, o2, u1, u2⟩ := put_end OW5 (by omega) hbs t (r := l.drop j) (by rw [List.length_drop]; omega) (by rw [List.length_drop]) hrp
          have K0 := cellsS hb5
          have K1 := cellsS (((Upd.refl (fun _ => False) w4).alloc (.cells #[.int .i64 t.mark, .int .i64 t.fr, .int .i64 t.to] 39 (0, 0))).block p (heap_lt hb5) id |>.trans hb5)
          have K5 := cellsS ((u1.block p (heap_lt hb5) (Nat.not_le_of_lt HPL.out)).trans hb5)
          have K6 := cellsS ((u2.block p (heap_lt hb5) (Nat.not_le_of_lt HPL.out)).trans hb5)
          have O2 := hid o2; have U6 := hid (U5.out.comp u2 fun i hi e => by have := U0.out.size; omega)
          have i1 : (0 : Int) ≤ (j : Int) := by omega
          have i2 : (j : Int) ≤ (l.length : Int) := by omega
          have i3 : (l.length : Int) ≤ (cap : Int) := by omega
          have i4 : ¬ cap = j := by omega
          clear o2 u1 u2 hrp OW5 hb5 uq hbs U5 UU HBT c0 c1 c2 m0 m1 m2
          go_wp2_with fail
          go_region_held3 (fun w' => w'.cell? ⟨p, 0, none⟩ = some (.int .i64 t.mark) ∧ w'.cell? ⟨p, 1, none⟩ = some (.int .i64 t.fr) ∧ w'.cell? ⟨p, 2, none⟩ = some (.int .i64 t.to)) (first | with_reducible exact K0 | with_reducible exact K1 | with_reducible exact K5 | with_reducible exact K6 | go_keep) ((first | (refine step_append_run rfl _ _ _ _ rfl rfl rfl r1 ?_) | (refine step_append_run rfl _ _ _ _ rfl rfl rfl r2 ?_)))
          go_wp2_with fail
          go_ret
          exact ⟨_, rfl, by rw [EY.out]; have := own_base O2.out U0.out.size; rw [show k + 1 + (l.length - j) = min k l.length + (l.length - j + 1) by omega] at this; simpa [flatS_append, flatS_cons] using this, U6.out⟩
        have t2 : decide (x.fr ≤ t.to) = true := decide_eq_true h2
        have PB2 := hid (show putB (l.drop k) s = putB (l.drop (j + 1)) ⟨t.mark, min t.fr x.fr, max t.to x.to⟩ by
          rw [PB.out, HDR.out, putB_hit ⟨h1, h2⟩])
        clear PB h1 h2
        go_wp2_with fail
        have ec0 := fun p : UW wr => p.cell c0
        have ec1 := fun p : UW wr => p.cell c1
        have ec2 := fun p : UW wr => p.cell c2
        have em0 := fun p : UW wr => p.cell m0
        have em1 := fun p : UW wr => p.cell m1
        have em2 := fun p : UW wr => p.cell m2
        refine region_upd (by kernel_rfl) (by kernel_rfl) ?_
        repeat (go_big_quiet_step (fail))
        refine wpQuiet_nil ?_
        intro w4 hw1
        obtain ⟨pw, hpw⟩ := hw1
        have uq : Upd (fun _ => False) wr w4 := by rw [hpw]; exact pw.u
        clear hpw pw ec0 ec1 ec2 em0 em1 em2
        have m1 : w4.cell? ⟨b, o + j * 3 + 1, none⟩ = _ := UW.cell m1 ⟨w4, uq⟩
        have m2 : w4.cell? ⟨b, o + j * 3 + 2, none⟩ = _ := UW.cell m2 ⟨w4, uq⟩
        have c1 : w4.cell? ⟨p, 1, none⟩ = _ := UW.cell c1 ⟨w4, uq⟩
        have c2 : w4.cell? ⟨p, 2, none⟩ = _ := UW.cell c2 ⟨w4, uq⟩
        have hb5 := (uq.block p hptl id).trans HBT.out
        have f5 : w4.frozen? ⟨p, 1, none⟩ = false := frozen_of_block hb5
        have f6 : w4.frozen? ⟨p, 2, none⟩ = false := frozen_of_block hb5
        have HB5 := hid hb5
        have U5 := hid (UU.out.trans (uq.mono fun _ h => h.elim))
        clear hb5 uq UU HBT t1 t2 m0 c0
        go_wp2_with fail
        go_still_tail 9, (by kernel_rfl)
        change wpList _ _ _ _ _ w4.drew
        have c1 : w4.drew.cell? ⟨p, 1, none⟩ = some (.int .i64 t.fr) := c1
        have c2 : w4.drew.cell? ⟨p, 2, none⟩ = some (.int .i64 t.to) := c2
        have m2 : w4.drew.cell? ⟨b, o + j * 3 + 2, none⟩ = some (.int .i64 x.to) := m2
        have f5 : w4.drew.frozen? ⟨p, 1, none⟩ = false := f5
        have HB6 : Hid (w4.drew.heap[p]? = some (.cells #[.int .i64 t.mark, .int .i64 t.fr, .int .i64 t.to] 39 (0, 0))) := hid HB5.out
        have U6 := hid U5.out.drew
        clear f6 HB5 U5 m1
        generalize w4.drew = w6 at *
        go_wp2_with fail
        all_goals
          first | rw [show x.fr = min t.fr x.fr by omega] | rw [show t.fr = min t.fr x.fr by omega]
          have hbw6 : b < w6.heap.size := World.block_lt_of_cell? _ _ m2
          obtain ⟨w7, hw7⟩ : ∃ z, z = w6.setCell ⟨p, 1, none⟩ (.int .i64 (min t.fr x.fr)) := ⟨_, rfl⟩
          rw [← hw7]
          have hb7 : w7.heap[p]? = some (.cells #[.int .i64 t.mark, .int .i64 (min t.fr x.fr), .int .i64 t.to] 39 (0, 0)) := by rw [hw7, heap_setCell_same (p := ⟨p, 1, none⟩) rfl HB6.out]; rfl
          have u7 : Upd (· = p) w6 w7 := by rw [hw7]; exact (Upd.refl _ _).at_ 1 _
          have m2 := cell_kept m2 (u7.block b hbw6 hbp)
          have c2 : w7.cell? ⟨p, 2, none⟩ = some (.int .i64 t.to) := by rw [cell_of_block hb7]; rfl
          have f6 : w7.frozen? ⟨p, 2, none⟩ = false := frozen_of_block hb7
          have HB7 := hid hb7; have U7 := hid (U6.out.trans u7)
          clear hw7 hb7 u7 HB6 U6 c1 f5 hbw6
          go_still_tail 9, (by kernel_rfl)
          change wpList _ _ _ _ _ w7.drew
          have c2 : w7.drew.cell? ⟨p, 2, none⟩ = some (.int .i64 t.to) := c2
          have f6 : w7.drew.frozen? ⟨p, 2, none⟩ = false := f6
          have HB8 : Hid (w7.drew.heap[p]? = some (.cells #[.int .i64 t.mark, .int .i64 (min t.fr x.fr), .int .i64 t.to] 39 (0, 0))) := hid HB7.out
          have U8 := hid U7.out.drew
          clear HB7 U7 m2
          generalize w7.drew = w8 at *
          go_wp2_with fail
          all_goals
            first | rw [show x.to = max t.to x.to by omega] | rw [show t.to = max t.to x.to by omega]
            go_roundg (l.length - (j + 1))
            case measure => have := HG.out; omega
            case rel =>
              have h1 := wfi WFX.out.fr; have h2 := wfi WFX.out.upto; have h3 := wfi WFT.out.fr; have h4 := wfi WFT.out.upto
              exact ⟨j + 1, ⟨t.mark, min t.fr x.fr, max t.to x.to⟩, by omega, by omega, rfl, by go_num, by rw [heap_setCell_same (p := ⟨p, 2, none⟩) rfl HB8.out]; rfl, PB2.out, ⟨WFT.out.mark, iwf (by dsimp only; omega), iwf (by dsimp only; omega)⟩, U8.out.at_ 2 _⟩
    have t2 : (x.mark == s.mark) = true := beq_iff_eq.2 h2
    by_cases h3 : x.to < s.fr
    case pos =>
      have t3 : decide (x.to < s.fr) = true := decide_eq_true h3
      have PA2 := hid (HIT.out (.inr ⟨h2, h3⟩))
      clear h1 h2 h3 HIT MISS
      go_wp2_with fail
      have eb0 := fun p : UW wr => p.cell b0
      have eb1 := fun p : UW wr => p.cell b1
      have eb2 := fun p : UW wr => p.cell b2
      have em0 := fun p : UW wr => p.cell m0
      have em1 := fun p : UW wr => p.cell m1
      have em2 := fun p : UW wr => p.cell m2
      refine region_upd (by kernel_rfl) (by kernel_rfl) ?_
      repeat (go_big_quiet_step (fail))
      refine wpQuiet_nil ?_
      intro w4 hw1
      obtain ⟨pw, hpw⟩ := hw1
      have uq : Upd (fun _ => False) wr w4 := by rw [hpw]; exact pw.u
      clear hpw pw eb0 eb1 eb2 em0 em1 em2
      have n0 : w4.cell? ⟨b, o + k * 3, none⟩ = _ := UW.cell m0 ⟨w4, uq⟩
      have n1 : w4.cell? ⟨b, o + k * 3 + 1, none⟩ = _ := UW.cell m1 ⟨w4, uq⟩
      have n2 : w4.cell? ⟨b, o + k * 3 + 2, none⟩ = _ := UW.cell m2 ⟨w4, uq⟩
      have own5 := ownsRow_upd OWN.out uq fun _ _ => id
      obtain ⟨v', w5, r5, o5, u5q, n5⟩ := append_one elemSp own5 #[.int .i64 x.mark, .int .i64 x.fr, .int .i64 x.to] rfl (by simp [Value.oneCell']) (by unfold maxLen; omega) (by omega) (Nat.le_trans UU.out.size uq.size) 23 (0, 0)
      have hlt5 := own5.lt
      have U5 := hid ((UU.out.trans uq).comp u5q fun i hi e => by have := (hlt5 i e).1; omega)
      have O5 := hid o5
      clear own5 o5 u5q n5 hlt5 uq b0 b1 b2 m0 m1 m2
      go_wp2_with (at_builtin; refine wpList_append_run rfl _ _ _ _ rfl rfl rfl r5 ?_)
      go_roundg (l.length - (k + 1))
      case measure => have := HG.out; omega
      case rel => exact ⟨k + 1, by omega, rfl, by go_num, by rw [HTK.out, flatS_append]; exact O5.out, PA2.out, U5.out⟩
    case neg =>
      have t3 : decide (x.to < s.fr) = false := decide_eq_false h3
      have EX := hid (MISS.out (by omega))
      clear h1 h2 h3 HIT MISS
      clear HTK
      go_wp2_with fail
      have eb0 := fun p : UW wr => p.cell b0
      have eb1 := fun p : UW wr => p.cell b1
      have eb2 := fun p : UW wr => p.cell b2
      have em0 := fun p : UW wr => p.cell m0
      have em1 := fun p : UW wr => p.cell m1
      have em2 := fun p : UW wr => p.cell m2
      refine region_upd (by kernel_rfl) (by kernel_rfl) ?_
      repeat (go_big_quiet_step (fail))
      refine wpQuiet_nil ?_
      intro w4 hw1
      obtain ⟨pw, hpw⟩ := hw1
      have uq : Upd (fun _ => False) wr w4 := by rw [hpw]; exact pw.u
      clear hpw pw eb0 eb1 eb2 em0 em1 em2
      clear m0 m1 m2 t1 t2 hltd hltd2 hlti hb
      have U4 := hid (UU.out.trans uq)
      have OW4 := hid (ownsRow_upd OWN.out uq fun _ _ => id)
      have hb4 := (uq.block p hprl id).trans HBR.out
      have HB4 := hid hb4
      clear uq hb4 b0 b1 b2 UU OWN HBR
      obtain ⟨wo, hwo⟩ : ∃ wo : World, wo = w4 := ⟨_, rfl⟩
      subst hwo
      go_wp2_with fail
      go_loopg [6] (l.length - k) (fun gg s6 wr => ∃ (j : Nat) (t : Sp), k ≤ j ∧ j ≤ l.length ∧ gg = l.length - j ∧ s6 = .int .i64 j ∧ wr.heap[p]? = some (.cells #[.int .i64 t.mark, .int .i64 t.fr, .int .i64 t.to] 39 (0, 0)) ∧ putB (l.drop k) s = putB (l.drop j) t ∧ SpWf t ∧ Upd (· = p) wo wr)
      case atStart => exact ⟨k, s, Nat.le_refl _, hk, rfl, rfl, HB4.out, rfl, WFS.out, Upd.refl _ _⟩
      case round =>
        obtain ⟨j, t, hkj, hj, hg, rfl, hbt, hpb, hwt, u⟩ := hrel
        have HG := hid hg; have PB := hid hpb; have UU := hid u; have HBT := hid hbt; have WFT := hid hwt
        obtain ⟨c0, c1, c2⟩ := cellsS hbt
        have hptl := heap_lt hbt
        have ft : ∀ q, wr.frozen? ⟨p, q, none⟩ = false := fun q => frozen_of_block hbt
        have FT := hid ft
        clear hg hpb u hbt hwt ft
        by_cases hltj : j < l.length
        case neg =>
          obtain rfl : j = l.length := by omega
          have EY := hid (show putA l s = l.take k ++ (t :: l.drop l.length) by
            rw [EX.out, PB.out, List.drop_length]; rfl)
          clear PB
          go_wp2_with fail
          have ec0 := fun p : UW wr => p.cell c0
          have ec1 := fun p : UW wr => p.cell c1
          have ec2 := fun p : UW wr => p.cell c2
          refine region_upd (by kernel_rfl) (by kernel_rfl) ?_
          repeat (go_big_quiet_step (fail))
          refine wpQuiet_nil ?_
          intro w4 hw1
          obtain ⟨pw, hpw⟩ := hw1
          have uq : Upd (fun _ => False) wr w4 := by rw [hpw]; exact pw.u
          clear hpw pw ec0 ec1 ec2
          have OW5 := ownsRow_upd (ownsRow_upd OW4.out UU.out fun g hg e => by have := (OW4.out.lt g hg).1; have := HPL.out; omega) uq fun _ _ => id
          have hb5 := (uq.block p hptl id).trans HBT.out
          have U5 := hid (((U0.out.trans U4.out).comp UU.out fun i hi e => by have := HP.out; omega).trans uq)
          have hbs : W0.heap.size ≤ w4.heap.size := Nat.le_trans U4.out.size (Nat.le_trans UU.out.size uq.size)
          obtain ⟨v1, w5, r1, o1, u1q, n1⟩ := append_one elemSp OW5.drew #[.int .i64 t.mark, .int .i64 t.fr, .int .i64 t.to] rfl (by simp [Value.oneCell']) (by unfold maxLen; omega) (by omega) hbs 23 (0, 0)
          have r1 : (Builtin.append_ #[23, 23] 23 #[u5, .slice (some ⟨w4.heap.size, 0, none⟩) 1 1]).run Tryz.prog ((w4.alloc (.cells #[.int .i64 t.mark, .int .i64 t.fr, .int .i64 t.to] 39 (0, 0))).drew) = .ok v1 w5 := r1
          have r2 : ∀ a' c', (Builtin.append_ #[23, 23] 23 #[v1, .slice a' 0 c']).run Tryz.prog w5 = .ok v1 w5 := fun a' c' => append_zero elemSp o1 a'
          have hlo := OW5.lt
          have u1 : Upd (W0.heap.size ≤ ·) w4 w5 := (Upd.refl (W0.heap.size ≤ ·) w4).drew.trans (u1q.mono fun i hi => (hlo i hi).1)
          have K0 := cellsS hb5
          have K1 := cellsS (((Upd.refl (fun _ => False) w4).alloc (.cells #[.int .i64 t.mark, .int .i64 t.fr, .int .i64 t.to] 39 (0, 0))).block p (heap_lt hb5) id |>.trans hb5)
          have K5 := cellsS ((u1.block p (heap_lt hb5) (Nat.not_le_of_lt HPL.out)).trans hb5)
          have O2 := hid o1; have U6 := hid (U5.out.comp u1 fun i hi e => by have := U0.out.size; omega)
          have i3 : (l.length : Int) ≤ (cap : Int) := by omega
          clear o1 u1 u1q n1 hlo OW5 hb5 uq hbs U5 UU HBT c0 c1 c2
          by_cases hc : cap = l.length
          case pos =>
            subst hc
            go_wp2_with fail
            go_region_held3 (fun w' => w'.cell? ⟨p, 0, none⟩ = some (.int .i64 t.mark) ∧ w'.cell? ⟨p, 1, none⟩ = some (.int .i64 t.fr) ∧ w'.cell? ⟨p, 2, none⟩ = some (.int .i64 t.to)) (first | with_reducible exact K0 | with_reducible exact K1 | with_reducible exact K5 | go_keep) ((first | (refine step_append_run rfl _ _ _ _ rfl rfl rfl r1 ?_) | (refine step_append_run rfl _ _ _ _ rfl rfl rfl (r2 _ _) ?_)))
            go_wp2_with fail
            go_ret
            exact ⟨_, rfl, by rw [EY.out]; have := own_base O2.out U0.out.size; rw [show k + 1 = min k l.length + 1 by omega] at this; simpa [flatS_append, flatS_cons, flatS, spCells] using this, U6.out⟩
          go_wp2_with fail
          go_region_held3 (fun w' => w'.cell? ⟨p, 0, none⟩ = some (.int .i64 t.mark) ∧ w'.cell? ⟨p, 1, none⟩ = some (.int .i64 t.fr) ∧ w'.cell? ⟨p, 2, none⟩ = some (.int .i64 t.to)) (first | with_reducible exact K0 | with_reducible exact K1 | with_reducible exact K5 | go_keep) ((first | (refine step_append_run rfl _ _ _ _ rfl rfl rfl r1 ?_) | (refine step_append_run rfl _ _ _ _ rfl rfl rfl (r2 _ _) ?_)))
          go_wp2_with fail
          go_ret
          exact ⟨_, rfl, by rw [EY.out]; have := own_base O2.out U0.out.size; rw [show k + 1 = min k l.length + 1 by omega] at this; simpa [flatS_append, flatS_cons, flatS, spCells] using this, U6.out⟩
        have hltji : (j : Int) < l.length := by omega
        have hltd : decide ((j : Int) < (l.length : Int)) = true := decide_eq_true hltji
        have hltd2 : decide (j < l.length) = true := decide_eq_true hltj
        have hel := HEL.out
        obtain ⟨_, m0, m1, m2⟩ := sp_cells hel hltj
        have hbl : b < w.heap.size := World.block_lt_of_cell? _ _ m0
        have hbp : ¬ b = p := fun e => by have := HP.out; omega
        have ux := U0.out.trans U4.out
        have m0 := cell_kept (cell_kept m0 (ux.block b hbl id)) (UU.out.block b (Nat.lt_of_lt_of_le hbl ux.size) hbp)
        have m1 := cell_kept (cell_kept m1 (ux.block b hbl id)) (UU.out.block b (Nat.lt_of_lt_of_le hbl ux.size) hbp)
        have m2 := cell_kept (cell_kept m2 (ux.block b hbl id)) (UU.out.block b (Nat.lt_of_lt_of_le hbl ux.size) hbp)
        have hbwr : b < wr.heap.size := Nat.lt_of_lt_of_le hbl (Nat.le_trans ux.size UU.out.size)
        have wfx := WFL.out _ (List.getElem_mem hltj)
        have hdr : l.drop j = l[j] :: l.drop (j + 1) := List.drop_eq_getElem_cons hltj
        clear hel ux
        obtain ⟨x, hx⟩ : ∃ x, l[j] = x := ⟨_, rfl⟩
        rw [hx] at m0 m1 m2 wfx hdr
        have HDR := hid hdr; have WFX := hid wfx
        clear hx wfx hdr
        by_cases h1 : x.mark = t.mark
        case neg =>
          have t1 : (x.mark == t.mark) = false := beq_eq_false_iff_ne.2 h1
          have EY := hid (show putA l s = l.take k ++ (t :: l.drop j) by
            rw [EX.out, PB.out, HDR.out, putB_miss fun h => h1 h.1])
          clear PB h1
          go_wp2_with fail
          have ec0 := fun p : UW wr => p.cell c0
          have ec1 := fun p : UW wr => p.cell c1
          have ec2 := fun p : UW wr => p.cell c2
          have em0 := fun p : UW wr => p.cell m0
          have em1 := fun p : UW wr => p.cell m1
          have em2 := fun p : UW wr => p.cell m2
          refine region_upd (by kernel_rfl) (by kernel_rfl) ?_
          repeat (go_big_quiet_step (fail))
          refine wpQuiet_nil ?_
          intro w4 hw1
          obtain ⟨pw, hpw⟩ := hw1
          have uq : Upd (fun _ => False) wr w4 := by rw [hpw]; exact pw.u
          clear hpw pw ec0 ec1 ec2 em0 em1 em2
          have OW5 := ownsRow_upd (ownsRow_upd OW4.out UU.out fun g hg e => by have := (OW4.out.lt g hg).1; have := HPL.out; omega) uq fun _ _ => id
          have hb5 := (uq.block p hptl id).trans HBT.out
          have U5 := hid (((U0.out.trans U4.out).comp UU.out fun i hi e => by have := HP.out; omega).trans uq)
          have hbs : W0.heap.size ≤ w4.heap.size := Nat.le_trans U4.out.size (Nat.le_trans UU.out.size uq.size)
          have hrp := kSps.keep (sps_drop (B := (· < W0.heap.size)) HEL.out P2.out (Nat.lt_of_lt_of_le hbl U0.out.size) j p1) (Same.of_upd U5.out fun _ _ => id)
          obtain ⟨v1, w5, v2, w6, r1, r2, o2, u1, u2⟩ := put_end OW5 (by omega) hbs t (r := l.drop j) (by rw [List.length_drop]; omega) (by rw [List.length_drop]) hrp
          have K0 := cellsS hb5
          have K1 := cellsS (((Upd.refl (fun _ => False) w4).alloc (.cells #[.int .i64 t.mark, .int .i64 t.fr, .int .i64 t.to] 39 (0, 0))).block p (heap_lt hb5) id |>.trans hb5)
          have K5 := cellsS ((u1.block p (heap_lt hb5) (Nat.not_le_of_lt HPL.out)).trans hb5)
          have K6 := cellsS ((u2.block p (heap_lt hb5) (Nat.not_le_of_lt HPL.out)).trans hb5)
          have O2 := hid o2; have U6 := hid (U5.out.comp u2 fun i hi e => by have := U0.out.size; omega)
          have i1 : (0 : Int) ≤ (j : Int) := by omega
          have i2 : (j : Int) ≤ (l.length : Int) := by omega
          have i3 : (l.length : Int) ≤ (cap : Int) := by omega
          have i4 : ¬ cap = j := by omega
          clear o2 u1 u2 hrp OW5 hb5 uq hbs U5 UU HBT c0 c1 c2 m0 m1 m2
          go_wp2_with fail
          go_region_held3 (fun w' => w'.cell? ⟨p, 0, none⟩ = some (.int .i64 t.mark) ∧ w'.cell? ⟨p, 1, none⟩ = some (.int .i64 t.fr) ∧ w'.cell? ⟨p, 2, none⟩ = some (.int .i64 t.to)) (first | with_reducible exact K0 | with_reducible exact K1 | with_reducible exact K5 | with_reducible exact K6 | go_keep) ((first | (refine step_append_run rfl _ _ _ _ rfl rfl rfl r1 ?_) | (refine step_append_run rfl _ _ _ _ rfl rfl rfl r2 ?_)))
          go_wp2_with fail
          go_ret
          exact ⟨_, rfl, by rw [EY.out]; have := own_base O2.out U0.out.size; rw [show k + 1 + (l.length - j) = min k l.length + (l.length - j + 1) by omega] at this; simpa [flatS_append, flatS_cons] using this, U6.out⟩
        have t1 : (x.mark == t.mark) = true := beq_iff_eq.2 h1
        by_cases h2 : x.fr ≤ t.to
        case neg =>
          have t2 : decide (x.fr ≤ t.to) = false := decide_eq_false h2
          have EY := hid (show putA l s = l.take k ++ (t :: l.drop j) by
            rw [EX.out, PB.out, HDR.out, putB_miss fun h => h2 h.2])
          clear PB h1 h2
          go_wp2_with fail
          have ec0 := fun p : UW wr => p.cell c0
          have ec1 := fun p : UW wr => p.cell c1
          have ec2 := fun p : UW wr => p.cell c2
          have em0 := fun p : UW wr => p.cell m0
          have em1 := fun p : UW wr => p.cell m1
          have em2 := fun p : UW wr => p.cell m2
          refine region_upd (by kernel_rfl) (by kernel_rfl) ?_
          repeat (go_big_quiet_step (fail))
          refine wpQuiet_nil ?_
          intro w4 hw1
          obtain ⟨pw, hpw⟩ := hw1
          have uq : Upd (fun _ => False) wr w4 := by rw [hpw]; exact pw.u
          clear hpw pw ec0 ec1 ec2 em0 em1 em2
          have OW5 := ownsRow_upd (ownsRow_upd OW4.out UU.out fun g hg e => by have := (OW4.out.lt g hg).1; have := HPL.out; omega) uq fun _ _ => id
          have hb5 := (uq.block p hptl id).trans HBT.out
          have U5 := hid (((U0.out.trans U4.out).comp UU.out fun i hi e => by have := HP.out; omega).trans uq)
          have hbs : W0.heap.size ≤ w4.heap.size := Nat.le_trans U4.out.size (Nat.le_trans UU.out.size uq.size)
          have hrp := kSps.keep (sps_drop (B := (· < W0.heap.size)) HEL.out P2.out (Nat.lt_of_lt_of_le hbl U0.out.size) j p1) (Same.of_upd U5.out fun _ _ => id)
          obtain ⟨v1, w5, v2, w6, r1, r2, o2, u1, u2⟩ := put_end OW5 (by omega) hbs t (r := l.drop j) (by rw [List.length_drop]; omega) (by rw [List.length_drop]) hrp
          have K0 := cellsS hb5
          have K1 := cellsS (((Upd.refl (fun _ => False) w4).alloc (.cells #[.int .i64 t.mark, .int .i64 t.fr, .int .i64 t.to] 39 (0, 0))).block p (heap_lt hb5) id |>.trans hb5)
          have K5 := cellsS ((u1.block p (heap_lt hb5) (Nat.not_le_of_lt HPL.out)).trans hb5)
          have K6 := cellsS ((u2.block p (heap_lt hb5) (Nat.not_le_of_lt HPL.out)).trans hb5)
          have O2 := hid o2; have U6 := hid (U5.out.comp u2 fun i hi e => by have := U0.out.size; omega)
          have i1 : (0 : Int) ≤ (j : Int) := by omega
          have i2 : (j : Int) ≤ (l.length : Int) := by omega
          have i3 : (l.length : Int) ≤ (cap : Int) := by omega
          have i4 : ¬ cap = j := by omega
          clear o2 u1 u2 hrp OW5 hb5 uq hbs U5 UU HBT c0 c1 c2 m0 m1 m2
          go_wp2_with fail
          go_region_held3 (fun w' => w'.cell? ⟨p, 0, none⟩ = some (.int .i64 t.mark) ∧ w'.cell? ⟨p, 1, none⟩ = some (.int .i64 t.fr) ∧ w'.cell? ⟨p, 2, none⟩ = some (.int .i64 t.to)) (first | with_reducible exact K0 | with_reducible exact K1 | with_reducible exact K5 | with_reducible exact K6 | go_keep) ((first | (refine step_append_run rfl _ _ _ _ rfl rfl rfl r1 ?_) | (refine step_append_run rfl _ _ _ _ rfl rfl rfl r2 ?_)))
          go_wp2_with fail
          go_ret
          exact ⟨_, rfl, by rw [EY.out]; have := own_base O2.out U0.out.size; rw [show k + 1 + (l.length - j) = min k l.length + (l.length - j + 1) by omega] at this; simpa [flatS_append, flatS_cons] using this, U6.out⟩
        have t2 : decide (x.fr ≤ t.to) = true := decide_eq_true h2
        have PB2 := hid (show putB (l.drop k) s = putB (l.drop (j + 1)) ⟨t.mark, min t.fr x.fr, max t.to x.to⟩ by
          rw [PB.out, HDR.out, putB_hit ⟨h1, h2⟩])
        clear PB h1 h2
        go_wp2_with fail
        have ec0 := fun p : UW wr => p.cell c0
        have ec1 := fun p : UW wr => p.cell c1
        have ec2 := fun p : UW wr => p.cell c2
        have em0 := fun p : UW wr => p.cell m0
        have em1 := fun p : UW wr => p.cell m1
        have em2 := fun p : UW wr => p.cell m2
        refine region_upd (by kernel_rfl) (by kernel_rfl) ?_
        repeat (go_big_quiet_step (fail))
        refine wpQuiet_nil ?_
        intro w4 hw1
        obtain ⟨pw, hpw⟩ := hw1
        have uq : Upd (fun _ => False) wr w4 := by rw [hpw]; exact pw.u
        clear hpw pw ec0 ec1 ec2 em0 em1 em2
        have m1 : w4.cell? ⟨b, o + j * 3 + 1, none⟩ = _ := UW.cell m1 ⟨w4, uq⟩
        have m2 : w4.cell? ⟨b, o + j * 3 + 2, none⟩ = _ := UW.cell m2 ⟨w4, uq⟩
        have c1 : w4.cell? ⟨p, 1, none⟩ = _ := UW.cell c1 ⟨w4, uq⟩
        have c2 : w4.cell? ⟨p, 2, none⟩ = _ := UW.cell c2 ⟨w4, uq⟩
        have hb5 := (uq.block p hptl id).trans HBT.out
        have f5 : w4.frozen? ⟨p, 1, none⟩ = false := frozen_of_block hb5
        have f6 : w4.frozen? ⟨p, 2, none⟩ = false := frozen_of_block hb5
        have HB5 := hid hb5
        have U5 := hid (UU.out.trans (uq.mono fun _ h => h.elim))
        clear hb5 uq UU HBT t1 t2 m0 c0
        go_wp2_with fail
        go_still_tail 9, (by kernel_rfl)
        change wpList _ _ _ _ _ w4.drew
        have c1 : w4.drew.cell? ⟨p, 1, none⟩ = some (.int .i64 t.fr) := c1
        have c2 : w4.drew.cell? ⟨p, 2, none⟩ = some (.int .i64 t.to) := c2
        have m2 : w4.drew.cell? ⟨b, o + j * 3 + 2, none⟩ = some (.int .i64 x.to) := m2
        have f5 : w4.drew.frozen? ⟨p, 1, none⟩ = false := f5
        have HB6 : Hid (w4.drew.heap[p]? = some (.cells #[.int .i64 t.mark, .int .i64 t.fr, .int .i64 t.to] 39 (0, 0))) := hid HB5.out
        have U6 := hid U5.out.drew
        clear f6 HB5 U5 m1
        generalize w4.drew = w6 at *
        go_wp2_with fail
        all_goals
          first | rw [show x.fr = min t.fr x.fr by omega] | rw [show t.fr = min t.fr x.fr by omega]
          have hbw6 : b < w6.heap.size := World.block_lt_of_cell? _ _ m2
          obtain ⟨w7, hw7⟩ : ∃ z, z = w6.setCell ⟨p, 1, none⟩ (.int .i64 (min t.fr x.fr)) := ⟨_, rfl⟩
          rw [← hw7]
          have hb7 : w7.heap[p]? = some (.cells #[.int .i64 t.mark, .int .i64 (min t.fr x.fr), .int .i64 t.to] 39 (0, 0)) := by rw [hw7, heap_setCell_same (p := ⟨p, 1, none⟩) rfl HB6.out]; rfl
          have u7 : Upd (· = p) w6 w7 := by rw [hw7]; exact (Upd.refl _ _).at_ 1 _
          have m2 := cell_kept m2 (u7.block b hbw6 hbp)
          have c2 : w7.cell? ⟨p, 2, none⟩ = some (.int .i64 t.to) := by rw [cell_of_block hb7]; rfl
          have f6 : w7.frozen? ⟨p, 2, none⟩ = false := frozen_of_block hb7
          have HB7 := hid hb7; have U7 := hid (U6.out.trans u7)
          clear hw7 hb7 u7 HB6 U6 c1 f5 hbw6
          go_still_tail 9, (by kernel_rfl)
          change wpList _ _ _ _ _ w7.drew
          have c2 : w7.drew.cell? ⟨p, 2, none⟩ = some (.int .i64 t.to) := c2
          have f6 : w7.drew.frozen? ⟨p, 2, none⟩ = false := f6
          have HB8 : Hid (w7.drew.heap[p]? = some (.cells #[.int .i64 t.mark, .int .i64 (min t.fr x.fr), .int .i64 t.to] 39 (0, 0))) := hid HB7.out
          have U8 := hid U7.out.drew
          clear HB7 U7 m2
          generalize w7.drew = w8 at *
          go_wp2_with fail
          all_goals
            first | rw [show x.to = max t.to x.to by omega] | rw [show t.to = max t.to x.to by omega]
            go_roundg (l.length - (j + 1))
            case measure => have := HG.out; omega
            case rel =>
              have h1 := wfi WFX.out.fr; have h2 := wfi WFX.out.upto; have h3 := wfi WFT.out.fr; have h4 := wfi WFT.out.upto
              exact ⟨j + 1, ⟨t.mark, min t.fr x.fr, max t.to x.to⟩, by omega, by omega, rfl, by go_num, by rw [heap_setCell_same (p := ⟨p, 2, none⟩) rfl HB8.out]; rfl, PB2.out, ⟨WFT.out.mark, iwf (by dsimp only; omega), iwf (by dsimp only; omega)⟩, U8.out.at_ 2 _⟩
end Go.Proofs.YtdcahnkcnbhknaaGreatDoor
