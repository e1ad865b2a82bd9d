/- The memory of the reference's store; walks of its small methods. -/
/- Walks of the reference's store: is there room, is a page erased. -/
/- Walk of the reference's Header. -/
/- Walk of the reference's store: the next position is found. -/
import Derived.Test.YtlefilfdomjkeaaGreatDoorStF
import Derived.Test.YtlefilfdomjkeaaGreatDoorRfNew
import Derived.Test.YtlefilfdomjkeaaGreatDoorWrR5
import Derived.Test.YtlefilfdomjkeaaGreatDoorStD
namespace Go.Proofs.YtlefilfdomjkeaaGreatDoor
open Go.RowKit Go.Deep
theorem RefAt.noStr {w : World} {p q : Nat} {g : Nat → Nat} {F : Fl} (h : RefAt w p q g F) : ∀ k, Foot p q g F.nb k → NoStr w k := by
  rintro k (rfl | rfl | ⟨i, hi, rfl⟩) s e
  · obtain ⟨cap, h1⟩ := h.head
    rw [h1] at e; injection e with e; injection e with _ e _; exact absurd e (by decide)
  · obtain ⟨cs, h1, _⟩ := h.rows
    rw [h1] at e; injection e with e; injection e with _ e _; exact absurd e (by decide)
  · obtain ⟨ps, h1, _⟩ := h.pages i hi
    rw [h1] at e; injection e with e; injection e with _ e _; exact absurd e (by decide)
/-- The reference's store in block x: its flash in the blocks p, q and g; all blocks that it may write are in O. -/
structure RStAt (w : World) (O : Nat → Prop) (x p q : Nat) (g : Nat → Nat) (F : Fl) (S : St) (vr va : Value) : Prop where
  head : w.heap[x]? = some (.cells (stC p F S vr va) 53 (0, 0))
  recs : OwnS w vr S.recs
  ats : OwnN w va S.ats
  flash : RefAt w p q g F
  ox : O x
  of_ : ∀ k, Foot p q g F.nb k → O k
  ovr : ∀ i, vr.ownBlock = some i → O i
  ova : ∀ i, va.ownBlock = some i → O i
  apart : ∀ k, Foot p q g F.nb k → k ≠ x ∧ vr.ownBlock ≠ some k ∧ va.ownBlock ≠ some k
  lt : ∀ k, O k → k < w.heap.size
section
variable {w : World} {O : Nat → Prop} {x p q : Nat} {g : Nat → Nat} {F : Fl} {S : St} {vr va : Value}
theorem RStAt.cells (h : RStAt w O x p q g F S vr va) : (w.cell? ⟨x, 0, none⟩ = some (.pointer (some ⟨p, 0, none⟩)) ∧ w.cell? ⟨x, 1, none⟩ = some (.int .i64 F.nb) ∧ w.cell? ⟨x, 2, none⟩ = some (.int .i64 F.np) ∧ w.cell? ⟨x, 3, none⟩ = some (.int .i64 S.first) ∧
    w.cell? ⟨x, 4, none⟩ = some (.int .i64 S.next) ∧ w.cell? ⟨x, 5, none⟩ = some vr ∧ w.cell? ⟨x, 6, none⟩ = some va) ∧ ∀ o, w.frozen? ⟨x, o, none⟩ = false := by
  refine ⟨⟨?_, ?_, ?_, ?_, ?_, ?_, ?_⟩, fun o => frozen_of_block h.head⟩ <;> rw [cell_of_block h.head] <;> rfl
theorem RStAt.noStr (h : RStAt w O x p q g F S vr va) : NoStr w x := noStr_x (by decide) h.head
/-- Other memory was written. -/
theorem RStAt.upd {T : Nat → Prop} {w' : World} (h : RStAt w O x p q g F S vr va) (u : Upd T w w') (hT : ∀ k, O k → ¬ T k) : RStAt w' O x p q g F S vr va :=
  ⟨(u.block x (heap_lt h.head) (hT x h.ox)).trans h.head, Own1.upd h.recs u fun i hi => hT i (h.ovr i hi), Own1.upd h.ats u fun i hi => hT i (h.ova i hi), h.flash.upd u fun k hk => hT k (h.of_ k hk), h.ox, h.of_, h.ovr, h.ova, h.apart, fun k hk => Nat.lt_of_lt_of_le (h.lt k hk) u.size⟩
theorem RStAt.upd0 {w' : World} (h : RStAt w O x p q g F S vr va) (u : Upd (fun _ => False) w w') : RStAt w' O x p q g F S vr va := h.upd u fun _ _ => id
theorem rlen_any (h : RStAt w O x p q g F S vr va) (ok : StOk S) : Calls Tryz.prog 22 #[.pointer (some ⟨x, 0, none⟩)] w fun e w' => e = .returned (.int .i64 S.len) ∧ Upd (fun _ => False) w w' := by
  obtain ⟨⟨c0, c1, c2, c3, c4, c5, c6⟩, hf⟩ := h.cells
  obtain ⟨a, cap, rfl, h1, h2⟩ := h.recs.fits
  have hl := ok.len
  have e : S.len = S.first + S.recs.length := rfl
  have hb1 : (S.first : Int) + S.recs.length ≤ 900000 := by omega
  have HE := hid e
  clear h ok e
  go_enter Tryz.func22, Tryz.ntmps22
  go_wp2_with fail
  go_region
  all_goals go_wp2_with fail
  all_goals go_ret
  all_goals exact ⟨by rw [HE.out]; simp, (Upd.refl _ _).drew⟩
end
end Go.Proofs.YtlefilfdomjkeaaGreatDoor
namespace Go.Proofs.YtlefilfdomjkeaaGreatDoor
open Go.RowKit Go.Deep
section
variable {w : World} {O : Nat → Prop} {x p q : Nat} {g' : Nat → Nat} {F : Fl} {S : St} {vr va : Value}
set_option maxRecDepth 100000 in
set_option maxHeartbeats 1000000 in
theorem rfits_any (h : RStAt w O x p q g' F S vr va) (ok : StOk S) (r : Nat) (hr : r ≤ 2000000) : Calls Tryz.prog 47 #[.pointer (some ⟨x, 0, none⟩), .int .i64 r] w fun e w' => e = .returned (.bool (fitsP F S r)) ∧ Upd (fun _ => False) w w' := by
  obtain ⟨⟨c0, c1, c2, c3, c4, c5, c6⟩, hf⟩ := h.cells
  have hnb := h.flash.ok.nb
  have hnp := h.flash.ok.np
  have hd1 : r / F.np ≤ r := Nat.div_le_self _ _
  have hm1 : (r / F.np + 1) * F.np ≤ 2000001 * 16 := Nat.mul_le_mul (by omega) hnp.2
  have hm2 : F.nb * F.np ≤ 32 * 16 := Nat.mul_le_mul hnb.2 hnp.2
  have hq0 : ¬ ((F.np : Int) = 0) := by omega
  have hq1 : ((F.np : Int) == 0) = false := beq_eq_false_iff_ne.2 hq0
  have e1 := tdiv_nat r F.np
  obtain ⟨d1, hd1'⟩ : ∃ d1, r / F.np + 1 = d1 := ⟨_, rfl⟩
  have e2 : ((r / F.np : Nat) : Int) + 1 = (d1 : Int) := by omega
  have e3 : (d1 : Int) * (F.np : Int) = ((d1 * F.np : Nat) : Int) := by rw [Int.natCast_mul]
  have e4 : (F.nb : Int) * (F.np : Int) = ((F.nb * F.np : Nat) : Int) := by rw [Int.natCast_mul]
  have hfit : fitsP F S r = decide ((r / F.np + 1) * F.np ≤ S.limit + F.nb * F.np) := rfl
  have hlim : S.limit = match S.ats with | [] => S.next | a :: _ => a := rfl
  have hnx := ok.next
  have hats := ok.ats
  have A := hid h.ats
  rw [hd1'] at hfit hm1
  generalize d1 * F.np = m1 at *
  generalize F.nb * F.np = m2 at *
  generalize r / F.np = d at *
  have fin : ∀ lim : Nat, S.limit = lim → decide ((m1 : Int) - (m2 : Int) ≤ (lim : Int)) = fitsP F S r := fun lim hl => by
    rw [hfit, hl]
    exact decide_eq_decide.2 (by omega)
  have FIN := hid fin
  have b1 : d ≤ 1000000000 := by omega
  have b2 : d1 ≤ 1000000000 := by omega
  have b3 : m1 ≤ 1000000000 := by omega
  have b4 : m2 ≤ 1000000000 := by omega
  obtain ⟨w1a, w1b⟩ := wrap_nat b1
  obtain ⟨w2a, w2b⟩ := wrap_nat b2
  obtain ⟨w3a, w3b⟩ := wrap_nat b3
  obtain ⟨w4a, w4b⟩ := wrap_nat b4
  obtain ⟨w5a, w5b⟩ := wrap_sub b3 b4
  clear b1 b2 b3 b4
  cases hS : S.ats with
  | nil =>
    obtain ⟨a, cap, rfl, _, _⟩ := h.ats.fits
    rw [hS] at c6 hlim
    have L := hid (FIN.out S.next hlim)
    have l0 : (([] : List Nat).length) = 0 := rfl
    rw [l0] at c6
    clear h hfit hlim ok hats hS A hd1' hm1 hm2 hd1 l0 fin
    go_enter Tryz.func47, Tryz.ntmps47
    go_wp2_with fail
    go_quiet (fail)
    go_wp2_with fail
    go_ret
    exact ⟨by rw [← L.out]; simp, (Upd.refl _ _).drewN _⟩
  | cons a l =>
    obtain ⟨g, cap, rfl, _, _, _, _, hc⟩ := A.out.cell (by rw [hS]; exact Nat.succ_pos _)
    rw [hS] at c6 hlim hc
    have ca := hc 0 (natV a) (by simp)
    have L := hid (FIN.out a hlim)
    obtain ⟨k, hk⟩ : ∃ k, (a :: l).length = k := ⟨_, rfl⟩
    have hk1 : 0 < k := by rw [← hk]; simp
    have g1 : decide (0 < k) = true := decide_eq_true hk1
    have g2 : (0 : Int) < k := Int.natCast_pos.2 hk1
    rw [hk] at c6
    clear h hfit hlim ok hats hS A hd1' hm1 hm2 hd1 fin hc hk
    go_enter Tryz.func47, Tryz.ntmps47
    go_wp2_with fail
    go_quiet (fail)
    go_wp2_with fail
    go_ret
    exact ⟨by rw [← L.out]; simp, (Upd.refl _ _).drewN _⟩
set_option maxRecDepth 100000 in
set_option maxHeartbeats 1000000 in
theorem rempty_any (h : RStAt w O x p q g' F S vr va) (hd : F.down = false) (r : Nat) (hr : r ≤ 2000000) : Calls Tryz.prog 67 #[.pointer (some ⟨x, 0, none⟩), .int .i64 r] w fun e w' => e = .returned (.bool (emptyP F r)) ∧ Upd (fun _ => False) w w' := by
  obtain ⟨⟨c0, c1, c2, c3, c4, c5, c6⟩, hf⟩ := h.cells
  have hnb := h.flash.ok.nb
  have hnp := h.flash.ok.np
  have er := empty_read F h.flash.ok hd r
  have hd1 : r / F.np ≤ r := Nat.div_le_self _ _
  have hd2 : r / F.np % F.nb ≤ r / F.np := Nat.mod_le _ _
  have hd3 : r % F.np ≤ r := Nat.mod_le _ _
  have hq0 : ¬ ((F.np : Int) = 0) := by omega
  have hq1 : ((F.np : Int) == 0) = false := beq_eq_false_iff_ne.2 hq0
  have hq2 : ¬ ((F.nb : Int) = 0) := by omega
  have hq3 : ((F.nb : Int) == 0) = false := beq_eq_false_iff_ne.2 hq2
  have e1 := tdiv_nat r F.np
  have e2 := tmod_nat (r / F.np) F.nb
  have e3 := tmod_nat r F.np
  have hv : ∀ q' : UW w, Calls Tryz.prog 28 #[.pointer (some ⟨p, 0, none⟩), .int .i64 (r / F.np % F.nb : Nat), .int .i64 (r % F.np : Nat)] q'.w fun e w' => e = .returned (.tuple #[.string (F.read (r / F.np % F.nb : Nat) (r % F.np : Nat)).1, .int .i64 (F.read (r / F.np % F.nb : Nat) (r % F.np : Nat)).2]) ∧ Upd (fun _ => False) q'.w w' := fun q' => rread_any p q g' _ _ q'.w F (h.upd0 q'.u).flash
  generalize F.read (r / F.np % F.nb : Nat) (r % F.np : Nat) = rd at *
  obtain ⟨rs, re⟩ := rd
  dsimp only at er hv
  have b1 : r / F.np ≤ 1000000000 := by omega
  have b2 : r / F.np % F.nb ≤ 1000000000 := by omega
  have b3 : r % F.np ≤ 1000000000 := by omega
  generalize r / F.np % F.nb = b at *
  generalize r % F.np = g at *
  generalize r / F.np = d at *
  have ER := hid er
  clear er h hd hd1 hd2 hd3 hnb hnp
  obtain ⟨w1a, w1b⟩ := wrap_nat b1
  obtain ⟨w2a, w2b⟩ := wrap_nat b2
  obtain ⟨w3a, w3b⟩ := wrap_nat b3
  clear b1 b2 b3
  go_enter Tryz.func67, Tryz.ntmps67
  go_wp2_with fail
  have ec0 := fun p : UW w => p.cell c0
  have ec1 := fun p : UW w => p.cell c1
  have ec2 := fun p : UW w => p.cell c2
  refine region_upd (by kernel_rfl) (by kernel_rfl) ?_
  repeat (go_big_quiet_step ((go_at_call 28; with_reducible exact Calls.upd_of (hv _))))
  refine wpQuiet_nil ?_
  intro _ hw1
  refine uw_out hw1 ?_
  rintro w1 u2 rfl
  have U2 := hid u2
  clear hw1 u2
  go_wp2_with fail
  go_ret
  exact ⟨by rw [← ER.out]; rfl, U2.out⟩
set_option maxRecDepth 100000 in
set_option maxHeartbeats 1000000 in
theorem rget_any (h : RStAt w O x p q g' F S vr va) (ok : StOk S) (i : Int) (hi : I64 i) : Calls Tryz.prog 19 #[.pointer (some ⟨x, 0, none⟩), .int .i64 i] w fun e w' => e = .returned (.tuple #[.string ⟨(getP S i).1.toArray⟩, .bool (getP S i).2]) ∧ Upd (fun _ => False) w w' := by
  obtain ⟨⟨c0, c1, c2, c3, c4, c5, c6⟩, hf⟩ := h.cells
  have hlen := ok.len
  have L := hid (rlen_any h ok)
  have hls : S.len = S.first + S.recs.length := rfl
  have b1 : (S.first : Int) ≤ 900000 := by omega
  have b2 : (S.len : Int) ≤ 900000 := by omega
  have hi1 := hi.1; have hi2 := hi.2
  by_cases h1 : i < S.first
  · have G := hid (show getP S i = ([], false) from if_pos (.inl h1))
    clear h ok hlen hls
    go_enter Tryz.func19, Tryz.ntmps19
    go_wp2_with fail
    go_ret2
    exact ⟨by rw [G.out]; rfl, Upd.refl _ _⟩
  by_cases h2 : (S.len : Int) ≤ i
  · have G := hid (show getP S i = ([], false) from if_pos (.inr h2))
    clear h ok hlen hls
    go_enter Tryz.func19, Tryz.ntmps19
    go_wp2_with fail
    refine L.out.mono ?_
    rintro e w' ⟨rfl, u⟩
    have U := hid u; clear u
    go_wp2_with fail
    go_ret2
    exact ⟨by rw [G.out]; rfl, U.out⟩
  · obtain ⟨k, hk⟩ : ∃ k : Nat, i = S.first + k := ⟨(i - S.first).toNat, by omega⟩
    subst hk
    have hkl : k < S.recs.length := by omega
    have G := hid (show getP S (S.first + k) = (S.recs[k], true) from by
      unfold getP
      rw [if_neg (by omega), show ((S.first : Int) + k - S.first).toNat = k by omega, List.getD_eq_getElem?_getD, List.getElem?_eq_getElem hkl]; rfl)
    obtain ⟨g, cap, rfl, hob, _, _, ⟨cur, hcur⟩, hcell⟩ := h.recs.cell (by omega)
    have hck := hcell k (strV S.recs[k]) (by simp [hkl])
    have hgl : g < w.heap.size := heap_lt hcur
    have f1 : (S.first : Int) + k - S.first = k := by omega
    have b3 : (k : Int) ≤ 900000 := by omega
    have hki : (k : Int) < S.recs.length := by omega
    have HL := hid h
    generalize S.recs[k] = rk at *
    clear h ok hlen hls hcell hcur hob
    go_enter Tryz.func19, Tryz.ntmps19
    go_wp2_with fail
    refine L.out.mono ?_
    rintro e w' ⟨rfl, u⟩
    have U := hid u
    have hck := cell_kept hck (u.block _ hgl id)
    have ST := hid (HL.out.upd0 u)
    clear u c0 c1 c2 c3 c4 c5 c6 hf
    obtain ⟨⟨c0, c1, c2, c3, c4, c5, c6⟩, hf⟩ := ST.out.cells
    go_wp2_with fail
    go_quiet (fail)
    go_wp2_with fail
    go_ret2
    exact ⟨by rw [G.out]; rfl, U.out.drewN _⟩
end
end Go.Proofs.YtlefilfdomjkeaaGreatDoor
namespace Go.Proofs.YtlefilfdomjkeaaGreatDoor
open Go.RowKit Go.Deep
def numsP (p : Pg) : List Int := [p.kind, p.pos, p.number, p.diff, p.offset, p.rest]
def preP (p : Pg) (k : Nat) : List UInt8 := (((numsP p).take k).map numE).flatten
theorem preP_succ (p : Pg) {k : Nat} (hk : k < (numsP p).length) : preP p (k + 1) = preP p k ++ numE (numsP p)[k] := by
  unfold preP
  rw [← List.take_append_getElem hk, List.map_append, List.flatten_append]
  simp
theorem preP_six (p : Pg) : preP p 6 = hdrP p := by unfold preP numsP hdrP; simp
theorem numsP_i {p : Pg} (h : PgI p) : ∀ x ∈ numsP p, I64 x := by
  intro x hx
  simp only [numsP, List.mem_cons, List.not_mem_nil, or_false] at hx
  rcases hx with rfl | rfl | rfl | rfl | rfl | rfl
  · exact h.kind
  · exact h.pos
  · exact h.number
  · exact h.diff
  · exact h.offset
  · exact h.rest
theorem preP_len {p : Pg} (h : PgI p) : ∀ k, k ≤ 6 → (preP p k).length ≤ 21 * k
  | 0, _ => by simp [preP]
  | k + 1, hk => by
    have hl : k < (numsP p).length := by show k < 6; omega
    rw [preP_succ p hl, List.length_append]
    have := preP_len h k (by omega)
    have := numE_21 (numsP_i h _ (List.getElem_mem hl))
    omega
set_option maxRecDepth 100000 in
set_option maxHeartbeats 1000000 in
theorem qheader_any (p : Pg) (h : PgI p) (w : World) :
    Calls Tryz.prog 74 #[pgV p] w fun e w' => e = .returned (.string ⟨(hdrP p).toArray⟩) ∧ Upd (fun _ => False) w w' := by
  obtain ⟨W1, hW1⟩ : ∃ W1, W1 = w.alloc (.cells (pgC p) 87 (0, 0)) := ⟨_, rfl⟩
  have hb : W1.heap[w.heap.size]? = some (.cells (pgC p) 87 (0, 0)) := by rw [hW1]; exact heap_alloc_new
  have u1 : Upd (fun _ => False) w W1 := by rw [hW1]; exact (Upd.refl _ _).alloc _
  obtain ⟨c0, c1, c2, c3, c4, c5, _⟩ := pg_cells hb
  obtain ⟨W2, hW2⟩ : ∃ W2, W2 = W1.alloc (.cells #[.int .i64 p.kind, .int .i64 p.pos, .int .i64 p.number, .int .i64 p.diff, .int .i64 p.offset, .int .i64 p.rest] 3 (0, 0)) := ⟨_, rfl⟩
  have hb2 : IntsBlk W2 W1.heap.size (numsP p) := by rw [hW2]; exact heap_alloc_new
  have u2 : Upd (fun _ => False) w W2 := u1.trans (by rw [hW2]; exact (Upd.refl _ _).alloc _)
  obtain ⟨b2, hbb⟩ : ∃ b, W1.heap.size = b := ⟨_, rfl⟩
  rw [hbb] at hb2
  have HW1 := hid hW1; have HW2 := hid hW2; have HB := hid hb2; have U2 := hid u2; have H := hid h; have HV : pgV p = .agg (pgC p) := rfl
  have HBB := hid hbb
  clear hW1 hW2 hb hb2 u1 u2 h hbb
  go_enter Tryz.func74, Tryz.ntmps74
  go_wp2_with fail
  rw [show w.alloc (.cells (pgC p) 87 (0, 0)) = W1 from HW1.out.symm]
  go_wp2_with fail
  have hs1 : w.heap.size + 1 = b2 := by rw [← HBB.out, HW1.out]; simp
  rw [hs1, ← HW2.out]
  clear hs1 c0 c1 c2 c3 c4 c5
  go_loopg [4, 5] 6 (fun gg s4 s5 wr => ∃ k : Nat, k ≤ 6 ∧ gg = 6 - k ∧ s4 = .string ⟨(preP p k).toArray⟩ ∧ s5 = .int .i64 k ∧ Upd (fun _ => False) W2 wr)
  case atStart => exact ⟨0, Nat.zero_le _, rfl, rfl, rfl, Upd.refl _ _⟩
  case round =>
    obtain ⟨k, hk, hg, rfl, rfl, u⟩ := hrel
    have HG := hid hg; have U := hid u
    have hbr := HB.out.upd u id
    by_cases hlt : k < 6
    · have hkl : k < (numsP p).length := hlt
      have ck := hbr.cell hkl
      have hi := numsP_i H.out _ (List.getElem_mem hkl)
      have l1 := preP_len H.out k hk
      have l2 := numE_21 hi
      have a1 : ∀ w, (Op.stringOp .add ⟨(preP p k).toArray⟩ ⟨(numE (numsP p)[k]).toArray⟩).run Tryz.prog w = .ok (.string ⟨(preP p (k + 1)).toArray⟩) w := fun w => by rw [preP_succ p hkl]; exact add_lists _ _ (by omega) w
      have hki : (k : Int) < 6 := by omega
      have QN := hid (fun wq => qNum_any _ hi wq)
      generalize (numsP p)[k] = nk at *
      generalize hP : preP p k = pk at *
      generalize hP1 : preP p (k + 1) = pk1 at *
      have HP1 := hid hP1
      clear hg u hbr hP hP1 l1 l2 hi
      go_wp2_with fail
      refine (QN.out _).mono ?_
      rintro e w3 ⟨rfl, u3⟩
      have U3 := hid (U.out.trans u3)
      clear u3
      go_wp2_with fail
      go_roundg (6 - (k + 1))
      case measure => have := HG.out; omega
      case rel => exact ⟨k + 1, by omega, rfl, by rw [HP1.out], by go_num, U3.out⟩
    · obtain rfl : k = 6 := by omega
      have HS := hid (preP_six p)
      clear hg u hbr
      go_wp2_with fail
      go_ret
      exact ⟨by rw [← HS.out]; rfl, U2.out.trans U.out⟩
set_option maxRecDepth 100000 in
set_option maxHeartbeats 1000000 in
theorem qroom_any (p : Pg) (h : PgI p) (w : World) :
    Calls Tryz.prog 71 #[pgV p] w fun e w' => e = .returned (.int .i64 (roomP p)) ∧ Upd (fun _ => False) w w' := by
  obtain ⟨W1, hW1⟩ : ∃ W1, W1 = w.alloc (.cells (pgC p) 87 (0, 0)) := ⟨_, rfl⟩
  have hb : W1.heap[w.heap.size]? = some (.cells (pgC p) 87 (0, 0)) := by rw [hW1]; exact heap_alloc_new
  have u1 : Upd (fun _ => False) w W1 := by rw [hW1]; exact (Upd.refl _ _).alloc _
  obtain ⟨c0, c1, c2, c3, c4, c5, c6⟩ := pg_cells hb
  have HV : pgV p = .agg (pgC p) := rfl
  have H := hid h; have U1 := hid u1; have HW := hid hW1
  by_cases hk : p.kind = 1
  · have hr : roomP p = 0 := by unfold roomP; rw [if_pos hk]
    have HR := hid hr
    have g1 : ((p.kind : Int) == 1) = true := by rw [hk]; rfl
    clear hk hr hb u1 hW1 h
    go_enter Tryz.func71, Tryz.ntmps71
    go_wp2_with fail
    go_ret
    exact ⟨by rw [HR.out]; rfl, by have := U1.out; rw [HW.out] at this; exact this⟩
  · have hr : roomP p = min (p.rest : Int) (64 - ((hdrP p).length : Int)) := by unfold roomP; rw [if_neg hk]
    have HR := hid hr
    have g1 : ((p.kind : Int) == 1) = false := beq_eq_false_iff_ne.2 (by omega)
    have hl := hdr_126 h
    have hri : (p.rest : Int) ≤ 9223372036854775807 := h.rest.2
    have hc : ∀ q : UW W1, Calls Tryz.prog 74 #[.agg (pgC p)] q.w fun e w2 => e = .returned (.string ⟨(hdrP p).toArray⟩) ∧ Upd (fun _ => False) q.w w2 := fun q => qheader_any p H.out q.w
    generalize hdrP p = hd at *
    have fin : ∀ x : Int, x = min (p.rest : Int) (64 - (hd.length : Int)) → ∀ w1, Upd (fun _ => False) W1 w1 → (Ending.returned (.int .i64 x) = .returned (.int .i64 (roomP p)) ∧ Upd (fun _ => False) w w1) := fun x hx w1 u => ⟨by rw [hx, ← hr], u1.trans u⟩
    have FIN := hid fin
    have w1 : IntKind.i64.wrap (64 - (hd.length : Int)) = 64 - (hd.length : Int) := IntWalk.i64_in _ (by omega)
    have w2 : wrap64 (64 - (hd.length : Int)) = 64 - (hd.length : Int) := IntWalk.wrap64_in _ (by constructor <;> omega)
    clear hk hr hb u1 hW1 h fin
    by_cases hm : (p.rest : Int) ≤ 64 - (hd.length : Int)
    all_goals
      go_enter Tryz.func71, Tryz.ntmps71
      go_wp2_with fail
      rw [show w.alloc (.cells (pgC p) 87 (0, 0)) = W1 from HW.out.symm]
      have ec0 := fun p : UW W1 => p.cell c0
      have ec1 := fun p : UW W1 => p.cell c1
      have ec2 := fun p : UW W1 => p.cell c2
      have ec3 := fun p : UW W1 => p.cell c3
      have ec4 := fun p : UW W1 => p.cell c4
      have ec5 := fun p : UW W1 => p.cell c5
      have ec6 := fun p : UW W1 => p.cell c6
      refine region_upd (by kernel_rfl) (by kernel_rfl) ?_
      repeat (go_big_quiet_step ((go_at_call 74; with_reducible exact Calls.upd_of (hc _))))
      refine wpQuiet_nil ?_
      intro _ hw1
      refine uw_out hw1 ?_
      rintro w1 u2 rfl
      have U2 := hid u2
      clear hw1 u2
      go_wp2_with fail
      go_ret
    · exact FIN.out _ (by omega) _ U2.out
    · exact FIN.out _ (by omega) _ U2.out
end Go.Proofs.YtlefilfdomjkeaaGreatDoor
namespace Go.Proofs.YtlefilfdomjkeaaGreatDoor
open Go.RowKit Go.Deep
section
variable {w : World} {O : Nat → Prop} {x p q : Nat} {g' : Nat → Nat} {F : Fl} {S : St} {vr va : Value}
set_option maxRecDepth 100000 in
set_option maxHeartbeats 2000000 in
theorem rseek_any (h : RStAt w O x p q g' F S vr va) (hd : F.down = false) (r : Nat) (hr : r ≤ 1000000) : Calls Tryz.prog 41 #[.pointer (some ⟨x, 0, none⟩), .int .i64 r] w fun e w' => e = .returned (.int .i64 (seekP F r : Nat)) ∧ Upd (fun _ => False) w w' := by
  obtain ⟨⟨c0, c1, c2, c3, c4, c5, c6⟩, hf⟩ := h.cells
  have hnb := h.flash.ok.nb
  have hnp := h.flash.ok.np
  have hp0 : 0 < F.np := by omega
  have hq0 : ¬ ((F.np : Int) = 0) := by omega
  have hq1 : ((F.np : Int) == 0) = false := beq_eq_false_iff_ne.2 hq0
  have H := hid h; have HD := hid hd
  obtain ⟨R, hR⟩ : ∃ R, seekUp F F.np r = R := ⟨_, rfl⟩
  have HR := hid hR
  clear h hR hd
  go_enter Tryz.func41, Tryz.ntmps41
  go_wp2_with fail
  go_loopg [1] F.np (fun gg s1 wr => ∃ cur : Nat, s1 = .int .i64 cur ∧ seekUp F gg cur = R ∧ (cur % F.np ≠ 0 → F.np - cur % F.np ≤ gg) ∧ cur + gg ≤ r + F.np ∧ Upd (fun _ => False) w wr)
  case atStart => exact ⟨r, rfl, HR.out, fun h => by have := Nat.mod_lt r hp0; omega, Nat.le_refl _, Upd.refl _ _⟩
  case round =>
    obtain ⟨cur, rfl, h1, h2, h3, u⟩ := hrel
    have U := hid u
    have st := H.out.upd0 u
    obtain ⟨⟨c0, c1, c2, c3, c4, c5, c6⟩, hf⟩ := st.cells
    have ST := hid st
    have b1 : cur % F.np ≤ 1000000000 := by have := Nat.mod_lt cur hp0; omega
    have b2 : cur ≤ 1001000 := by omega
    have e1 := tmod_nat cur F.np
    have H1 := hid h1; have H2 := hid h2; have H3 := hid h3
    clear u st h1 h2 h3
    have P1 := hid (fun h : seekUp F F.np r = cur => (show seekP F r = if cur % F.np = 0 ∧ emptyP F (cur + F.np - 1) = true then seekDn F cur F.np (cur + F.np - 1) else cur from by unfold seekP; rw [h]))
    obtain ⟨l1, hl1⟩ : ∃ l1, cur + F.np = l1 := ⟨_, rfl⟩
    obtain ⟨l2, hl2⟩ : ∃ l2, cur + F.np - 1 = l2 := ⟨_, rfl⟩
    have f1 : (cur : Int) + F.np = l1 := by omega
    have f2 : (l1 : Int) - 1 = l2 := by omega
    have b3 : l1 ≤ 1000000000 := by omega
    have b4 : l2 ≤ 1000000000 := by omega
    have b5 : l2 ≤ 2000000 := by omega
    have L2 := hid hl2
    have BB := hid (show cur ≤ l2 ∧ l2 ≤ cur + F.np from by omega)
    obtain ⟨m, hm⟩ : ∃ m, cur % F.np = m := ⟨_, rfl⟩
    rw [hm] at b1 e1
    have B1 := hid b1
    have HM := hid hm
    clear hl1 hl2 hm
    obtain ⟨w1a, w1b⟩ := wrap_nat b1
    obtain ⟨w3a, w3b⟩ := wrap_nat b3
    obtain ⟨w4a, w4b⟩ := wrap_nat b4
    clear b1 b3 b4
    by_cases hz : m = 0
    · have e0 : Int.tmod (cur : Int) (F.np : Int) = 0 := by rw [e1, hz]; rfl
      have HZ := hid hz
      have RC := hid (show seekUp F F.np r = cur from HR.out.trans (H1.out.symm.trans (seek_stop (by rw [HM.out]; exact fun h => h.1 hz))))
      clear hz e1 w1a w1b
      go_wp2_with fail
      refine (rempty_any ST.out HD.out l2 b5).mono ?_
      rintro e w2 ⟨rfl, u2⟩
      have SE := hid (ST.out.upd0 u2)
      have UE := hid (U.out.trans u2)
      clear u2
      obtain ⟨⟨c0, c1, c2, c3, c4, c5, c6⟩, hf⟩ := SE.out.cells
      cases hE : emptyP F l2 with
      | false =>
        have PP := hid (show seekP F r = cur from by rw [P1.out RC.out, if_neg (fun h => by rw [L2.out, hE] at h; exact absurd h.2 (by decide))])
        clear hE
        go_wp2_with fail
        go_ret
        exact ⟨by rw [PP.out]; rfl, UE.out⟩
      | true =>
        have PP := hid (show seekP F r = seekDn F cur F.np l2 from by rw [P1.out RC.out, L2.out, if_pos ⟨by rw [HM.out]; exact HZ.out, hE⟩])
        clear hE
        go_wp2_with fail
        go_loopg [5] F.np (fun gg s5 wy => ∃ s : Nat, s5 = .int .i64 s ∧ Upd (fun _ => False) w wy ∧ seekDn F cur gg s = seekP F r ∧ cur ≤ s ∧ s ≤ cur + gg ∧ s ≤ 2000000)
        case atStart => exact ⟨l2, rfl, UE.out, PP.out.symm, BB.out.1, BB.out.2, b5⟩
        case round =>
          obtain ⟨s, rfl, u, h1, h2, h3, h4⟩ := hrel
          clear w3a w3b w4a w4b f1 f2 e0 b2 b5
          have ST2 := hid (H.out.upd0 u); have U2 := hid u
          obtain ⟨⟨c0, c1, c2, c3, c4, c5, c6⟩, hf⟩ := ST2.out.cells
          by_cases hlt : cur < s
          · obtain ⟨t, ht⟩ : ∃ t, s = t + 1 := ⟨s - 1, by omega⟩
            have f3 : (s : Int) - 1 = t := by omega
            have bt : t ≤ 1000000000 := by omega
            have bt2 : t ≤ 2000000 := by omega
            have hti : (cur : Int) < s := by omega
            have ht1 : s - 1 = t := by omega
            have hB := hid (show cur ≤ t ∧ t ≤ 2000000 ∧ s ≤ cur + gk from ⟨by omega, bt2, h3⟩)
            have H1 := hid h1
            clear u h1 h2 h3 h4
            obtain ⟨w5a, w5b⟩ := wrap_nat bt
            cases hE : emptyP F t with
            | true =>
              have D1 := hid (dn_go (F := F) (k := gk) ⟨hlt, by rw [ht1]; exact hE⟩ hB.out.2.2)
              have EC := hid (show ∀ wq, RStAt wq O x p q g' F S vr va → Calls Tryz.prog 67 #[.pointer (some ⟨x, 0, none⟩), .int .i64 t] wq fun e w' => e = .returned (.bool true) ∧ Upd (fun _ => False) wq w' from fun _ h => by rw [← hE]; exact rempty_any h HD.out t bt2)
              have TT := hid ht1
              clear hE bt ht ht1
              go_wp2_with fail
              refine (EC.out _ ST2.out).mono ?_
              rintro e w3 ⟨rfl, u3⟩
              have UE3 := hid (U2.out.trans u3)
              clear u3
              go_wp2_with fail
              obtain ⟨j, hj, hd1⟩ := D1.out
              rw [TT.out] at hd1
              go_roundg j
              case measure => clear w5a w5b; omega
              case rel => exact ⟨t, rfl, UE3.out, hd1.symm.trans H1.out, hB.out.1, by clear w5a w5b; have := hB.out.2.2; have := TT.out; omega, hB.out.2.1⟩
            | false =>
              have D1 := hid (show s = seekP F r from (dn_stop (k := gk) (fun h => by rw [ht1, hE] at h; exact absurd h.2 (by decide))).symm.trans H1.out)
              have EC := hid (show ∀ wq, RStAt wq O x p q g' F S vr va → Calls Tryz.prog 67 #[.pointer (some ⟨x, 0, none⟩), .int .i64 t] wq fun e w' => e = .returned (.bool false) ∧ Upd (fun _ => False) wq w' from fun _ h => by rw [← hE]; exact rempty_any h HD.out t bt2)
              clear hE bt ht ht1
              go_wp2_with fail
              refine (EC.out _ ST2.out).mono ?_
              rintro e w3 ⟨rfl, u3⟩
              have UE3 := hid (U2.out.trans u3)
              clear u3
              go_wp2_with fail
              go_ret
              exact ⟨by rw [← D1.out]; rfl, UE3.out⟩
          · have D1 := hid (show s = seekP F r from (dn_stop (k := gk) (fun h => hlt h.1)).symm.trans h1)
            have hti : ¬ (cur : Int) < s := by omega
            clear u h1 h2 h3 h4
            go_wp2_with fail
            go_ret
            exact ⟨by rw [← D1.out]; rfl, U2.out⟩
    · have hzi : ¬ (m : Int) = 0 := by clear w1a w1b w3a w3b w4a w4b; omega
      obtain ⟨mi, hmi⟩ : ∃ mi : Int, (m : Int) = mi := ⟨_, rfl⟩
      have hm0 : 0 ≤ mi := by clear w1a w1b w3a w3b w4a w4b; omega
      have hm1 : mi ≤ 1000000000 := by have := B1.out; clear w1a w1b w3a w3b w4a w4b; omega
      rw [hmi] at hzi e1
      clear hmi w1a w1b
      have g1 : (mi == 0) = false := beq_eq_false_iff_ne.2 hzi
      have g2 : (mi != 0) = true := by rw [bne_iff_ne]; exact hzi
      have EC := hid (show ∀ wq (b : Bool), emptyP F cur = b → RStAt wq O x p q g' F S vr va → Calls Tryz.prog 67 #[.pointer (some ⟨x, 0, none⟩), .int .i64 cur] wq fun e w' => e = .returned (.bool b) ∧ Upd (fun _ => False) wq w' from fun _ b hb h => by rw [← hb]; exact rempty_any h HD.out cur (Nat.le_trans b2 (by decide)))
      cases hE : emptyP F cur with
      | false =>
        have D1 := hid (seek_go ⟨by rw [HM.out]; exact hz, hE⟩ (H2.out (by rw [HM.out]; exact hz)) hp0)
        have E1 := hid (fun wq h => EC.out wq false hE h)
        obtain ⟨n1, hn1⟩ : ∃ n1, cur + 1 = n1 := ⟨_, rfl⟩
        have f3 : (cur : Int) + 1 = n1 := by clear w3a w3b w4a w4b; omega
        have b6 : n1 ≤ 1000000000 := by clear w3a w3b w4a w4b; omega
        have N1 := hid hn1
        have b6 : (cur : Int) + 1 ≤ 1000000000 := by clear w3a w3b w4a w4b; omega
        clear hE hn1 w3a w3b w4a w4b
        go_wp2_with fail
        refine (E1.out _ ST.out).mono ?_
        rintro e w3 ⟨rfl, u3⟩
        have UE3 := hid (U.out.trans u3)
        clear u3
        go_wp2_with fail
        obtain ⟨j, hj, hd1, hd2⟩ := D1.out
        rw [N1.out] at hd1 hd2
        go_roundg j
        case measure => skip; omega
        case rel => exact ⟨n1, rfl, hd1.symm.trans H1.out, hd2, by skip; have := H3.out; have := N1.out; omega, UE3.out⟩
      | true =>
        have RC := hid (show seekUp F F.np r = cur from HR.out.trans (H1.out.symm.trans (seek_stop (fun h => by rw [hE] at h; exact absurd h.2 (by decide)))))
        have PP := hid (show seekP F r = cur from by rw [P1.out RC.out, if_neg (fun h => hz (by rw [← HM.out]; exact h.1))])
        have E1 := hid (fun wq h => EC.out wq true hE h)
        clear hE
        go_wp2_with fail
        refine (E1.out _ ST.out).mono ?_
        rintro e w3 ⟨rfl, u3⟩
        have ST3 := hid (ST.out.upd0 u3)
        have UE3 := hid (U.out.trans u3)
        clear u3
        obtain ⟨⟨c0, c1, c2, c3, c4, c5, c6⟩, hf⟩ := ST3.out.cells
        go_wp2_with fail
        go_ret
        exact ⟨by rw [PP.out]; rfl, UE3.out⟩
end
end Go.Proofs.YtlefilfdomjkeaaGreatDoor
