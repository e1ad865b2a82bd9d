/- Rows of pages, as the reference's store makes them. -/
/- Walk of the reference's store: the valid pages, in order. -/
/- Walk of the reference's store: the pieces of records are put together. -/
/- Walk of the reference's store: the pieces of records are put together. -/
/- Walk of the reference's store: it is opened. -/
import Derived.Test.YtlefilfdomjkeaaGreatDoorRtG
import Derived.Test.YtlefilfdomjkeaaGreatDoorStOrd
import Derived.Deep.MidRow
import Derived.Test.YtlefilfdomjkeaaGreatDoorStI
namespace Go.Proofs.YtlefilfdomjkeaaGreatDoor
open Go.RowKit Go.Deep
theorem elemPg : ElemTy Tryz.prog 84 87 7 64 :=
  .mk' Tryz.underlying84 (z := .agg #[.int .i64 0, .int .i64 0, .int .i64 0, .int .i64 0, .int .i64 0, .int .i64 0, .string ⟨#[]⟩]) (by kernel_rfl) (by rfl) (by decide)
def flatP (l : List Pg) : List Value := (l.map fun p => (pgC p).toList).flatten
theorem flatP_nil : flatP [] = [] := rfl
theorem flatP_cons (p : Pg) (l : List Pg) : flatP (p :: l) = (pgC p).toList ++ flatP l := rfl
theorem flatP_append (a b : List Pg) : flatP (a ++ b) = flatP a ++ flatP b := by simp [flatP]
theorem flatP_len : ∀ l : List Pg, (flatP l).length = l.length * 7
  | [] => rfl
  | p :: l => by rw [flatP_cons, List.length_append, flatP_len l]; simp; omega
theorem flatP_get : ∀ {l : List Pg} {i : Nat} (hi : i < l.length) {j : Nat}, j < 7 → (flatP l)[i * 7 + j]? = (pgC l[i])[j]?
  | p :: l, 0, _, j, hj => by
    rw [flatP_cons, List.getElem?_append_left (by simp; omega)]
    simp
  | p :: l, i + 1, hi, j, hj => by
    rw [flatP_cons, List.getElem?_append_right (by simp; omega)]
    have := flatP_get (l := l) (i := i) (by simpa using hi) hj
    rw [List.getElem_cons_succ, ← this]
    congr 1
    simp
    omega
def PRow (w : World) (B : Nat) (v : Value) (l : List Pg) : Prop := w.ownsRow B 87 7 v l.length (flatP l)
theorem PRow.nil (w : World) (B : Nat) : PRow w B (.slice none 0 0) [] := World.ownsRow_nil _ _ _ _
theorem PRow.upd {S : Nat → Prop} {w w' : World} {B : Nat} {v : Value} {l : List Pg} (h : PRow w B v l) (u : Upd S w w') (hS : ∀ g, v.ownBlock = some g → ¬ S g) : PRow w' B v l := ownsRow_upd h u hS
theorem PRow.lt {w : World} {B : Nat} {v : Value} {l : List Pg} (h : PRow w B v l) : ∀ g, v.ownBlock = some g → B ≤ g ∧ g < w.heap.size := World.ownsRow.lt h
theorem PRow.fits {w : World} {B : Nat} {v : Value} {l : List Pg} (h : PRow w B v l) : ∃ a cap, v = .slice a l.length cap ∧ l.length ≤ cap ∧ cap ≤ maxLen := by
  rcases ownsRow_fits h with ⟨rfl, h0⟩ | ⟨g, cap, rfl, _, _, h1, h2⟩
  · exact ⟨none, 0, by rw [h0], by omega, Nat.zero_le _⟩
  · exact ⟨_, cap, rfl, h1, h2⟩
theorem PRow.block {w : World} {B : Nat} {v : Value} {l : List Pg} (h : PRow w B v l) (hn : 0 < l.length) : ∃ g cap cur, v = .slice (some ⟨g, 0, none⟩) l.length cap ∧ v.ownBlock = some g ∧ B ≤ g ∧ w.heap[g]? = some (.cells cur 87 (0, 0)) ∧ l.length ≤ cap ∧ cap ≤ maxLen ∧ cur.size = cap * 7 ∧ cur.toList.take (l.length * 7) = flatP l := by
  rcases h.2 with ⟨rfl, h0⟩ | ⟨g, cap, cur, rfl, hbg, hg, hnc, hcm, hcs, ht⟩
  · omega
  · exact ⟨g, cap, cur, rfl, rfl, hbg, hg, hnc, hcm, hcs, ht⟩
/-- The cells of a page in a row. -/
theorem PRow.page {w : World} {B : Nat} {v : Value} {l : List Pg} (h : PRow w B v l) {i : Nat} (hi : i < l.length) : ∃ g cap, v = .slice (some ⟨g, 0, none⟩) l.length cap ∧ v.ownBlock = some g ∧ B ≤ g ∧ g < w.heap.size ∧ l.length ≤ cap ∧ cap ≤ 9223372036854775807 ∧
    (w.cell? ⟨g, i * 7, none⟩ = some (.int .i64 l[i].kind) ∧ w.cell? ⟨g, i * 7 + 1, none⟩ = some (.int .i64 l[i].pos) ∧ w.cell? ⟨g, i * 7 + 2, none⟩ = some (.int .i64 l[i].number) ∧ w.cell? ⟨g, i * 7 + 3, none⟩ = some (.int .i64 l[i].diff) ∧ w.cell? ⟨g, i * 7 + 4, none⟩ = some (.int .i64 l[i].offset) ∧ w.cell? ⟨g, i * 7 + 5, none⟩ = some (.int .i64 l[i].rest) ∧ w.cell? ⟨g, i * 7 + 6, none⟩ = some (.string ⟨l[i].bytes.toArray⟩)) ∧ ∀ o, w.frozen? ⟨g, o, none⟩ = false := by
  obtain ⟨g, cap, cur, e, e2, hB, hg, h1, h2, h3, h4⟩ := h.block (by omega)
  have key : ∀ j, j < 7 → w.cell? ⟨g, i * 7 + j, none⟩ = (pgC l[i])[j]? := fun j hj => by
    rw [cell_of_block hg, ← flatP_get hi hj, ← h4, List.getElem?_take, if_pos (by omega), Array.getElem?_toList]
  exact ⟨g, cap, e, e2, hB, heap_lt hg, h1, h2, ⟨key 0 (by decide), key 1 (by decide), key 2 (by decide), key 3 (by decide), key 4 (by decide), key 5 (by decide), key 6 (by decide)⟩, fun o => frozen_of_block hg⟩
theorem flatP_set : ∀ {l : List Pg} {i : Nat} (_ : i < l.length) (p : Pg), flatP (l.set i p) = (flatP l).take (i * 7) ++ ((pgC p).toList ++ (flatP l).drop (i * 7 + 7))
  | q :: l, 0, _, p => by
    rw [List.set_cons_zero, flatP_cons, flatP_cons]
    simp
  | q :: l, i + 1, hi, p => by
    have := flatP_set (l := l) (i := i) (by simpa using hi) p
    rw [List.set_cons_succ, flatP_cons, flatP_cons, this]
    have e : ((pgC q).toList).length = 7 := rfl
    generalize (pgC q).toList = Q at e
    generalize (pgC p).toList = R
    generalize flatP l = X
    rw [show (i + 1) * 7 = Q.length + i * 7 by omega, show Q.length + i * 7 + 7 = Q.length + (i * 7 + 7) by omega, List.take_length_add_append, List.drop_length_add_append, List.append_assoc]
/-- A page of a row is written. -/
theorem PRow.put {w : World} {B g : Nat} {v : Value} {l : List Pg} (h : PRow w B v l) (hv : v.ownBlock = some g) {i : Nat} (hi : i < l.length) (p : Pg) : PRow (w.setCells g (i * 7) (pgC p).toList) B v (l.set i p) := by
  obtain ⟨g', cap, cur, e, e2, hB, hg, h1, h2, h3, h4⟩ := h.block (by omega)
  obtain rfl : g' = g := Option.some.inj (e2.symm.trans hv)
  have hl := flatP_len l
  have hcl : (l.length * 7) ≤ cur.toList.length := by have := cur.length_toList; omega
  have hlen : (pgC p).toList.length = 7 := rfl
  generalize hR : (pgC p).toList = R at hlen ⊢
  have hs := heap_setCells g' 87 (0, 0) R (i * 7) w cur.toList (by rw [hg, Array.toArray_toList]) (by omega)
  unfold PRow World.ownsRow
  refine ⟨by rw [flatP_len], .inr ⟨g', cap, _, by rw [List.length_set]; exact e, hB, hs, by rw [List.length_set]; exact h1, h2, ?_, ?_⟩⟩
  · rw [List.size_toArray, List.length_append, List.length_append, List.length_take, List.length_drop, hlen, Array.length_toList, h3]
    omega
  · rw [flatP_set hi, ← h4, List.length_set, hlen, hR]
    have e1 : cur.toList = cur.toList.take (l.length * 7) ++ cur.toList.drop (l.length * 7) := (List.take_append_drop _ _).symm
    have hA : (cur.toList.take (l.length * 7)).length = l.length * 7 := by rw [List.length_take]; omega
    generalize cur.toList.take (l.length * 7) = A at *
    generalize cur.toList.drop (l.length * 7) = Z at *
    rw [e1]
    have t1 : (A ++ Z).take (i * 7) = A.take (i * 7) := List.take_append_of_le_length (by omega)
    have t2 : (A ++ Z).drop (i * 7 + 7) = A.drop (i * 7 + 7) ++ Z := List.drop_append_of_le_length (by omega)
    rw [t1, t2, ← List.append_assoc, ← List.append_assoc, List.take_left' (by
      rw [List.length_append, List.length_append, List.length_take, List.length_drop, hlen]; omega), List.append_assoc]
theorem upd_put {S : Nat → Prop} {a w : World} {g o : Nat} {p : Pg} (u : Upd S a w) (h : S g ∨ a.heap.size ≤ g) : Upd S a (w.setCells g o (pgC p).toList) := upd_setCells' g h _ _ _ u
/-- Two neighbours change their places. -/
theorem swap_mid (a b : List Pg) (x p : Pg) : (((a ++ x :: p :: b).set (a.length + 1) x).set a.length p) = a ++ p :: x :: b := by
  rw [List.set_append_right _ _ (by omega), show a.length + 1 - a.length = 1 by omega, List.set_cons_succ, List.set_cons_zero, List.set_append_right _ _ (by omega), Nat.sub_self, List.set_cons_zero]
/-- Where a page is put among the others. -/
theorem insP_at (p : Pg) : ∀ (a b : List Pg), (∀ q ∈ a, ¬ p.pos < q.pos) → (∀ q ∈ b, p.pos < q.pos) → insP p (a ++ b) = a ++ p :: b
  | [], [], _, _ => rfl
  | [], q :: b, _, h => by
    show insP p (q :: b) = _
    unfold insP
    rw [if_pos (h q List.mem_cons_self)]; rfl
  | q :: a, b, h1, h2 => by
    show insP p (q :: (a ++ b)) = _
    unfold insP
    rw [if_neg (h1 q List.mem_cons_self), insP_at p a b (fun r hr => h1 r (List.mem_cons_of_mem _ hr)) h2]; rfl
end Go.Proofs.YtlefilfdomjkeaaGreatDoor
namespace Go.Proofs.YtlefilfdomjkeaaGreatDoor
open Go.RowKit Go.Deep
theorem srt_snoc (l : List Pg) (p : Pg) : srtP (l ++ [p]) = insP p (srtP l) := by unfold srtP; rw [List.foldl_append]; rfl
theorem srt_len (l : List Pg) : (srtP l).length = l.length := by
  have := (srt_perm l []).length_eq
  rw [List.append_nil] at this
  exact this
theorem valsTo_len (F : Fl) (i : Nat) : (valsTo F i).length ≤ i := by
  have := List.length_filterMap_le (validAt F) (List.range i)
  rw [List.length_range] at this
  exact this
theorem valsTo_sorted (F : Fl) {i : Nat} (hi : i ≤ F.nb * F.np) : SortedP (srtP (valsTo F i)) := by
  have hs : (valsTo F i).Sublist (vals F) := by
    rw [← valsTo_all]
    exact (List.range_sublist.2 hi).filterMap _
  exact (srt_go (valsTo F i) [] List.Pairwise.nil ((vals_apart F).sublist hs) fun _ _ _ h => nomatch h).1
/-- The cells of a page at a place. -/
def At7 (w : World) (g o : Nat) (p : Pg) : Prop :=
  w.cell? ⟨g, o, none⟩ = some (.int .i64 p.kind) ∧ w.cell? ⟨g, o + 1, none⟩ = some (.int .i64 p.pos) ∧ w.cell? ⟨g, o + 2, none⟩ = some (.int .i64 p.number) ∧ w.cell? ⟨g, o + 3, none⟩ = some (.int .i64 p.diff) ∧ w.cell? ⟨g, o + 4, none⟩ = some (.int .i64 p.offset) ∧ w.cell? ⟨g, o + 5, none⟩ = some (.int .i64 p.rest) ∧ w.cell? ⟨g, o + 6, none⟩ = some (.string ⟨p.bytes.toArray⟩)
theorem At7.there {w : World} {g o : Nat} {p : Pg} (h : At7 w g o p) (hf : ∀ o, w.frozen? ⟨g, o, none⟩ = false) : w.there g o 7 := by
  obtain ⟨h0, h1, h2, h3, h4, h5, h6⟩ := h
  intro j hj
  refine ⟨?_, hf _⟩
  have : j = 0 ∨ j = 1 ∨ j = 2 ∨ j = 3 ∨ j = 4 ∨ j = 5 ∨ j = 6 := by omega
  rcases this with rfl | rfl | rfl | rfl | rfl | rfl | rfl
  · rw [Nat.add_zero, h0]; rfl
  · rw [h1]; rfl
  · rw [h2]; rfl
  · rw [h3]; rfl
  · rw [h4]; rfl
  · rw [h5]; rfl
  · rw [h6]; rfl
theorem PRow.at_ {w : World} {B g : Nat} {v : Value} {l : List Pg} (h : PRow w B v l) (hv : v.ownBlock = some g) {i : Nat} {x : Pg} (e : l[i]? = some x) : At7 w g (i * 7) x ∧ ∀ o, w.frozen? ⟨g, o, none⟩ = false := by
  obtain ⟨hi, rfl⟩ := List.getElem?_eq_some_iff.1 e
  obtain ⟨g', cap, _, e2, _, _, _, _, h7, hf⟩ := h.page hi
  obtain rfl : g' = g := Option.some.inj (e2.symm.trans hv)
  exact ⟨h7, hf⟩
theorem pgC_one (p : Pg) : (pgC p).all (·.oneCell') = true := by simp [pgC, Value.oneCell']
/-- A page is stored in a row. -/
theorem store_page {w : World} {g o : Nat} {x : Pg} (h : At7 w g o x) (hf : ∀ o, w.frozen? ⟨g, o, none⟩ = false) (p : Pg) : (Instr.storeAt 87 (.pointer (some ⟨g, o, none⟩)) (.agg (pgC p))).run Tryz.prog w = .ok () (w.setCells g o (pgC p).toList) :=
  run_storeAt_mid w g o 87 (pgC p) (h.there hf) (by kernel_rfl) (pgC_one p)
set_option maxRecDepth 100000 in
set_option maxHeartbeats 8000000 in
theorem valid_any {w : World} {O : Nat → Prop} {x p q : Nat} {g' : Nat → Nat} {F : Fl} {S : St} {vr va : Value} (h : RStAt w O x p q g' F S vr va) (hd : F.down = false) (hi : PgInv F) :
    Calls Tryz.prog 39 #[.pointer (some ⟨x, 0, none⟩)] w fun e w' => (∃ v, e = .returned v ∧ PRow w' w.heap.size v (pagesP F)) ∧ Upd (fun _ => False) w w' := by
  have hnb := h.flash.ok.nb
  have hnp := h.flash.ok.np
  have hmul : F.nb * F.np ≤ 32 * 16 := Nat.mul_le_mul hnb.2 hnp.2
  have H := hid h; have HD := hid hd; have HI := hid hi
  have hq0 : ¬ ((F.np : Int) = 0) := by omega
  have hq1 : ((F.np : Int) == 0) = false := beq_eq_false_iff_ne.2 hq0
  have hq2 : ¬ ((F.nb : Int) = 0) := by omega
  have hq3 : ((F.nb : Int) == 0) = false := beq_eq_false_iff_ne.2 hq2
  have HNB := hid hnb; have HNP := hid hnp; have HM := hid hmul
  have hbi : (F.nb : Int) ≤ 32 := by omega
  have hki : (F.np : Int) ≤ 16 := by omega
  clear h hd hi hnb hnp hmul
  go_enter Tryz.func39, Tryz.ntmps39
  go_wp2_with fail
  go_loopg [3, 4] F.nb (fun gg s3 s4 wr => ∃ b : Nat, b ≤ F.nb ∧ gg = F.nb - b ∧ s4 = .int .i64 b ∧ PRow wr w.heap.size s3 (srtP (valsTo F (b * F.np))) ∧ Upd (fun _ => False) w wr)
  case atStart => exact ⟨0, Nat.zero_le _, rfl, rfl, by rw [Nat.zero_mul]; exact PRow.nil _ _, Upd.refl _ _⟩
  case round =>
    obtain ⟨b, hb, hg, rfl, hrow, u⟩ := hrel
    have HG := hid hg; have ROW := hid hrow; have U := hid u
    obtain ⟨⟨c0, c1, c2, c3, c4, c5, c6⟩, hf⟩ := (H.out.upd0 u).cells
    clear hg hrow u
    by_cases hlt : b < F.nb
    case neg =>
      obtain rfl : b = F.nb := by omega
      rw [valsTo_all] at ROW
      have hlti : ¬ (F.nb : Int) < F.nb := by omega
      go_wp2_with fail
      go_ret
      exact ⟨⟨_, rfl, ROW.out⟩, U.out⟩
    have hlti : (b : Int) < F.nb := by omega
    go_wp2_with fail
    go_loopg [3, 5] F.np (fun gg s3 s5 wr => ∃ k : Nat, k ≤ F.np ∧ gg = F.np - k ∧ s5 = .int .i64 k ∧ PRow wr w.heap.size s3 (srtP (valsTo F (b * F.np + k))) ∧ Upd (fun _ => False) w wr)
    case atStart => exact ⟨0, Nat.zero_le _, rfl, rfl, by rw [Nat.add_zero]; exact ROW.out, U.out⟩
    case round =>
      clear c0 c1 c2 c3 c4 c5 c6 hf ROW U
      obtain ⟨k, hk, hg, rfl, hrow, u⟩ := hrel
      have HG2 := hid hg; have ROW := hid hrow; have U := hid u
      have ST := hid (H.out.upd0 u)
      obtain ⟨⟨c0, c1, c2, c3, c4, c5, c6⟩, hf⟩ := ST.out.cells
      clear hg hrow u
      by_cases hkl : k < F.np
      case neg =>
        obtain rfl : k = F.np := by omega
        have hkli : ¬ (F.np : Int) < F.np := by omega
        have e1 : (b + 1) * F.np = b * F.np + F.np := by rw [Nat.add_mul, Nat.one_mul]
        have E1 := hid e1
        clear e1
        go_wp2_with fail
        go_roundg (F.nb - (b + 1))
        case measure => have := HG.out; omega
        case rel => exact ⟨b + 1, hlt, rfl, by go_num, by rw [E1.out]; exact ROW.out, U.out⟩
      have hkli : (k : Int) < F.np := by omega
      obtain ⟨i, hie⟩ : ∃ i, b * F.np + k = i := ⟨_, rfl⟩
      have HIE := hid hie
      have hil : i < F.nb * F.np := by rw [← hie]; exact idx_lt hlt hkl
      have RA := hid (read_at F ST.out.flash.ok HD.out hil)
      rw [← hie, idx_div hkl, idx_mod hkl, hie] at RA
      have HIL := hid hil
      have hv := hid (rread_any p q g' b k wr F ST.out.flash)
      generalize F.read (b : Int) (k : Int) = rd at *
      rw [hie] at ROW
      have NXT : b * F.np + (k + 1) = i + 1 := by omega
      have NX := hid NXT
      clear hil hie NXT
      go_wp2_with fail
      refine hv.out.mono ?_
      rintro e w1 ⟨rfl, u1⟩
      have U1 := hid (U.out.trans u1); have ROW1 := hid (ROW.out.upd u1 fun _ _ => id)
      clear u1 hv
      cases hpg : pageAt F i with
      | none =>
        rw [hpg] at RA
        have VT := hid (valsTo_none (F := F) (i := i) (by unfold validAt; rw [hpg]))
        obtain rfl : rd = (ByteArray.empty, 4) := RA.out
        clear hpg RA
        have RC := hid (rread_page ([] : List UInt8) w1 (by simp))
        unfold RdPost at RC
        obtain ⟨pg, hpg2⟩ : ∃ pg, rdPg ([] : List UInt8) = pg := ⟨_, rfl⟩
        obtain ⟨bb, hb2⟩ : ∃ b, decide (rdOk ([] : List UInt8)) = b := ⟨_, rfl⟩
        rw [hpg2, hb2] at RC
        have RC := hid (show Calls Tryz.prog 66 #[.string ⟨(([] : List UInt8)).toArray⟩] w1 fun e w' => e = .returned (.tuple #[.agg (pgC pg), .bool bb]) ∧ Upd (fun _ => False) w1 w' from RC.out)
        clear hpg2 hb2
        go_wp2_with fail
        refine RC.out.mono ?_
        rintro e w2 ⟨rfl, u2⟩
        have U2 := hid (U1.out.trans u2); have ROW2 := hid (ROW1.out.upd u2 fun _ _ => id)
        clear u2 RC
        go_upto_region 10 with (fail)
        obtain ⟨w3, hw3⟩ : ∃ w3, w2.alloc (.cells (pgC pg) 87 (0, 0)) = w3 := ⟨_, rfl⟩
        have u3 : Upd (fun _ => False) w2 w3 := by rw [← hw3]; exact (Upd.refl _ _).alloc _
        rw [hw3]
        have U3 := hid (U2.out.trans u3); have ROW3 := hid (ROW2.out.upd u3 fun _ _ => id)
        clear hw3 u3
        refine region_upd (by kernel_rfl) (by kernel_rfl) ?_
        repeat (go_big_quiet_step (fail))
        refine wpQuiet_nil ?_
        intro w4 hw1
        obtain ⟨pw, hpw⟩ := hw1
        have uq : Upd (fun _ => False) w3 w4 := by rw [hpw]; exact pw.u

        have U4 := hid (U3.out.trans uq); have ROW4 := hid (ROW3.out.upd uq fun _ _ => id)
        clear hpw pw uq
        go_wp2_with fail
        go_roundg (F.np - (k + 1))
        case measure => have := HG2.out; omega
        case rel => exact ⟨k + 1, hkl, rfl, by go_num, by rw [NX.out, VT.out]; exact ROW4.out, U4.out⟩
      | some t =>
        rw [hpg] at RA
        obtain rfl : rd = (t, 0) := RA.out
        obtain ⟨pi, hpi1, hpi2, hpi3⟩ := HI.out i HIL.out t hpg
        obtain ⟨s, rfl⟩ : ∃ s : List UInt8, t = ⟨s.toArray⟩ := ⟨t.data.toList, by cases t; rfl⟩
        have hpi2 : s <+: txtP pi := hpi2
        have hsl : s.length ≤ 10000000 := by have h1 := hpi2.length_le; have h2 := txt_len hpi1; omega
        have VAT := hid (show validAt F i = if rdOk s ∧ (rdPg s).pos % (F.nb * F.np) = i then some (rdPg s) else none from by unfold validAt; rw [hpg])
        have HSL := hid hsl
        have GP := hid (show rdOk s → (rdPg s).Good ∧ (rdPg s).pos % (F.nb * F.np) = i from fun hr => by
          have e : s = txtP pi := rd_prefix hpi1 hpi2 hr
          rw [e, rd_good hpi1]
          exact ⟨hpi1, hpi3⟩)
        clear hpg RA hpi1 hpi2 hpi3 hsl
        by_cases hok : rdOk s
        case neg =>
          have VT := hid (valsTo_none (F := F) (i := i) (by rw [VAT.out, if_neg (fun h => hok h.1)]))
          have HOK := hid hok
          clear hok VAT GP
          have RC := hid (rread_page s w1 (by exact HSL.out))
          unfold RdPost at RC
          obtain ⟨pg, hpg2⟩ : ∃ pg, rdPg s = pg := ⟨_, rfl⟩
          obtain ⟨bb, hb2⟩ : ∃ b, decide (rdOk s) = b := ⟨_, rfl⟩
          rw [hpg2, hb2] at RC
          have RC := hid (show Calls Tryz.prog 66 #[.string ⟨s.toArray⟩] w1 fun e w' => e = .returned (.tuple #[.agg (pgC pg), .bool bb]) ∧ Upd (fun _ => False) w1 w' from RC.out)
          have HPG2 := hid hpg2; have HB2 := hid hb2
          clear hpg2 hb2
          go_wp2_with fail
          refine RC.out.mono ?_
          rintro e w2 ⟨rfl, u2⟩
          have U2 := hid (U1.out.trans u2); have ROW2 := hid (ROW1.out.upd u2 fun _ _ => id)
          clear u2 RC
          go_upto_region 10 with (fail)
          obtain ⟨w3, hw3⟩ : ∃ w3, w2.alloc (.cells (pgC pg) 87 (0, 0)) = w3 := ⟨_, rfl⟩
          have u3 : Upd (fun _ => False) w2 w3 := by rw [← hw3]; exact (Upd.refl _ _).alloc _
          have b3 : w3.heap[w2.heap.size]? = some (.cells (pgC pg) 87 (0, 0)) := by rw [← hw3]; exact heap_alloc_new
          obtain ⟨pb, hpb⟩ : ∃ pb, w2.heap.size = pb := ⟨_, rfl⟩
          rw [hw3]
          try rw [hpb]
          rw [hpb] at b3
          have U3 := hid (U2.out.trans u3); have ROW3 := hid (ROW2.out.upd u3 fun _ _ => id); have B3 := hid b3
          clear hw3 u3 hpb b3
          obtain rfl : bb = false := by rw [← HB2.out]; exact decide_eq_false HOK.out
          refine region_upd (by kernel_rfl) (by kernel_rfl) ?_
          repeat (go_big_quiet_step (fail))
          refine wpQuiet_nil ?_
          intro w4 hw1
          obtain ⟨pw, hpw⟩ := hw1
          have uq : Upd (fun _ => False) w3 w4 := by rw [hpw]; exact pw.u

          have U4 := hid (U3.out.trans uq); have ROW4 := hid (ROW3.out.upd uq fun _ _ => id)
          clear hpw pw uq
          go_wp2_with fail
          go_roundg (F.np - (k + 1))
          case measure => have := HG2.out; omega
          case rel => exact ⟨k + 1, hkl, rfl, by go_num, by rw [NX.out, VT.out]; exact ROW4.out, U4.out⟩
        obtain ⟨hgd, hmd⟩ := GP.out hok
        have VS := hid (show validAt F i = some (rdPg s) by rw [VAT.out, if_pos ⟨hok, hmd⟩])
        have HOK := hid hok; have HGD := hid hgd; have HMD := hid hmd
        clear hok VAT GP hgd hmd
        have RC := hid (rread_page s w1 (by exact HSL.out))
        unfold RdPost at RC
        obtain ⟨pg, hpg2⟩ : ∃ pg, rdPg s = pg := ⟨_, rfl⟩
        obtain ⟨bb, hb2⟩ : ∃ b, decide (rdOk s) = b := ⟨_, rfl⟩
        rw [hpg2, hb2] at RC
        have RC := hid (show Calls Tryz.prog 66 #[.string ⟨s.toArray⟩] w1 fun e w' => e = .returned (.tuple #[.agg (pgC pg), .bool bb]) ∧ Upd (fun _ => False) w1 w' from RC.out)
        have HPG2 := hid hpg2; have HB2 := hid hb2
        clear hpg2 hb2
        go_wp2_with fail
        refine RC.out.mono ?_
        rintro e w2 ⟨rfl, u2⟩
        have U2 := hid (U1.out.trans u2); have ROW2 := hid (ROW1.out.upd u2 fun _ _ => id)
        clear u2 RC
        go_upto_region 10 with (fail)
        obtain ⟨w3, hw3⟩ : ∃ w3, w2.alloc (.cells (pgC pg) 87 (0, 0)) = w3 := ⟨_, rfl⟩
        have u3 : Upd (fun _ => False) w2 w3 := by rw [← hw3]; exact (Upd.refl _ _).alloc _
        have b3 : w3.heap[w2.heap.size]? = some (.cells (pgC pg) 87 (0, 0)) := by rw [← hw3]; exact heap_alloc_new
        obtain ⟨pb, hpb⟩ : ∃ pb, w2.heap.size = pb := ⟨_, rfl⟩
        rw [hw3]
        try rw [hpb]
        rw [hpb] at b3
        have U3 := hid (U2.out.trans u3); have ROW3 := hid (ROW2.out.upd u3 fun _ _ => id); have B3 := hid b3
        clear hw3 u3 hpb b3
        obtain rfl : bb = true := by rw [← HB2.out]; exact decide_eq_true HOK.out
        rw [HPG2.out] at VS HGD HMD
        have ST3 := H.out.upd0 U3.out
        obtain ⟨⟨c0, c1, c2, c3, c4, c5, c6⟩, hf⟩ := ST3.cells
        obtain ⟨p0, p1, p2, p3, p4, p5, p6⟩ := pg_cells B3.out
        have e5 := tmod_nat pg.pos F.np
        have e6 := tdiv_nat pg.pos F.np
        have e7 := tmod_nat (pg.pos / F.np) F.nb
        have hpm : pg.pos % F.np = k := by
          have := pos_mod (nb := F.nb) (np := F.np) (q := pg.pos) (by have := HNP.out; omega)
          rw [HMD.out, ← HIE.out, idx_mod hkl] at this
          exact this.symm
        have hpd : pg.pos / F.np % F.nb = b := by
          have := pos_div (nb := F.nb) (np := F.np) (q := pg.pos) (by have := HNP.out; omega)
          rw [HMD.out, ← HIE.out, idx_div hkl] at this
          exact this.symm
        rw [hpm] at e5
        rw [hpd] at e7
        have hpos := HGD.out.pos
        have b1 : pg.pos / F.np ≤ 1000000 := Nat.le_trans (Nat.div_le_self _ _) hpos
        have b2 : ((pg.pos / F.np : Nat) : Int) ≤ 1000000 := Int.ofNat_le.2 b1
        have b3 : (0 : Int) ≤ ((pg.pos / F.np : Nat) : Int) := Int.natCast_nonneg _
        generalize pg.pos / F.np = d at *
        clear hpm hpd hpos b1
        have ec0 := fun p : UW w3 => p.cell c0
        have ec1 := fun p : UW w3 => p.cell c1
        have ec2 := fun p : UW w3 => p.cell c2
        have ep1 := fun p : UW w3 => p.cell p1
        refine region_upd (by kernel_rfl) (by kernel_rfl) ?_
        repeat (go_big_quiet_step (fail))
        refine wpQuiet_nil ?_
        intro w4 hw1
        obtain ⟨pw, hpw⟩ := hw1
        have uq : Upd (fun _ => False) w3 w4 := by rw [hpw]; exact pw.u

        have U4 := hid (U3.out.trans uq); have ROW4 := hid (ROW3.out.upd uq fun _ _ => id); have B4 := hid ((uq.block pb (heap_lt B3.out) id).trans B3.out)
        clear hpw pw uq ec0 ec1 ec2 ep1 c0 c1 c2 c3 c4 c5 c6 hf p0 p1 p2 p3 p4 p5 p6 ST3
        have VT := hid (valsTo_some VS.out)
        have SRT := hid (valsTo_sorted F (Nat.le_of_lt HIL.out))
        have LEN := hid (show (srtP (valsTo F i)).length ≤ 512 by
          have h1 := valsTo_len F i; have h2 := HIL.out; have h3 := HM.out; rw [srt_len]; omega)
        obtain ⟨acc, hacc⟩ : ∃ acc, srtP (valsTo F i) = acc := ⟨_, rfl⟩
        rw [hacc] at ROW4 SRT LEN
        have GOAL := hid (show ∀ a c, acc = a ++ c → (∀ q ∈ a, ¬ pg.pos < q.pos) → (∀ q ∈ c, pg.pos < q.pos) → srtP (valsTo F (b * F.np + (k + 1))) = a ++ pg :: c from fun a c h h1 h2 => by
          rw [NX.out, VT.out, srt_snoc, hacc, h, insP_at pg a c h1 h2])
        clear hacc VT VS
        have hl4 := LEN.out
        obtain ⟨v5, w5, r5, o5, u5, n5⟩ := append_one elemPg ROW4.out (pgC pg) rfl (Array.all_eq_true_iff_forall_mem.1 (pgC_one pg)) (by unfold maxLen; omega) (by omega) (Nat.le_trans U4.out.size (Nat.le_refl _)) 84 (0, 0)
        have ROW5 : PRow w5 w.heap.size v5 (acc ++ [pg]) := by
          unfold PRow
          rw [List.length_append, flatP_append]
          exact o5
        obtain ⟨g, cap, _, hv5, hg5, hB5, _, hc1, hc2, _, _⟩ := ROW5.block (by simp)
        have hlow := ROW4.out.lt
        have U5 := hid (U4.out.comp u5 fun i hi e => by have := (hlow i e).1; omega)
        obtain ⟨p0, p1, p2, p3, p4, p5, p6⟩ := pg_cells B4.out
        obtain ⟨len1, hlen1⟩ : ∃ n, (acc ++ [pg]).length = n := ⟨_, rfl⟩
        rw [hlen1] at hv5 hc1
        obtain ⟨m, hm⟩ : ∃ m, acc.length = m := ⟨_, rfl⟩
        have LM := hid (show len1 = m + 1 by rw [← hlen1, List.length_append, hm]; rfl)
        have f1 : (len1 : Int) - 1 = m := by have := LM.out; omega
        have hmi : (m : Int) ≤ 512 := by omega
        have hc2 : cap ≤ 9223372036854775807 := hc2
        subst hv5
        have OB := hid hg5; have HM2 := hid hm; have HC1 := hid hc1; have HC2 := hid hc2; have HB5 := hid hB5
        have R5 := hid ROW5
        clear o5 u5 n5 hlow hl4 hm hlen1 hg5 ROW5 hB5
        go_wp2_with (at_builtin; refine wpList_append_run rfl _ _ _ _ rfl rfl rfl r5 ?_)
        clear r5 p0 p1 p2 p3 p4 p5 p6
        go_loopg [10] m (fun gg s10 wr => ∃ a c, acc = a ++ c ∧ gg = a.length ∧ s10 = .int .i64 (a.length : Nat) ∧ (∀ q ∈ c, pg.pos < q.pos) ∧ PRow wr w.heap.size (.slice (some ⟨g, 0, none⟩) len1 cap) (a ++ pg :: c) ∧ Upd (fun _ => False) w wr)
        case atStart => exact ⟨acc, [], (List.append_nil _).symm, HM2.out.symm, by rw [HM2.out], (fun _ h => nomatch h), R5.out, U5.out⟩
        case round =>
          clear U5 R5
          obtain ⟨a, c, hac, hg, rfl, hc, hrow, u⟩ := hrel
          have HAC := hid hac; have HC := hid hc; have R6 := hid hrow; have U6 := hid u; have HG3 := hid hg
          have HN1 := hid (show a.length + c.length + 1 = len1 by have := LM.out; have h2 := congrArg List.length hac; rw [List.length_append] at h2; have := HM2.out; omega)
          have SA := hid (show SortedP (a ++ c) by rw [← hac]; exact SRT.out)
          have LA := hid (show a.length + c.length = m by rw [← HM2.out, hac, List.length_append])
          have hal : (a.length : Int) ≤ 512 := by have := LA.out; omega
          clear hac hc hrow u hg
          rcases List.eq_nil_or_concat a with rfl | ⟨a', y, rfl⟩
          · have GO := hid (GOAL.out [] c HAC.out (fun _ h => nomatch h) HC.out)
            have e0 : ((([] : List Pg).length : Nat) : Int) = 0 := rfl
            rw [e0] at hal ⊢
            clear e0
            go_wp2_with fail
            refine region_upd (by kernel_rfl) (by kernel_rfl) ?_
            repeat (go_big_quiet_step (fail))
            refine wpQuiet_nil ?_
            intro w7 hw1
            obtain ⟨pw, hpw⟩ := hw1
            have uq : Upd (fun _ => False) wr w7 := by rw [hpw]; exact pw.u

            have U7 := hid (U6.out.trans uq); have R7 := hid (R6.out.upd uq fun _ _ => id)
            clear hpw pw uq
            go_wp2_with fail
            go_roundg (F.np - (k + 1))
            case measure => have := HG2.out; omega
            case rel => exact ⟨k + 1, hkl, rfl, by go_num, by rw [GO.out]; exact R7.out, U7.out⟩
          · rw [List.concat_eq_append] at HAC R6 HG3 SA LA HN1 hal ⊢
            obtain ⟨m1, hm1⟩ : ∃ n, a'.length = n := ⟨_, rfl⟩
            obtain ⟨n10, hn10⟩ : ∃ n, (a' ++ [y]).length = n := ⟨_, rfl⟩
            have hn : n10 = m1 + 1 := by rw [← hn10, List.length_append, hm1]; rfl
            rw [hn10] at HG3 LA HN1 hal ⊢
            have R6 := hid (show PRow wr w.heap.size (.slice (some ⟨g, 0, none⟩) len1 cap) (a' ++ y :: pg :: c) by
              have := R6.out
              rw [List.append_assoc] at this
              exact this)
            obtain ⟨y7, yf⟩ := R6.out.at_ OB.out (i := m1) (x := y) (by rw [List.getElem?_append_right (by omega), hm1, Nat.sub_self]; rfl)
            obtain ⟨g7, _⟩ := R6.out.at_ OB.out (i := n10) (x := pg) (by rw [List.getElem?_append_right (by omega), hm1, hn, Nat.add_sub_cancel_left]; rfl)
            have Y7 := hid y7; have G7 := hid g7; have YF := hid yf
            have N10 := hid hn; have HM1 := hid hm1
            have f2 : (n10 : Int) - 1 = m1 := by omega
            have f3 : (m1 : Int) < len1 := by have := LA.out; have := LM.out; omega
            have f4 : (n10 : Int) < len1 := by have := LA.out; have := LM.out; omega
            have f5 : m1 < len1 := by omega
            have f6 : n10 < len1 := by omega
            have f7 : (0 : Int) < n10 := by omega
            have f8 : 0 < n10 := by omega
            have fm : (m1 : Int) ≤ 512 := by omega
            have hc1 := HC1.out; have hc2 := HC2.out
            obtain ⟨y0, y1, y2, y3, y4, y5, y6⟩ := y7
            obtain ⟨g0, g1, g2, g3, g4, g5, g6⟩ := g7
            have ey1 := fun p : UW wr => p.cell y1
            have eg1 := fun p : UW wr => p.cell g1
            clear hn10 hn hm1 yf
            by_cases hlt2 : pg.pos < y.pos
            case neg =>
              have hd2 : decide ((pg.pos : Int) < y.pos) = false := decide_eq_false (by omega)
              have hd3 : ¬ (pg.pos : Int) < y.pos := by omega
              have GO := hid (GOAL.out (a' ++ [y]) c HAC.out (fun q hq => by
                rcases List.mem_append.1 hq with hq | hq
                · have h1 := (List.pairwise_append.1 (List.pairwise_append.1 SA.out).1).2.2 q hq y (List.mem_singleton.2 rfl)
                  have h1 : q.pos < y.pos := h1
                  omega
                · rw [List.mem_singleton.1 hq]; exact hlt2) HC.out)
              clear hlt2 SA
              go_wp2_with fail
              refine region_upd (by kernel_rfl) (by kernel_rfl) ?_
              repeat (go_big_quiet_step (fail))
              refine wpQuiet_nil ?_
              intro w7 hw1
              obtain ⟨pw, hpw⟩ := hw1
              have uq : Upd (fun _ => False) wr w7 := by rw [hpw]; exact pw.u

              have U7 := hid (U6.out.trans uq); have R7 := hid (R6.out.upd uq fun _ _ => id)
              clear hpw pw uq ey1 eg1 y0 y1 y2 y3 y4 y5 y6 g0 g1 g2 g3 g4 g5 g6
              go_wp2_with fail
              go_roundg (F.np - (k + 1))
              case measure => have := HG2.out; omega
              case rel => exact ⟨k + 1, hkl, rfl, by go_num, by rw [GO.out, List.append_assoc]; exact R7.out, U7.out⟩
            case pos =>
              have hd2 : decide ((pg.pos : Int) < y.pos) = true := decide_eq_true (by omega)
              have hd3 : (pg.pos : Int) < y.pos := by omega
              have HC := hid (show ∀ q ∈ y :: c, pg.pos < q.pos from fun q hq => by
                rcases List.mem_cons.1 hq with rfl | hq
                · exact hlt2
                · exact HC.out q hq)
              have HAC := hid (show acc = a' ++ y :: c by have := HAC.out; rw [List.append_assoc] at this; exact this)
              clear hlt2 SA
              go_wp2_with fail
              refine region_upd (by kernel_rfl) (by kernel_rfl) ?_
              repeat (go_big_quiet_step (fail))
              refine wpQuiet_nil ?_
              intro w7 hw1
              obtain ⟨pw, hpw⟩ := hw1
              have uq : Upd (fun _ => False) wr w7 := by rw [hpw]; exact pw.u

              have U7 := hid (U6.out.trans uq); have R7 := hid (R6.out.upd uq fun _ _ => id)
              clear hpw pw uq ey1 eg1 y0 y1 y2 y3 y4 y5 y6 g0 g1 g2 g3 g4 g5 g6 Y7 G7 YF
              obtain ⟨y7, yf⟩ := R7.out.at_ OB.out (i := m1) (x := y) (by rw [List.getElem?_append_right (by have := HM1.out; omega), HM1.out, Nat.sub_self]; rfl)
              obtain ⟨g7, _⟩ := R7.out.at_ OB.out (i := n10) (x := pg) (by rw [List.getElem?_append_right (by have := HM1.out; omega), HM1.out, N10.out, Nat.add_sub_cancel_left]; rfl)
              obtain ⟨y0, y1, y2, y3, y4, y5, y6⟩ := y7
              obtain ⟨g0, g1, g2, g3, g4, g5, g6⟩ := g7
              go_upto_region 16 with (fail)
              obtain ⟨w8, hw8⟩ : ∃ w8, w7.alloc (.cells (pgC pg) 87 (0, 0)) = w8 := ⟨_, rfl⟩
              have u8 : Upd (fun _ => False) w7 w8 := by rw [← hw8]; exact (Upd.refl _ _).alloc _
              have b8 : w8.heap[w7.heap.size]? = some (.cells (pgC pg) 87 (0, 0)) := by rw [← hw8]; exact heap_alloc_new
              have gx : g ≠ w7.heap.size := Nat.ne_of_lt (R7.out.lt g OB.out).2
              obtain ⟨xb, hxb⟩ : ∃ xb, w7.heap.size = xb := ⟨_, rfl⟩
              rw [hw8]
              try rw [hxb]
              rw [hxb] at b8 gx
              have U8 := hid (U7.out.trans u8); have R8 := hid (R7.out.upd u8 fun _ _ => id); have B8 := hid b8; have GX := hid gx
              clear hw8 u8 b8 hxb gx y0 y1 y2 y3 y4 y5 y6 g0 g1 g2 g3 g4 g5 g6 yf
              have hln : (a' ++ y :: pg :: c).length = len1 := by have h1 := HN1.out; have h2 := HM1.out; have h3 := N10.out; simp only [List.length_append, List.length_cons]; omega
              obtain ⟨y7, yf⟩ := R8.out.at_ OB.out (i := m1) (x := y) (by rw [List.getElem?_append_right (by have := HM1.out; omega), HM1.out, Nat.sub_self]; rfl)
              obtain ⟨g7, _⟩ := R8.out.at_ OB.out (i := n10) (x := pg) (by rw [List.getElem?_append_right (by have := HM1.out; omega), HM1.out, N10.out, Nat.add_sub_cancel_left]; rfl)
              have R9 := hid (R8.out.put OB.out (i := n10) (by rw [hln]; exact f6) y)
              have U9 := hid (upd_put (g := g) (o := n10 * 7) (p := y) U8.out (.inr HB5.out))
              have V9 := (upd_put (S := (· = g)) (g := g) (o := n10 * 7) (p := y) (Upd.refl _ w8) (.inl rfl))
              have B9 := hid ((V9.block xb (heap_lt B8.out) GX.out.symm).trans B8.out)
              obtain ⟨w9, hw9⟩ : ∃ z, w8.setCells g (n10 * 7) (pgC y).toList = z := ⟨_, rfl⟩
              rw [hw9] at R9 U9 B9
              have E9 := hid (show (((((((w8.setCell ⟨g, n10 * 7, none⟩ (.int .i64 y.kind)).setCell ⟨g, n10 * 7 + 1, none⟩ (.int .i64 y.pos)).setCell ⟨g, n10 * 7 + 2, none⟩ (.int .i64 y.number)).setCell ⟨g, n10 * 7 + 3, none⟩ (.int .i64 y.diff)).setCell ⟨g, n10 * 7 + 4, none⟩ (.int .i64 y.offset)).setCell ⟨g, n10 * 7 + 5, none⟩ (.int .i64 y.rest)).setCell ⟨g, n10 * 7 + 6, none⟩ (.string ⟨y.bytes.toArray⟩)) = w9 from hw9)
              clear V9 hw9
              obtain ⟨y0, y1, y2, y3, y4, y5, y6⟩ := y7
              obtain ⟨g0, g1, g2, g3, g4, g5, g6⟩ := g7
              go_upto_region 17 with (fail)
              rw [E9.out]
              clear E9 y0 y1 y2 y3 y4 y5 y6 g0 g1 g2 g3 g4 g5 g6 yf
              obtain ⟨z7, zf⟩ := R9.out.at_ OB.out (i := m1) (x := y) (by rw [List.getElem?_set_ne (by have := N10.out; omega), List.getElem?_append_right (by have := HM1.out; omega), HM1.out, Nat.sub_self]; rfl)
              have R10 := hid (show PRow (w9.setCells g (m1 * 7) (pgC pg).toList) w.heap.size (.slice (some ⟨g, 0, none⟩) len1 cap) (a' ++ pg :: y :: c) by
                have h := R9.out.put OB.out (i := m1) (by rw [List.length_set, hln]; exact f5) pg
                rw [N10.out, ← HM1.out, swap_mid] at h
                rw [← HM1.out]
                exact h)
              have U10 := hid (upd_put (g := g) (o := m1 * 7) (p := pg) U9.out (.inr HB5.out))
              obtain ⟨w10, hw10⟩ : ∃ z, w9.setCells g (m1 * 7) (pgC pg).toList = z := ⟨_, rfl⟩
              rw [hw10] at R10 U10
              have E10 := hid (show (((((((w9.setCell ⟨g, m1 * 7, none⟩ (.int .i64 pg.kind)).setCell ⟨g, m1 * 7 + 1, none⟩ (.int .i64 pg.pos)).setCell ⟨g, m1 * 7 + 2, none⟩ (.int .i64 pg.number)).setCell ⟨g, m1 * 7 + 3, none⟩ (.int .i64 pg.diff)).setCell ⟨g, m1 * 7 + 4, none⟩ (.int .i64 pg.offset)).setCell ⟨g, m1 * 7 + 5, none⟩ (.int .i64 pg.rest)).setCell ⟨g, m1 * 7 + 6, none⟩ (.string ⟨pg.bytes.toArray⟩)) = w10 from hw10)
              obtain ⟨z0, z1, z2, z3, z4, z5, z6⟩ := z7
              obtain ⟨x0, x1, x2, x3, x4, x5, x6⟩ := pg_cells B9.out
              clear hw10 hln
              go_upto_region 14 with (fail)
              rw [E10.out]
              clear E10 z0 z1 z2 z3 z4 z5 z6 x0 x1 x2 x3 x4 x5 x6 zf
              go_wp2_with fail
              go_roundg m1
              case measure => have := HG3.out; have := N10.out; omega
              case rel => exact ⟨a', y :: c, HAC.out, HM1.out.symm, by rw [HM1.out], HC.out, R10.out, U10.out⟩
end Go.Proofs.YtlefilfdomjkeaaGreatDoor
namespace Go.Proofs.YtlefilfdomjkeaaGreatDoor
open Go.RowKit Go.Deep
theorem own_apart {w : World} {v1 v2 : Value} {l1 : List (List UInt8)} {l2 : List Nat} (h1 : OwnS w v1 l1) (h2 : OwnN w v2 l2) : ∀ g, v2.ownBlock = some g → v1.ownBlock ≠ some g := by
  intro g hg e
  rcases ownsRow_fits h2.own with ⟨rfl, _⟩ | ⟨g', cap', rfl, _⟩
  · cases hg
  · injection hg with hg
    subst hg
    obtain ⟨_, ⟨e0, _⟩ | ⟨g2, c2, cur, e0, _, hb2, _⟩⟩ := h2.own
    · injection e0 with e0 _ _; cases e0
    · injection e0 with e0 _ _
      injection e0 with e0
      injection e0 with e0 _ _
      subst e0
      exact own_ne h1 hb2 (by decide) _ e rfl
section
variable {w : World} {O : Nat → Prop} {x p q : Nat} {g' : Nat → Nat} {F : Fl} {S : St} {vr va : Value}
/-- The records' row is another one. -/
theorem RStAt.recs_put (h : RStAt w O x p q g' F S vr va) {w2 : World} {v' : Value} {l' : List (List UInt8)} (us : Sto (fun k => vr.ownBlock = some k) w w2) (o : OwnS w2 v' l') (n : ∀ g, v'.ownBlock = some g → vr.ownBlock = some g ∨ w.heap.size ≤ g) :
    (∃ O', RStAt (w2.setCell ⟨x, 5, none⟩ v') O' x p q g' F { S with recs := l' } v' va ∧ ∀ k, O' k → O k ∨ w.heap.size ≤ k) ∧ Sto O w (w2.setCell ⟨x, 5, none⟩ v') := by
  have u := Upd.mono us fun _ h => h.1
  have xn : ∀ k, vr.ownBlock = some k → k ≠ x := fun k hk => own_ne h.recs h.head (by decide) k hk
  have hx : w2.heap[x]? = some (.cells (stC p F S vr va) 53 (0, 0)) := (u.block x (heap_lt h.head) fun e => xn x e rfl).trans h.head
  have u2 : Upd (· = x) w2 (w2.setCell ⟨x, 5, none⟩ v') := (Upd.refl _ _).at_ _ _
  have hu : Sto O w (w2.setCell ⟨x, 5, none⟩ v') := Sto.then (Upd.mono us fun k hk => ⟨h.ovr k hk.1, hk.2⟩) (u2.mono fun k hk => by subst hk; exact ⟨h.ox, noStr_x (by decide) hx⟩)
  have nx : ∀ g, v'.ownBlock = some g → g ≠ x := fun g hg => by
    rcases n g hg with h1 | h1
    · exact xn g h1
    · have := heap_lt h.head; omega
  refine ⟨⟨fun k => O k ∨ v'.ownBlock = some k, ⟨?_, Own1.upd o u2 fun g hg e => nx g hg e, ?_, ?_, .inl h.ox, fun k hk => .inl (h.of_ k hk), fun k hk => .inr hk, fun k hk => .inl (h.ova k hk), fun k hk => ⟨(h.apart k hk).1, fun e => ?_, (h.apart k hk).2.2⟩, fun k hk => ?_⟩, fun k hk => ?_⟩, hu⟩
  · rw [heap_setCell_same (p := ⟨x, 5, none⟩) rfl hx]; rfl
  · exact Own1.upd (Own1.upd h.ats u fun g hg => own_apart h.recs h.ats g hg) u2 fun g hg e => own_ne h.ats h.head (by decide) g hg e
  · exact (h.flash.upd u fun k hk => (h.apart k hk).2.1).upd u2 fun k hk e => (h.apart k hk).1 e
  · rcases n k e with h1 | h1
    · exact (h.apart k hk).2.1 h1
    · have := h.lt k (h.of_ k hk); omega
  · rcases hk with hk | hk
    · exact Nat.lt_of_lt_of_le (h.lt k hk) hu.size
    · exact Nat.lt_of_lt_of_le (Own1.lt o k hk) u2.size
  · rcases hk with hk | hk
    · exact .inl hk
    · exact (n k hk).imp (h.ovr k) id
/-- The numbers' row is another one. -/
theorem RStAt.ats_put (h : RStAt w O x p q g' F S vr va) {w2 : World} {v' : Value} {l' : List Nat} (us : Sto (fun k => va.ownBlock = some k) w w2) (o : OwnN w2 v' l') (n : ∀ g, v'.ownBlock = some g → va.ownBlock = some g ∨ w.heap.size ≤ g) :
    (∃ O', RStAt (w2.setCell ⟨x, 6, none⟩ v') O' x p q g' F { S with ats := l' } vr v' ∧ ∀ k, O' k → O k ∨ w.heap.size ≤ k) ∧ Sto O w (w2.setCell ⟨x, 6, none⟩ v') := by
  have u := Upd.mono us fun _ h => h.1
  have xn : ∀ k, va.ownBlock = some k → k ≠ x := fun k hk => own_ne h.ats h.head (by decide) k hk
  have hx : w2.heap[x]? = some (.cells (stC p F S vr va) 53 (0, 0)) := (u.block x (heap_lt h.head) fun e => xn x e rfl).trans h.head
  have u2 : Upd (· = x) w2 (w2.setCell ⟨x, 6, none⟩ v') := (Upd.refl _ _).at_ _ _
  have hu : Sto O w (w2.setCell ⟨x, 6, none⟩ v') := Sto.then (Upd.mono us fun k hk => ⟨h.ova k hk.1, hk.2⟩) (u2.mono fun k hk => by subst hk; exact ⟨h.ox, noStr_x (by decide) hx⟩)
  have nx : ∀ g, v'.ownBlock = some g → g ≠ x := fun g hg => by
    rcases n g hg with h1 | h1
    · exact xn g h1
    · have := heap_lt h.head; omega
  refine ⟨⟨fun k => O k ∨ v'.ownBlock = some k, ⟨?_, ?_, Own1.upd o u2 fun g hg e => nx g hg e, ?_, .inl h.ox, fun k hk => .inl (h.of_ k hk), fun k hk => .inl (h.ovr k hk), fun k hk => .inr hk, fun k hk => ⟨(h.apart k hk).1, (h.apart k hk).2.1, fun e => ?_⟩, fun k hk => ?_⟩, fun k hk => ?_⟩, hu⟩
  · rw [heap_setCell_same (p := ⟨x, 6, none⟩) rfl hx]; rfl
  · exact Own1.upd (Own1.upd h.recs u fun g hg e => own_apart h.recs h.ats g e hg) u2 fun g hg e => own_ne h.recs h.head (by decide) g hg e
  · exact (h.flash.upd u fun k hk => (h.apart k hk).2.2).upd u2 fun k hk e => (h.apart k hk).1 e
  · rcases n k e with h1 | h1
    · exact (h.apart k hk).2.2 h1
    · have := h.lt k (h.of_ k hk); omega
  · rcases hk with hk | hk
    · exact Nat.lt_of_lt_of_le (h.lt k hk) hu.size
    · exact Nat.lt_of_lt_of_le (Own1.lt o k hk) u2.size
  · rcases hk with hk | hk
    · exact .inl hk
    · exact (n k hk).imp (h.ova k) id
/-- A record more. -/
theorem RStAt.app1 (h : RStAt w O x p q g' F S vr va) (t : List UInt8) (hl : S.recs.length + 1 ≤ 1000000) (ty : TypeId) :
    ∃ a' c' w2, (Builtin.append_ #[50, 50] ty #[vr, .slice (some ⟨w.heap.size, 0, none⟩) 1 1]).run Tryz.prog (w.alloc (.cells #[.string ⟨t.toArray⟩] 9 (0, 0))) = .ok (.slice a' (S.recs.length + 1) c') w2 ∧
      w2.heap[x]? = some (.cells (stC p F S vr va) 53 (0, 0)) ∧
      (∃ O', RStAt (w2.setCell ⟨x, 5, none⟩ (.slice a' (S.recs.length + 1) c')) O' x p q g' F { S with recs := S.recs ++ [t] } (.slice a' (S.recs.length + 1) c') va ∧ ∀ k, O' k → O k ∨ w.heap.size ≤ k) ∧ Sto O w (w2.setCell ⟨x, 5, none⟩ (.slice a' (S.recs.length + 1) c')) := by
  have u0 : Upd (fun _ => False) w (w.alloc (.cells #[.string ⟨t.toArray⟩] 9 (0, 0))) := (Upd.refl _ _).alloc _
  have h0 := h.upd0 u0
  obtain ⟨v', w2, r, o, u, n⟩ := Own1.app elemS h0.recs (strV t) rfl hl (by decide) ty heap_alloc_new
  obtain ⟨a', c', rfl, _, _⟩ := o.fits
  have u1 : Sto (fun k => vr.ownBlock = some k) w w2 := Sto.then (Sto.of0 u0) (u.mono fun _ h => ⟨h.1, h.2.noStr⟩)
  have o2 : OwnS w2 (.slice a' (S.recs.length + 1) c') (S.recs ++ [t]) := by unfold OwnS; rw [List.length_append, List.map_append]; exact o
  obtain ⟨h1, h2⟩ := h.recs_put u1 o2 fun g hg => by
    rcases n with n | ⟨g', n, hs⟩
    · exact .inl (by rw [← n]; exact hg)
    · rw [hg] at n; injection n with n; subst n; exact .inr (Nat.le_trans u0.size hs)
  exact ⟨a', c', w2, r, (u1.block (heap_lt h.head) fun e => own_ne h.recs h.head (by decide) x e rfl).trans h.head, h1, h2⟩
/-- A number more. -/
theorem RStAt.app2 (h : RStAt w O x p q g' F S vr va) (t : Nat) (hl : S.ats.length + 1 ≤ 1000000) (ty : TypeId) :
    ∃ a' c' w2, (Builtin.append_ #[51, 51] ty #[va, .slice (some ⟨w.heap.size, 0, none⟩) 1 1]).run Tryz.prog (w.alloc (.cells #[.int .i64 t] 3 (0, 0))) = .ok (.slice a' (S.ats.length + 1) c') w2 ∧
      w2.heap[x]? = some (.cells (stC p F S vr va) 53 (0, 0)) ∧
      (∃ O', RStAt (w2.setCell ⟨x, 6, none⟩ (.slice a' (S.ats.length + 1) c')) O' x p q g' F { S with ats := S.ats ++ [t] } vr (.slice a' (S.ats.length + 1) c') ∧ ∀ k, O' k → O k ∨ w.heap.size ≤ k) ∧ Sto O w (w2.setCell ⟨x, 6, none⟩ (.slice a' (S.ats.length + 1) c')) := by
  have u0 : Upd (fun _ => False) w (w.alloc (.cells #[.int .i64 t] 3 (0, 0))) := (Upd.refl _ _).alloc _
  have h0 := h.upd0 u0
  obtain ⟨v', w2, r, o, u, n⟩ := Own1.app elemI h0.ats (natV t) rfl hl (by decide) ty heap_alloc_new
  obtain ⟨a', c', rfl, _, _⟩ := o.fits
  have u1 : Sto (fun k => va.ownBlock = some k) w w2 := Sto.then (Sto.of0 u0) (u.mono fun _ h => ⟨h.1, h.2.noStr⟩)
  have o2 : OwnN w2 (.slice a' (S.ats.length + 1) c') (S.ats ++ [t]) := by unfold OwnN; rw [List.length_append, List.map_append]; exact o
  obtain ⟨h1, h2⟩ := h.ats_put u1 o2 fun g hg => by
    rcases n with n | ⟨g', n, hs⟩
    · exact .inl (by rw [← n]; exact hg)
    · rw [hg] at n; injection n with n; subst n; exact .inr (Nat.le_trans u0.size hs)
  exact ⟨a', c', w2, r, (u1.block (heap_lt h.head) fun e => own_ne h.ats h.head (by decide) x e rfl).trans h.head, h1, h2⟩
end
/-- How far the pages have been put together. -/
def RColAt (O : Nat → Prop) (w : World) (x p q : Nat) (g' : Nat → Nat) (F : Fl) (S : St) (c : Cs) (w' : World) : Prop :=
  (∃ O' vr va, RStAt w' O' x p q g' F { S with recs := c.recs, ats := c.ats } vr va ∧ ∀ k, O' k → O k ∨ w.heap.size ≤ k) ∧ Sto O w w'
theorem RColAt.upd0 {O : Nat → Prop} {w : World} {x p q : Nat} {g' : Nat → Nat} {F : Fl} {S : St} {c : Cs} {w1 w2 : World} (h : RColAt O w x p q g' F S c w1) (u : Upd (fun _ => False) w1 w2) : RColAt O w x p q g' F S c w2 :=
  let ⟨⟨O', vr, va, st, ho⟩, s⟩ := h
  ⟨⟨O', vr, va, st.upd0 u, ho⟩, s.then0 u⟩
theorem grow_trans {O O' : Nat → Prop} {w w1 w2 : World} (ho : ∀ k, O' k → O k ∨ w.heap.size ≤ k) (s1 : Sto O w w1) (s2 : Sto O' w1 w2) : Sto O w w2 := s1.trans s2 ho
/-- What the reference's way of a step does with number, place and text. -/
def begC (c : Cs) (p : Pg) : Cs := if p.offset = 0 then { c with number := p.number, at_ := p.pos, text := [] } else c
theorem stepC_beg {first : Nat} {c : Cs} {p : Pg} (h1 : p.kind = 0) (h2 : p.offset = 0 ∨ (p.number : Int) = c.number ∧ p.offset = c.text.length) : stepC first c p = finC first { begC c p with text := (begC c p).text ++ p.bytes } p := by
  by_cases h : p.offset = 0
  · rw [stepC_new h1 h]; unfold begC; rw [if_pos h]; rfl
  · obtain ⟨h3, h4⟩ := h2.resolve_left h
    rw [stepC_on h1 h h3 h4]; unfold begC; rw [if_neg h]
theorem begC_len {c : Cs} {p : Pg} (hp : p.Good) (h1 : p.kind = 0) (h2 : p.offset = 0 ∨ (p.number : Int) = c.number ∧ p.offset = c.text.length) : ((begC c p).text ++ p.bytes).length ≤ p.offset + p.rest := by
  have h := hp.form.2.2
  unfold roomP at h
  rw [if_neg (by omega)] at h
  rw [List.length_append]
  unfold begC
  split
  · show 0 + p.bytes.length ≤ _; omega
  · rename_i h3
    have := (h2.resolve_left h3).2
    omega
theorem begC_ok {k : Nat} {c : Cs} {p : Pg} (h : CsOk k c) (hp : p.Good) : CsOk k (begC c p) := by
  unfold begC
  split
  · exact ⟨⟨by show -1 ≤ (p.number : Int); omega, by have := hp.number; show (p.number : Int) ≤ 1000000; omega⟩, hp.pos, Nat.zero_le _, h.recs, h.same, h.ats, h.txt⟩
  · exact h
theorem begC_rows (c : Cs) (p : Pg) : (begC c p).recs = c.recs ∧ (begC c p).ats = c.ats := by
  unfold begC; split <;> exact ⟨rfl, rfl⟩
end Go.Proofs.YtlefilfdomjkeaaGreatDoor
namespace Go.Proofs.YtlefilfdomjkeaaGreatDoor
open Go.RowKit Go.Deep
def RCollPost (O : Nat → Prop) (x p q : Nat) (g' : Nat → Nat) (F : Fl) (S : St) (c : Cs) (w : World) (e : Ending) (w' : World) : Prop := e = .returned (.tuple #[]) ∧ RColAt O w x p q g' F S c w'
set_option maxRecDepth 100000 in
set_option maxHeartbeats 4000000 in
theorem rcollect_any {w : World} {O : Nat → Prop} {x p q : Nat} {g' : Nat → Nat} {F : Fl} {S : St} {vr va : Value} (h : RStAt w O x p q g' F S vr va) (hr : S.recs = []) (ha : S.ats = []) (hf1 : S.first ≤ 1000000) {L : List Pg} (hL : ∀ p ∈ L, p.Good) (hn : L.length ≤ 1000)
    {B : Nat} {vo : Value} (ho : PRow w B vo L) (hob : ∀ g, vo.ownBlock = some g → ¬ O g) :
    Calls Tryz.prog 40 #[.pointer (some ⟨x, 0, none⟩), vo] w (RCollPost O x p q g' F S (collP S.first L) w) := by
  obtain ⟨ao, co, rfl, hco1, hco2⟩ := ho.fits
  have hco2 : co ≤ 9223372036854775807 := hco2
  have A0 := hid (show RColAt O w x p q g' F S ⟨-1, 0, [], [], []⟩ w from ⟨⟨O, vr, va, by rw [← hr, ← ha]; exact h, fun _ => .inl⟩, Sto.refl _ _⟩)
  have HO := hid ho; have HOB := hid hob; have HL := hid hL; have HN := hid hn
  have XNE := hid (show x < w.heap.size from h.lt x h.ox)
  have hfi : (S.first : Int) ≤ 1000000 := by omega
  obtain ⟨n, hnn⟩ : ∃ n, L.length = n := ⟨_, rfl⟩
  rw [hnn] at hn hco1 ⊢
  have hni : (n : Int) ≤ 1000 := by omega
  have HNN := hid hnn
  clear h hr ha hL hob ho hnn
  go_enter Tryz.func40, Tryz.ntmps40
  go_wp2_with fail
  go_loopg [4, 5, 6, 7] n (fun gg s4 s5 s6 s7 wr => ∃ (k : Nat) (c : Cs), cumC S.first L k = c ∧ k ≤ n ∧ gg = n - k ∧ s7 = .int .i64 k ∧ s4 = .int .i64 c.number ∧ s5 = .int .i64 c.at_ ∧ s6 = .string ⟨c.text.toArray⟩ ∧ RColAt O w x p q g' F S c wr)
  case atStart => exact ⟨0, ⟨-1, 0, [], [], []⟩, rfl, Nat.zero_le _, rfl, rfl, rfl, rfl, rfl, A0.out⟩
  case round =>
    obtain ⟨k, c, hcum, hk, hg, rfl, rfl, rfl, rfl, hca⟩ := hrel
    have CUM := hid hcum; have CA := hid hca; have HG := hid hg
    clear hcum hca hg A0
    by_cases hkl : k < n
    case neg =>
      have hki : ¬ (k : Int) < n := by omega
      have R := hid (show c = collP S.first L from CUM.out.symm.trans (cumC_all (by have := HNN.out; omega)))
      go_wp2_with fail
      go_end0
      rw [R.out] at CA
      exact ⟨rfl, CA.out⟩
    have hkL : k < L.length := by rw [HNN.out]; exact hkl
    obtain ⟨g, cap, hv, hown, _, hgl, _, _, pc, _⟩ := HO.out.page hkL
    injection hv with hv _ hcc
    subst hv
    subst hcc
    have GB := hid (HOB.out g hown)
    have OK := hid (cumC_ok (first := S.first) HL.out k (by have := HNN.out; omega))
    have STEP := hid (cumC_succ (first := S.first) hkL)
    have GOOD := hid (HL.out _ (List.getElem_mem hkL))
    rw [CUM.out] at OK STEP
    obtain ⟨pg, hpg⟩ : ∃ pg, L[k] = pg := ⟨_, rfl⟩
    rw [hpg] at STEP GOOD pc
    obtain ⟨⟨O', vr1, va1, st1, ho1⟩, u1⟩ := CA.out
    have eg : wr.heap[g]? = w.heap[g]? := u1.block hgl GB.out
    obtain ⟨d0, d1, d2, d3, d4, d5, d6⟩ := pc
    have d0 := cell_kept d0 eg; have d1 := cell_kept d1 eg; have d2 := cell_kept d2 eg; have d3 := cell_kept d3 eg; have d4 := cell_kept d4 eg; have d5 := cell_kept d5 eg; have d6 := cell_kept d6 eg
    have hki : (k : Int) < n := by omega
    have ST1 := hid st1; have U1 := hid u1; have HO1 := hid ho1
    clear st1 u1 ho1 hpg hown eg hgl hkL
    go_upto_region 7 with (fail)
    obtain ⟨pb, hpb⟩ : ∃ pb, wr.heap.size = pb := ⟨_, rfl⟩
    obtain ⟨wa, hwa⟩ : ∃ wa, wr.alloc (.cells (pgC pg) 87 (0, 0)) = wa := ⟨_, rfl⟩
    have hcb : wa.heap[wr.heap.size]? = some (.cells (pgC pg) 87 (0, 0)) := by rw [← hwa]; exact heap_alloc_new
    have ua : Upd (fun _ => False) wr wa := by rw [← hwa]; exact (Upd.refl _ _).alloc _
    have ST2 := hid (ST1.out.upd0 ua); have U2 := hid (U1.out.then0 ua); have CB := hid hcb
    rw [hwa]
    rw [hpb] at CB ⊢
    clear hcb ua hwa hpb d0 d1 d2 d3 d4 d5 d6 ST1 U1
    obtain ⟨p0, p1, p2, p3, p4, p5, p6⟩ := pg_cells CB.out
    obtain ⟨kd, hkd⟩ : ∃ z : Int, z = (pg.kind : Int) := ⟨_, rfl⟩
    obtain ⟨nm, hnm⟩ : ∃ z : Int, z = (pg.number : Int) := ⟨_, rfl⟩
    obtain ⟨off, hoff⟩ : ∃ z : Int, z = (pg.offset : Int) := ⟨_, rfl⟩
    obtain ⟨rs, hrs⟩ : ∃ z : Int, z = (pg.rest : Int) := ⟨_, rfl⟩
    rw [← hkd] at p0; rw [← hnm] at p2; rw [← hoff] at p4; rw [← hrs] at p5
    have b1 : 0 ≤ off ∧ off ≤ 1000000 := by have := GOOD.out.offset; omega
    have b2 : 0 ≤ rs ∧ rs ≤ 1000000 := by have := GOOD.out.rest; omega
    have HKD := hid hkd; have HNM := hid hnm; have HOFF := hid hoff; have HRS := hid hrs
    clear hkd hnm hoff hrs
    have SKIP := hid (show stepC S.first c pg = c → ∃ (k' : Nat) (c' : Cs), cumC S.first L k' = c' ∧ k' ≤ n ∧ n - (k + 1) = n - k' ∧ Value.int .i64 ((k : Int) + 1) = .int .i64 k' ∧ Value.int .i64 c.number = .int .i64 c'.number ∧ Value.int .i64 c.at_ = .int .i64 c'.at_ ∧ Value.string ⟨c.text.toArray⟩ = .string ⟨c'.text.toArray⟩ ∧ RColAt O w x p q g' F S c' wa from fun e =>
      ⟨k + 1, c, STEP.out.trans e, hkl, rfl, rfl, rfl, rfl, rfl, ⟨⟨O', vr1, va1, ST2.out, HO1.out⟩, U2.out⟩⟩)
    by_cases h1 : kd = 0
    case neg =>
      have g1 : (kd == 0) = false := beq_eq_false_iff_ne.2 h1
      have g1n : (kd != 0) = true := by rw [bne_iff_ne]; exact h1
      have SAME := hid (SKIP.out (stepC_kind (by intro e; apply h1; rw [HKD.out, e]; rfl)))
      clear SKIP
      go_wp2_with fail
      go_roundg (n - (k + 1))
      case measure => have := HG.out; omega
      case rel => exact SAME.out
    subst h1
    by_cases h2 : off = 0
    case pos =>
      have F0 := hid (stepC_beg (first := S.first) (c := c) (p := pg) (by have := HKD.out; omega) (.inl (by have := HOFF.out; omega)))
      have BL0 := hid (begC_len (c := c) GOOD.out (by have := HKD.out; omega) (.inl (by have := HOFF.out; omega)))
      have hb : begC c pg = ⟨pg.number, pg.pos, [], c.recs, c.ats⟩ := by unfold begC; rw [if_pos (by have := HOFF.out; omega)]
      rw [hb] at F0 BL0
      obtain ⟨n1, hn1⟩ : ∃ z : Int, (pg.number : Int) = z := ⟨_, rfl⟩
      obtain ⟨a1, ha1⟩ : ∃ z : Nat, pg.pos = z := ⟨_, rfl⟩
      obtain ⟨tx, htx⟩ : ∃ z, pg.bytes = z := ⟨_, rfl⟩
      have F1 := hid (show stepC S.first c pg = finC S.first ⟨n1, a1, tx, c.recs, c.ats⟩ pg from by rw [F0.out, hn1, ha1, htx]; rfl)
      have BL := hid (show tx.length ≤ pg.offset + pg.rest from by rw [← htx]; exact BL0.out)
      have TB := hid (show tx.length ≤ 1000000 from by rw [← htx]; have := GOOD.out.bytes; omega)
      have NB := hid (show 0 ≤ n1 ∧ n1 ≤ 1000000 by have := GOOD.out.number; omega)
      have a12 : ∀ w, (Op.stringOp .add ⟨#[]⟩ ⟨tx.toArray⟩).run Tryz.prog w = .ok (.string ⟨tx.toArray⟩) w := fun w => by have := add_lists [] tx (by have := TB.out; simp; omega) w; simpa using this
      rw [HNM.out, hn1] at p2
      rw [ha1] at p1
      rw [htx] at p6
      have hn1b : 0 ≤ n1 ∧ n1 ≤ 1000000 := NB.out
      have HN1 := hid hn1; have HA1 := hid ha1
      have hoz := h2
      subst h2
      clear F0 BL0 hb hn1 ha1 htx hoz SKIP
      have bt : (tx.length : Int) ≤ 1000000 := by have := TB.out; omega
      by_cases hfull : (tx.length : Int) < rs
      case pos =>
        have DN := hid (F1.out.trans (finC_more (by have := HOFF.out; have := HRS.out; show ¬ tx.length = pg.offset + pg.rest; omega)))
        go_wp2_with fail
        go_roundg (n - (k + 1))
        case measure => have := HG.out; omega
        case rel => exact ⟨k + 1, _, STEP.out.trans DN.out, hkl, rfl, by go_num, rfl, rfl, rfl, ⟨⟨O', vr1, va1, ST2.out, HO1.out⟩, U2.out⟩⟩
      have EQ := hid (show tx.length = pg.offset + pg.rest from by have h1 := BL.out; have := HOFF.out; have := HRS.out; omega)
      have RECL := hid (show c.recs.length ≤ k ∧ c.ats.length = c.recs.length from ⟨OK.out.recs, OK.out.same⟩)
      have rl : (c.recs.length : Int) ≤ 1000 := by have := RECL.out.1; omega
      obtain ⟨ar, cr, rfl, _, _⟩ := ST2.out.recs.fits
      obtain ⟨aa, ca, rfl, _, _⟩ := ST2.out.ats.fits
      obtain ⟨⟨c0, c1, c2, c3, c4, c5, c6⟩, hf⟩ := ST2.out.cells
      obtain ⟨fl, hfl⟩ : ∃ z : Int, (S.first : Int) + c.recs.length = z := ⟨_, rfl⟩
      have hfb : 0 ≤ fl ∧ fl ≤ 2000000 := by omega
      have HFL := hid hfl
      have ec3 := fun p : UW wa => p.cell c3
      have ec5 := fun p : UW wa => p.cell c5
      clear c0 c1 c2 c3 c4 c5 c6 hf
      go_upto_region 14 with (fail)
      clear p0 p1 p2 p3 p4 p5 p6
      by_cases hnum : n1 = fl
      case neg =>
        have gn : (n1 == fl) = false := beq_eq_false_iff_ne.2 hnum
        have DN := hid (F1.out.trans (finC_lost EQ.out (by show ¬ n1 = ((S.first + c.recs.length : Nat) : Int); have := HFL.out; omega)))
        refine region_upd (by kernel_rfl) (by kernel_rfl) ?_
        repeat (go_big_quiet_step (fail))
        refine wpQuiet_nil ?_
        intro w3 hw1
        obtain ⟨pw, hpw⟩ := hw1
        have uq : Upd (fun _ => False) wa w3 := by rw [hpw]; exact pw.u
        have ST3 := hid (ST2.out.upd0 uq); have U3 := hid (U2.out.then0 uq)
        clear hpw pw uq ec3 ec5
        go_wp2_with fail
        go_roundg (n - (k + 1))
        case measure => have := HG.out; omega
        case rel => exact ⟨k + 1, _, STEP.out.trans DN.out, hkl, rfl, by go_num, rfl, rfl, rfl, ⟨⟨O', _, _, ST3.out, HO1.out⟩, U3.out⟩⟩
      case pos =>
        have gn : (n1 == fl) = true := beq_iff_eq.2 hnum
        have DN := hid (F1.out.trans (finC_done EQ.out (by show n1 = ((S.first + c.recs.length : Nat) : Int); have := HFL.out; omega)))
        clear gn
        subst hnum
        refine region_upd (by kernel_rfl) (by kernel_rfl) ?_
        repeat (go_big_quiet_step (fail))
        refine wpQuiet_nil ?_
        intro w3 hw1
        obtain ⟨pw, hpw⟩ := hw1
        have uq : Upd (fun _ => False) wa w3 := by rw [hpw]; exact pw.u
        have ST3 := hid (ST2.out.upd0 uq); have U3 := hid (U2.out.then0 uq)
        clear hpw pw uq ec3 ec5
        go_upto_region 15 with (fail)
        obtain ⟨⟨c0, c1, c2, c3, c4, c5, c6⟩, hf⟩ := ST3.out.cells
        obtain ⟨a4, c4', w4, r4, hx4, ⟨O4, st4, ho4⟩, u4⟩ := ST3.out.app1 tx (by show c.recs.length + 1 ≤ 1000000; have := RECL.out; omega) 50
        have r4 : (Builtin.append_ #[50, 50] 50 #[.slice ar c.recs.length cr, .slice (some ⟨w3.heap.size, 0, none⟩) 1 1]).run Tryz.prog (w3.alloc (.cells #[.string ⟨tx.toArray⟩] 9 (0, 0))) = .ok (.slice a4 (c.recs.length + 1) c4') w4 := r4
        have ST4 := hid st4; have U4 := hid (grow_trans HO1.out U3.out u4); have HO4 := hid (show ∀ k, O4 k → O k ∨ w.heap.size ≤ k from fun k hk => (ho4 k hk).elim (HO1.out k) fun h => .inr (Nat.le_trans U3.out.size h))
        have z5 : w4.cell? ⟨x, 5, none⟩ = some (.slice ar c.recs.length cr) := by rw [cell_of_block hx4]; rfl
        have zf : ∀ o, w4.frozen? ⟨x, o, none⟩ = false := fun o => frozen_of_block hx4
        clear st4 u4 ho4 hx4
        go_upto_region 16 with (at_builtin; refine wpList_append_run rfl _ _ _ _ rfl rfl rfl r4 ?_)
        clear r4 z5 zf c0 c1 c2 c3 c4 c5 c6 hf
        obtain ⟨w5, hw5⟩ : ∃ w5, w4.setCell ⟨x, 5, none⟩ (.slice a4 (c.recs.length + 1) c4') = w5 := ⟨_, rfl⟩
        have hw5' : w4.setCell ⟨x, 5, none⟩ (.slice a4 ((c.recs.length : Nat) + 1) c4') = w5 := hw5
        have ST5 := hid (show RStAt w5 O4 x p q g' F { S with recs := c.recs ++ [tx], ats := c.ats } (.slice a4 (c.recs.length + 1) c4') (.slice aa c.ats.length ca) from by rw [← hw5]; exact ST4.out)
        have U5 := hid (show Sto O w w5 from by rw [← hw5]; exact U4.out)
        rw [hw5]
        clear hw5 hw5' ST4 U4
        obtain ⟨⟨c0, c1, c2, c3, c4, c5, c6⟩, hf⟩ := ST5.out.cells
        obtain ⟨a6, c6', w6, r6, hx6, ⟨O6, st6, ho6⟩, u6⟩ := ST5.out.app2 a1 (by show c.ats.length + 1 ≤ 1000000; have := RECL.out; omega) 51
        have r6 : (Builtin.append_ #[51, 51] 51 #[.slice aa c.ats.length ca, .slice (some ⟨w5.heap.size, 0, none⟩) 1 1]).run Tryz.prog (w5.alloc (.cells #[.int .i64 a1] 3 (0, 0))) = .ok (.slice a6 (c.ats.length + 1) c6') w6 := r6
        have ST6 := hid st6; have U6 := hid (grow_trans HO4.out U5.out u6); have HO6 := hid (show ∀ k, O6 k → O k ∨ w.heap.size ≤ k from fun k hk => (ho6 k hk).elim (HO4.out k) fun h => .inr (Nat.le_trans U5.out.size h))
        have z6 : w6.cell? ⟨x, 6, none⟩ = some (.slice aa c.ats.length ca) := by rw [cell_of_block hx6]; rfl
        have zf : ∀ o, w6.frozen? ⟨x, o, none⟩ = false := fun o => frozen_of_block hx6
        clear st6 u6 ho6 hx6
        go_upto_region 17 with (at_builtin; refine wpList_append_run rfl _ _ _ _ rfl rfl rfl r6 ?_)
        clear r6 z6 zf c0 c1 c2 c3 c4 c5 c6 hf
        obtain ⟨w7, hw7⟩ : ∃ w7, w6.setCell ⟨x, 6, none⟩ (.slice a6 (c.ats.length + 1) c6') = w7 := ⟨_, rfl⟩
        have FIN := hid (show RColAt O w x p q g' F S ⟨-1, a1, tx, c.recs ++ [tx], c.ats ++ [a1]⟩ w7 from by rw [← hw7]; exact ⟨⟨O6, _, _, ST6.out, HO6.out⟩, U6.out⟩)
        rw [hw7]
        clear hw7 ST6 U6
        go_wp2_with fail
        go_roundg (n - (k + 1))
        case measure => have := HG.out; omega
        case rel => exact ⟨k + 1, _, STEP.out.trans DN.out, hkl, rfl, by go_num, rfl, rfl, rfl, FIN.out⟩
    have g2 : (off == 0) = false := beq_eq_false_iff_ne.2 h2
    have g2n : (off != 0) = true := by rw [bne_iff_ne]; exact h2
    have OFN := hid (show pg.offset ≠ 0 from fun e => h2 (by rw [HOFF.out, e]; rfl))
    have cb : -1 ≤ c.number ∧ c.number ≤ 1000000 := OK.out.num
    have ctl : (c.text.length : Int) ≤ 64000 := by have := OK.out.text; omega
    by_cases h3 : nm = c.number
    case neg =>
      have g3 : (nm == c.number) = false := beq_eq_false_iff_ne.2 h3
      have g3n : (nm != c.number) = true := by rw [bne_iff_ne]; exact h3
      have SAME := hid (SKIP.out (stepC_number OFN.out (by rw [← HNM.out]; exact h3)))
      clear SKIP
      go_wp2_with fail
      go_roundg (n - (k + 1))
      case measure => have := HG.out; omega
      case rel => exact SAME.out
    by_cases h4 : off = c.text.length
    case neg =>
      have g3 : (nm == c.number) = true := beq_iff_eq.2 h3
      have g3n : (nm != c.number) = false := by rw [h3]; exact bne_self_eq_false _
      have g4 : (off == (c.text.length : Int)) = false := beq_eq_false_iff_ne.2 h4
      have g4n : (off != (c.text.length : Int)) = true := by rw [bne_iff_ne]; exact h4
      have SAME := hid (SKIP.out (stepC_offset OFN.out (fun e => h4 (by rw [HOFF.out, e]))))
      clear SKIP h3
      go_wp2_with fail
      go_roundg (n - (k + 1))
      case measure => have := HG.out; omega
      case rel => exact SAME.out
    have F0 := hid (stepC_beg (first := S.first) (c := c) (p := pg) (by have := HKD.out; omega) (.inr ⟨by rw [← HNM.out]; exact h3, by have := HOFF.out; omega⟩))
    have BL0 := hid (begC_len (c := c) GOOD.out (by have := HKD.out; omega) (.inr ⟨by rw [← HNM.out]; exact h3, by have := HOFF.out; omega⟩))
    have hb : begC c pg = c := by unfold begC; rw [if_neg OFN.out]
    rw [hb] at F0 BL0
    have g3 : (nm == c.number) = true := beq_iff_eq.2 h3
    have g4 : (off == (c.text.length : Int)) = true := beq_iff_eq.2 h4
    have g3n : (nm != c.number) = false := by rw [h3]; exact bne_self_eq_false _
    have g4n : (off != (c.text.length : Int)) = false := by rw [← h4]; exact bne_self_eq_false _
    obtain ⟨n1, hn1⟩ : ∃ z : Int, c.number = z := ⟨_, rfl⟩
    obtain ⟨a1, ha1⟩ : ∃ z : Nat, c.at_ = z := ⟨_, rfl⟩
    obtain ⟨tx, htx⟩ : ∃ z, c.text ++ pg.bytes = z := ⟨_, rfl⟩
    have F1 := hid (show stepC S.first c pg = finC S.first ⟨n1, a1, tx, c.recs, c.ats⟩ pg from by rw [F0.out, htx, ← hn1, ← ha1])
    have BL := hid (show tx.length ≤ pg.offset + pg.rest from by rw [← htx]; exact BL0.out)
    have TB := hid (show tx.length ≤ 1000000 from by rw [← htx, List.length_append]; have := GOOD.out.bytes; have := OK.out.text; omega)
    have a12 : ∀ w, (Op.stringOp .add ⟨c.text.toArray⟩ ⟨pg.bytes.toArray⟩).run Tryz.prog w = .ok (.string ⟨tx.toArray⟩) w := fun w => by rw [← htx]; exact add_lists _ _ (by rw [← List.length_append, htx]; have := TB.out; omega) w
    obtain ⟨sm, hsm⟩ : ∃ z : Int, off + rs = z := ⟨_, rfl⟩
    have hsmb : 0 ≤ sm ∧ sm ≤ 2000000 := by omega
    have hnb : -1 ≤ n1 ∧ n1 ≤ 1000000 := by omega
    rw [hn1] at g3 g3n cb ⊢
    rw [ha1]
    clear F0 BL0 hb htx SKIP h3 h4
    have bt : (tx.length : Int) ≤ 1000000 := by have := TB.out; omega
    by_cases hfull : (tx.length : Int) < sm
    case pos =>
      have DN := hid (F1.out.trans (finC_more (by have := HOFF.out; have := HRS.out; show ¬ tx.length = pg.offset + pg.rest; omega)))
      go_wp2_with fail
      go_roundg (n - (k + 1))
      case measure => have := HG.out; omega
      case rel => exact ⟨k + 1, _, STEP.out.trans DN.out, hkl, rfl, by go_num, rfl, rfl, rfl, ⟨⟨O', vr1, va1, ST2.out, HO1.out⟩, U2.out⟩⟩
    have EQ := hid (show tx.length = pg.offset + pg.rest from by have h1 := BL.out; have := HOFF.out; have := HRS.out; omega)
    have RECL := hid (show c.recs.length ≤ k ∧ c.ats.length = c.recs.length from ⟨OK.out.recs, OK.out.same⟩)
    have rl : (c.recs.length : Int) ≤ 1000 := by have := RECL.out.1; omega
    obtain ⟨ar, cr, rfl, _, _⟩ := ST2.out.recs.fits
    obtain ⟨aa, ca, rfl, _, _⟩ := ST2.out.ats.fits
    obtain ⟨⟨c0, c1, c2, c3, c4, c5, c6⟩, hf⟩ := ST2.out.cells
    obtain ⟨fl, hfl⟩ : ∃ z : Int, (S.first : Int) + c.recs.length = z := ⟨_, rfl⟩
    have hfb : 0 ≤ fl ∧ fl ≤ 2000000 := by omega
    have HFL := hid hfl
    have ec3 := fun p : UW wa => p.cell c3
    have ec5 := fun p : UW wa => p.cell c5
    clear c0 c1 c2 c3 c4 c5 c6 hf
    go_upto_region 14 with (fail)
    clear p0 p1 p2 p3 p4 p5 p6
    by_cases hnum : n1 = fl
    case neg =>
      have gn : (n1 == fl) = false := beq_eq_false_iff_ne.2 hnum
      have DN := hid (F1.out.trans (finC_lost EQ.out (by show ¬ n1 = ((S.first + c.recs.length : Nat) : Int); have := HFL.out; omega)))
      refine region_upd (by kernel_rfl) (by kernel_rfl) ?_
      repeat (go_big_quiet_step (fail))
      refine wpQuiet_nil ?_
      intro w3 hw1
      obtain ⟨pw, hpw⟩ := hw1
      have uq : Upd (fun _ => False) wa w3 := by rw [hpw]; exact pw.u
      have ST3 := hid (ST2.out.upd0 uq); have U3 := hid (U2.out.then0 uq)
      clear hpw pw uq ec3 ec5
      go_wp2_with fail
      go_roundg (n - (k + 1))
      case measure => have := HG.out; omega
      case rel => exact ⟨k + 1, _, STEP.out.trans DN.out, hkl, rfl, by go_num, rfl, rfl, rfl, ⟨⟨O', _, _, ST3.out, HO1.out⟩, U3.out⟩⟩
    case pos =>
      have gn : (n1 == fl) = true := beq_iff_eq.2 hnum
      have DN := hid (F1.out.trans (finC_done EQ.out (by show n1 = ((S.first + c.recs.length : Nat) : Int); have := HFL.out; omega)))
      clear gn
      subst hnum
      refine region_upd (by kernel_rfl) (by kernel_rfl) ?_
      repeat (go_big_quiet_step (fail))
      refine wpQuiet_nil ?_
      intro w3 hw1
      obtain ⟨pw, hpw⟩ := hw1
      have uq : Upd (fun _ => False) wa w3 := by rw [hpw]; exact pw.u
      have ST3 := hid (ST2.out.upd0 uq); have U3 := hid (U2.out.then0 uq)
      clear hpw pw uq ec3 ec5
      go_upto_region 15 with (fail)
      obtain ⟨⟨c0, c1, c2, c3, c4, c5, c6⟩, hf⟩ := ST3.out.cells
      obtain ⟨a4, c4', w4, r4, hx4, ⟨O4, st4, ho4⟩, u4⟩ := ST3.out.app1 tx (by show c.recs.length + 1 ≤ 1000000; have := RECL.out; omega) 50
      have r4 : (Builtin.append_ #[50, 50] 50 #[.slice ar c.recs.length cr, .slice (some ⟨w3.heap.size, 0, none⟩) 1 1]).run Tryz.prog (w3.alloc (.cells #[.string ⟨tx.toArray⟩] 9 (0, 0))) = .ok (.slice a4 (c.recs.length + 1) c4') w4 := r4
      have ST4 := hid st4; have U4 := hid (grow_trans HO1.out U3.out u4); have HO4 := hid (show ∀ k, O4 k → O k ∨ w.heap.size ≤ k from fun k hk => (ho4 k hk).elim (HO1.out k) fun h => .inr (Nat.le_trans U3.out.size h))
      have z5 : w4.cell? ⟨x, 5, none⟩ = some (.slice ar c.recs.length cr) := by rw [cell_of_block hx4]; rfl
      have zf : ∀ o, w4.frozen? ⟨x, o, none⟩ = false := fun o => frozen_of_block hx4
      clear st4 u4 ho4 hx4
      go_upto_region 16 with (at_builtin; refine wpList_append_run rfl _ _ _ _ rfl rfl rfl r4 ?_)
      clear r4 z5 zf c0 c1 c2 c3 c4 c5 c6 hf
      obtain ⟨w5, hw5⟩ : ∃ w5, w4.setCell ⟨x, 5, none⟩ (.slice a4 (c.recs.length + 1) c4') = w5 := ⟨_, rfl⟩
      have hw5' : w4.setCell ⟨x, 5, none⟩ (.slice a4 ((c.recs.length : Nat) + 1) c4') = w5 := hw5
      have ST5 := hid (show RStAt w5 O4 x p q g' F { S with recs := c.recs ++ [tx], ats := c.ats } (.slice a4 (c.recs.length + 1) c4') (.slice aa c.ats.length ca) from by rw [← hw5]; exact ST4.out)
      have U5 := hid (show Sto O w w5 from by rw [← hw5]; exact U4.out)
      rw [hw5]
      clear hw5 hw5' ST4 U4
      obtain ⟨⟨c0, c1, c2, c3, c4, c5, c6⟩, hf⟩ := ST5.out.cells
      obtain ⟨a6, c6', w6, r6, hx6, ⟨O6, st6, ho6⟩, u6⟩ := ST5.out.app2 a1 (by show c.ats.length + 1 ≤ 1000000; have := RECL.out; omega) 51
      have r6 : (Builtin.append_ #[51, 51] 51 #[.slice aa c.ats.length ca, .slice (some ⟨w5.heap.size, 0, none⟩) 1 1]).run Tryz.prog (w5.alloc (.cells #[.int .i64 a1] 3 (0, 0))) = .ok (.slice a6 (c.ats.length + 1) c6') w6 := r6
      have ST6 := hid st6; have U6 := hid (grow_trans HO4.out U5.out u6); have HO6 := hid (show ∀ k, O6 k → O k ∨ w.heap.size ≤ k from fun k hk => (ho6 k hk).elim (HO4.out k) fun h => .inr (Nat.le_trans U5.out.size h))
      have z6 : w6.cell? ⟨x, 6, none⟩ = some (.slice aa c.ats.length ca) := by rw [cell_of_block hx6]; rfl
      have zf : ∀ o, w6.frozen? ⟨x, o, none⟩ = false := fun o => frozen_of_block hx6
      clear st6 u6 ho6 hx6
      go_upto_region 17 with (at_builtin; refine wpList_append_run rfl _ _ _ _ rfl rfl rfl r6 ?_)
      clear r6 z6 zf c0 c1 c2 c3 c4 c5 c6 hf
      obtain ⟨w7, hw7⟩ : ∃ w7, w6.setCell ⟨x, 6, none⟩ (.slice a6 (c.ats.length + 1) c6') = w7 := ⟨_, rfl⟩
      have FIN := hid (show RColAt O w x p q g' F S ⟨-1, a1, tx, c.recs ++ [tx], c.ats ++ [a1]⟩ w7 from by rw [← hw7]; exact ⟨⟨O6, _, _, ST6.out, HO6.out⟩, U6.out⟩)
      rw [hw7]
      clear hw7 ST6 U6
      go_wp2_with fail
      go_roundg (n - (k + 1))
      case measure => have := HG.out; omega
      case rel => exact ⟨k + 1, _, STEP.out.trans DN.out, hkl, rfl, by go_num, rfl, rfl, rfl, FIN.out⟩
end Go.Proofs.YtlefilfdomjkeaaGreatDoor
namespace Go.Proofs.YtlefilfdomjkeaaGreatDoor
open Go.RowKit Go.Deep
theorem rstore_first {w : World} {x p : Nat} {F : Fl} {S : St} {vr va : Value} {t : TypeId} (h : w.heap[x]? = some (.cells (stC p F S vr va) t (0, 0))) (n : Nat) :
    (w.setCell ⟨x, 3, none⟩ (.int .i64 n)).heap[x]? = some (.cells (stC p F { S with first := n } vr va) t (0, 0)) := by
  rw [heap_setCell_same (p := ⟨x, 3, none⟩) rfl h]; rfl
def ROpenPost (p q : Nat) (g' : Nat → Nat) (F : Fl) (w : World) (e : Ending) (w' : World) : Prop :=
  ∃ x, e = .returned (.tuple #[.pointer (some ⟨x, 0, none⟩), .int .i64 0]) ∧ (∃ O vr va, RStAt w' O x p q g' F (openP F) vr va ∧ ∀ k, O k → Foot p q g' F.nb k ∨ w.heap.size ≤ k) ∧ Sto (Foot p q g' F.nb) w w'
theorem ropen_few {w : World} {p q : Nat} {g' : Nat → Nat} {F : Fl} (h : RefAt w p q g' F) (hb : F.nb < 2) : Calls Tryz.prog 10 #[.pointer (some ⟨p, 0, none⟩)] w fun e w' => e = .returned (.tuple #[.pointer none, .int .i64 1]) ∧ Upd (fun _ => False) w w' := by
  have hbi : (F.nb : Int) < 2 := by omega
  have hbn : F.nb < 2 := hb
  obtain ⟨cap, ⟨c0, c1, c2, c3, c4, c5⟩, hz⟩ := h.cells
  clear h
  go_enter Tryz.func10, Tryz.ntmps10
  go_wp2_with fail
  go_ret2
  exact ⟨rfl, Upd.refl _ _⟩
set_option maxRecDepth 100000 in
set_option maxHeartbeats 4000000 in
theorem ropen_any {w : World} {p q : Nat} {g' : Nat → Nat} {F : Fl} (h : RefAt w p q g' F) (hb : 2 ≤ F.nb) (hd : F.down = false) (hi : PgInv F) (hps : ∀ p ∈ pagesP F, p.pos < 1000000) :
    Calls Tryz.prog 10 #[.pointer (some ⟨p, 0, none⟩)] w (ROpenPost p q g' F w) := by
  have hbi : ¬ (F.nb : Int) < 2 := by omega
  have hbn : ¬ F.nb < 2 := by omega
  obtain ⟨cap, ⟨c0, c1, c2, c3, c4, c5⟩, hz⟩ := h.cells
  rw [hd] at c2
  have H := hid h; have HD := hid hd; have HI := hid hi; have HPS := hid hps; have HB := hid hb
  have FL := hid (show ∀ k, Foot p q g' F.nb k → k < w.heap.size from fun k hk => by
    rcases hk with rfl | rfl | ⟨i, hi, rfl⟩
    · exact h.lt.1
    · exact h.lt.2.1
    · exact h.lt.2.2 i hi)
  have hnb := h.ok.nb; have hnp := h.ok.np
  have hmul : F.nb * F.np ≤ 32 * 16 := Nat.mul_le_mul hnb.2 hnp.2
  have HM := hid hmul
  clear h hd hi hps hb hmul hnb hnp
  go_enter Tryz.func10, Tryz.ntmps10
  go_upto_region 7 with (fail)
  refine wp_region_g (fun w' => w'.cell? ⟨p, 0, none⟩ = some (.slice (some ⟨q, 0, none⟩) F.nb cap) ∧ w'.cell? ⟨p, 1, none⟩ = some (.int .i64 F.np)) 12 (by kernel_rfl) ?_
  have hS : w.drew.cell? ⟨p, 0, none⟩ = some (.slice (some ⟨q, 0, none⟩) F.nb cap) ∧ w.drew.cell? ⟨p, 1, none⟩ = some (.int .i64 F.np) := ⟨c0, c1⟩
  refine g_take0 (i := 0) rfl (by kernel_rfl) (by kernel_rfl) (by kernel_rfl) (by decide) (fun _ _ _ h => h) (Or.inl ⟨by kernel_rfl, by (intro w _; go_simp; try with_reducible rfl)⟩) (fun _ => hS) ?_
  (try go_frame)
  refine g_take0 (i := 1) rfl (by kernel_rfl) (by kernel_rfl) (by kernel_rfl) (by decide) (fun _ _ _ h => h) (Or.inl ⟨by kernel_rfl, by (intro w _; go_simp; try with_reducible rfl)⟩) (fun _ => hS) ?_
  (try go_frame)
  refine g_take0 (i := 2) rfl (by kernel_rfl) (by kernel_rfl) (by kernel_rfl) (by decide) (fun _ _ _ h => h) (Or.inl ⟨by kernel_rfl, by (intro w _; go_simp; try with_reducible rfl)⟩) (fun _ => hS) ?_
  (try go_frame)
  refine g_take0 (i := 3) rfl (by kernel_rfl) (by kernel_rfl) (by kernel_rfl) (by decide) (fun _ _ _ h => h) (Or.inl ⟨by kernel_rfl, by (intro w _; go_simp; try with_reducible rfl)⟩) (fun _ => hS) ?_
  (try go_frame)
  refine g_take (i := 4) rfl (by kernel_rfl) (by kernel_rfl) (by kernel_rfl) (by kernel_rfl) (fun _ _ _ h => h) (Or.inl ⟨by kernel_rfl, by (intro w hSw; (try dsimp only at hSw); obtain ⟨z0, z1⟩ := hSw; go_simp; try with_reducible rfl)⟩) hS ?_
  (try go_frame)
  refine g_take0 (i := 5) rfl (by kernel_rfl) (by kernel_rfl) (by kernel_rfl) (by decide) (fun _ _ _ h => h) (Or.inl ⟨by kernel_rfl, by (intro w _; go_simp; try with_reducible rfl)⟩) (fun _ => hS) ?_
  (try go_frame)
  refine g_take0 (i := 6) rfl (by kernel_rfl) (by kernel_rfl) (by kernel_rfl) (by decide) (fun _ _ _ h => h) (Or.inl ⟨by kernel_rfl, by (intro w _; go_simp; try with_reducible rfl)⟩) (fun _ => hS) ?_
  (try go_frame)
  refine g_take0 (i := 7) rfl (by kernel_rfl) (by kernel_rfl) (by kernel_rfl) (by decide) (fun _ _ _ h => h) (Or.inl ⟨by kernel_rfl, by (intro w _; go_simp; try with_reducible rfl)⟩) (fun _ => hS) ?_
  (try go_frame)
  refine g_take0 (i := 8) rfl (by kernel_rfl) (by kernel_rfl) (by kernel_rfl) (by decide) (fun _ _ _ h => h) (Or.inl ⟨by kernel_rfl, by (intro w _; go_simp; try with_reducible rfl)⟩) (fun _ => hS) ?_
  (try go_frame)
  refine g_take (i := 9) rfl (by kernel_rfl) (by kernel_rfl) (by kernel_rfl) (by kernel_rfl) (fun _ _ _ h => h) (Or.inl ⟨by kernel_rfl, by (intro w hSw; (try dsimp only at hSw); obtain ⟨z0, z1⟩ := hSw; go_simp; try with_reducible rfl)⟩) hS ?_
  (try go_frame)
  refine g_take0 (i := 10) rfl (by kernel_rfl) (by kernel_rfl) (by kernel_rfl) (by decide) (fun _ _ _ h => h) (Or.inl ⟨by kernel_rfl, by (intro w _; go_simp; try with_reducible rfl)⟩) (fun _ => hS) ?_
  (try go_frame)
  obtain ⟨w0, hw0⟩ : ∃ w0, w.drew = w0 := ⟨_, rfl⟩
  have u0 : Upd (fun _ => False) w w0 := by rw [← hw0]; exact (Upd.refl _ w).drew
  rw [hw0] at hS ⊢
  refine g_op (i := 11) (by kernel_rfl) rfl ?_
  go_wp2_with fail
  obtain ⟨x, hx⟩ : ∃ x, w0.heap.size = x := ⟨_, rfl⟩
  obtain ⟨w1, hw1⟩ : ∃ w1, w0.alloc (.cells #[.pointer (some ⟨p, 0, none⟩), .int .i64 F.nb, .int .i64 F.np, .int .i64 0, .int .i64 0, .slice none 0 0, .slice none 0 0] 53 (0, 0)) = w1 := ⟨_, rfl⟩
  have u1 : Upd (fun _ => False) w0 w1 := by rw [← hw1]; exact (Upd.refl _ _).alloc _
  have b1 : w1.heap[w0.heap.size]? = some (.cells (stC p F ⟨0, 0, [], []⟩ (.slice none 0 0) (.slice none 0 0)) 53 (0, 0)) := by rw [← hw1]; exact heap_alloc_new
  rw [hw1]
  try rw [hx]
  rw [hx] at b1
  have hS1 : w1.cell? ⟨p, 0, none⟩ = some (.slice (some ⟨q, 0, none⟩) F.nb cap) ∧ w1.cell? ⟨p, 1, none⟩ = some (.int .i64 F.np) := ⟨cell_kept hS.1 (u1.block p (World.block_lt_of_cell? _ _ hS.1) id), cell_kept hS.2 (u1.block p (World.block_lt_of_cell? _ _ hS.1) id)⟩
  first | (refine ⟨fun _ => hS1, ?_⟩) | (refine ⟨hS1, ?_⟩)
  (try go_frame)
  refine g_op (i := 12) (by kernel_rfl) rfl ?_
  go_wp2_with fail
  first | (refine ⟨fun _ => hS1, ?_⟩) | (refine ⟨hS1, ?_⟩)
  (try go_frame)
  refine g_done (by kernel_rfl) ?_
  have XB := hid (show w.heap.size ≤ x from by rw [← hx]; exact u0.size)
  have ST1 := hid (show RStAt w1 (fun k => k = x ∨ Foot p q g' F.nb k) x p q g' F ⟨0, 0, [], []⟩ (.slice none 0 0) (.slice none 0 0) from
    ⟨b1, Own1.nil _ _, Own1.nil _ _, (H.out.upd u0 fun _ _ => id).upd u1 (fun _ _ => id), .inl rfl, fun k hk => .inr hk, (fun g hg => by cases hg), (fun g hg => by cases hg), fun k hk => ⟨fun e => by have := FL.out k hk; have := XB.out; omega, (fun e => by cases e), (fun e => by cases e)⟩, fun k hk => by
      have h1 := heap_lt b1; have h2 := (u0.trans u1).size
      rcases hk with rfl | hk
      · exact h1
      · exact Nat.lt_of_lt_of_le (FL.out k hk) h2⟩)
  have U1 := hid (u0.trans u1)
  clear hS hS1 hw0 hw1 u0 u1 b1 hx c0 c1 c2 c3 c4 c5 hz
  go_wp2_with fail
  refine (valid_any ST1.out HD.out HI.out).mono ?_
  rintro e w2 ⟨⟨vo, rfl, row⟩, u2⟩
  obtain ⟨a, c, rfl, hc1, hc2⟩ := row.fits
  have hc2 : c ≤ 9223372036854775807 := hc2
  have ROW := hid row; have ST2 := hid (ST1.out.upd0 u2); have U2 := hid (U1.out.trans u2)
  have NOB := hid (show ∀ g, (Value.slice a (pagesP F).length c).ownBlock = some g → ¬ (g = x ∨ Foot p q g' F.nb g) from fun g hg e => by
    have h1 := (row.lt g hg).1
    have h2 := ST1.out.lt g e
    omega)
  have GOODS := hid (fun p (hp : p ∈ pagesP F) => HI.out.good hp)
  have LEN := hid (show (pagesP F).length ≤ 1000 by have := vals_len F; have := HM.out; omega)
  have leni : ((pagesP F).length : Int) ≤ 1000 := by have := LEN.out; omega
  clear u2 row
  have FIN := hid (fun (S1 : St) (w3 w4 w5 : World) (u3 : Upd (fun k => k = x) w2 w3) (hc : RColAt (fun k => k = x ∨ Foot p q g' F.nb k) w3 x p q g' F S1 (collP S1.first (pagesP F)) w4) (u5 : Upd (· = x) w4 w5) (hb : ∀ (S' : St) vr va, w4.heap[x]? = some (.cells (stC p F S' vr va) 53 (0, 0)) → w5.heap[x]? = some (.cells (stC p F { S' with next := seekP F (fromP (pagesP F)) } vr va) 53 (0, 0))) (h1 : S1.first = firstP (pagesP F)) => (show ROpenPost p q g' F w (.returned (.tuple #[.pointer (some ⟨x, 0, none⟩), .int .i64 0])) w5 from by
    obtain ⟨⟨O', vr, va, st, ho⟩, u4⟩ := hc
    have s3 : w.heap.size ≤ w3.heap.size := Nat.le_trans U2.out.size u3.size
    refine ⟨x, rfl, ⟨O', vr, va, ?_, fun k hk => ?_⟩, ?_⟩
    · have := st.headed u5 (hb _ _ _ st.head) rfl rfl
      have e : openP F = { ({ S1 with recs := (collP S1.first (pagesP F)).recs, ats := (collP S1.first (pagesP F)).ats } : St) with next := seekP F (fromP (pagesP F)) } := by
        unfold openP; rw [h1]
      rw [e]; exact this
    · rcases ho k hk with (rfl | h) | h
      · exact .inr XB.out
      · exact .inl h
      · exact .inr (Nat.le_trans s3 h)
    · have a1 : Upd (fun _ => False) w w3 := U2.out.comp u3 fun i hi e => by have := XB.out; omega
      refine ((Sto.of0 (O := Foot p q g' F.nb) a1).trans u4 fun i e => ?_).trans (O' := (· = x)) (u5.mono fun k hk => ⟨hk, by rw [hk]; exact st.noStr⟩) fun i e => .inr (by rw [e]; exact XB.out)
      rcases e with rfl | e
      · exact .inr XB.out
      · exact .inl e))
  cases hL : (pagesP F).getLast? with
  | none =>
    have hnil : pagesP F = [] := List.getLast?_eq_none_iff.1 hL
    have l0 : ((pagesP F).length : Int) = 0 := by rw [hnil]; rfl
    have h1 : firstP (pagesP F) = 0 := by unfold firstP newestP; rw [hL]
    have h2 : fromP (pagesP F) = 0 := by unfold fromP newestP; rw [hL]
    have H1 := hid h1; have H2 := hid h2
    clear hL hnil h1 h2
    go_wp2_with fail
    refine (rcollect_any ST2.out rfl rfl (Nat.zero_le _) GOODS.out LEN.out ROW.out NOB.out).mono ?_
    rintro e w4 ⟨rfl, hc⟩
    have HC := hid hc
    clear hc
    obtain ⟨⟨O4, vr4, va4, st4, ho4⟩, u4⟩ := HC.out
    have ST4 := hid st4
    clear st4 ho4 u4
    go_wp2_with fail
    refine (rseek_any ST4.out HD.out 0 (by decide)).mono ?_
    rintro e w5 ⟨rfl, u5⟩
    have ST5 := hid (ST4.out.upd0 u5); have U5 := hid u5; have HC5 := hid (HC.out.upd0 u5)
    obtain ⟨⟨c0, c1, c2, c3, c4, c5, c6⟩, hf⟩ := ST5.out.cells
    clear u5
    go_wp2_with fail
    go_ret2
    exact FIN.out ⟨0, 0, [], []⟩ w2 w5 _ (Upd.refl _ _) HC5.out ((Upd.refl _ _).at_ _ _) (fun S' vr va h => by rw [H2.out]; exact store_next h _) H1.out.symm
  | some pl =>
    obtain ⟨l', hl'⟩ := List.getLast?_eq_some_iff.1 hL
    have hmem : pl ∈ pagesP F := List.mem_of_getLast? hL
    have gl := GOODS.out pl hmem
    have hlen : (pagesP F).length = l'.length + 1 := by rw [hl']; simp
    obtain ⟨m, hm⟩ : ∃ m, l'.length = m := ⟨_, rfl⟩
    rw [hm] at hlen
    have hlast : (pagesP F)[m]? = some pl := by rw [hl', ← hm]; simp
    have lml : m < (pagesP F).length := by omega
    obtain ⟨gb, cap2, e2, hown, -, hgl, -, -, -, -⟩ := ROW.out.page lml
    obtain ⟨p7, _⟩ := ROW.out.at_ hown hlast
    injection e2 with e2 _ e3
    subst e2
    subst e3
    obtain ⟨df, hdf⟩ : ∃ df, pl.number - pl.diff = df := ⟨_, rfl⟩
    obtain ⟨nx, hnx⟩ : ∃ nx, pl.pos + 1 = nx := ⟨_, rfl⟩
    have h1 : firstP (pagesP F) = df := by unfold firstP newestP; rw [hL]; exact hdf
    have h2 : fromP (pagesP F) = nx := by unfold fromP newestP; rw [hL]; exact hnx
    have H1 := hid h1; have H2 := hid h2
    have hdn := gl.form.2.1
    have hnum := gl.number
    have hposl := gl.pos
    have li : ((pagesP F).length : Int) - 1 = m := by omega
    have lp : (0 : Int) < (pagesP F).length := by omega
    have lpn : 0 < (pagesP F).length := by omega
    have lmi : (m : Int) < (pagesP F).length := by omega
    have mi : (m : Int) ≤ 1000 := by omega
    have f1 : (pl.number : Int) - pl.diff = df := by omega
    have f2 : (pl.pos : Int) + 1 = nx := by omega
    have b1 : (df : Int) ≤ 1000000 := by omega
    have b2 : (nx : Int) ≤ 1000001 := by omega
    have DFB := hid (show df ≤ 1000000 by omega)
    have NXB := hid (show nx ≤ 1000000 by have := HPS.out pl hmem; omega)
    clear hL hl' hmem gl hm hlast hdf hnx hdn hnum hposl hlen h1 h2 hown hgl
    obtain ⟨d0, d1, d2, d3, d4, d5, d6⟩ := p7
    go_upto_region 12 with (fail)
    obtain ⟨w3, hw3⟩ : ∃ w3, w2.alloc (.cells (pgC pl) 87 (0, 0)) = w3 := ⟨_, rfl⟩
    have u3 : Upd (fun _ => False) w2 w3 := by rw [← hw3]; exact (Upd.refl _ _).alloc _
    have b3 : w3.heap[w2.heap.size]? = some (.cells (pgC pl) 87 (0, 0)) := by rw [← hw3]; exact heap_alloc_new
    obtain ⟨pb, hpb⟩ : ∃ pb, w2.heap.size = pb := ⟨_, rfl⟩
    rw [hw3]
    try rw [hpb]
    rw [hpb] at b3
    have ST3 := hid (ST2.out.upd0 u3); have U3 := hid u3; have ROW3 := hid (ROW.out.upd u3 fun _ _ => id)
    clear hw3 u3 hpb d0 d1 d2 d3 d4 d5 d6
    obtain ⟨p0, p1, p2, p3, p4, p5, p6⟩ := pg_cells b3
    obtain ⟨⟨c0, c1, c2, c3, c4, c5, c6⟩, hf⟩ := ST3.out.cells
    clear b3
    have hs4 := hid (rstore_first ST3.out.head df)
    have u4 : Upd (· = x) w3 (w3.setCell ⟨x, 3, none⟩ (.int .i64 (df : Int))) := (Upd.refl (· = x) w3).at_ 3 (.int .i64 (df : Int))
    have ST4 := hid (ST3.out.headed u4 hs4.out rfl rfl)
    have ROW4 := hid (ROW3.out.upd u4 fun g hg e => NOB.out g hg (.inl e))
    have U4 := hid ((U3.out.mono (T := (· = x)) fun _ h => h.elim).trans u4)
    obtain ⟨w4, hw4⟩ : ∃ w4, w3.setCell ⟨x, 3, none⟩ (.int .i64 (df : Int)) = w4 := ⟨_, rfl⟩
    rw [hw4] at ST4 ROW4 U4
    have HW4 := hid hw4
    clear hw4 u4 hs4
    go_upto_region 14 with (fail)
    rw [HW4.out]
    clear HW4 p0 p1 p2 p3 p4 p5 p6 c0 c1 c2 c3 c4 c5 c6 hf
    go_wp2_with fail
    refine (rcollect_any ST4.out rfl rfl DFB.out GOODS.out LEN.out ROW4.out NOB.out).mono ?_
    rintro e w5 ⟨rfl, hc⟩
    have HC := hid hc
    clear hc
    obtain ⟨⟨O4, vr4, va4, st4, ho4⟩, u4⟩ := HC.out
    have ST5 := hid st4
    clear st4 ho4 u4
    go_wp2_with fail
    refine (rseek_any ST5.out HD.out nx NXB.out).mono ?_
    rintro e w6 ⟨rfl, u6⟩
    have ST6 := hid (ST5.out.upd0 u6); have HC6 := hid (HC.out.upd0 u6)
    obtain ⟨⟨c0, c1, c2, c3, c4, c5, c6⟩, hf⟩ := ST6.out.cells
    clear u6
    go_wp2_with fail
    go_ret2
    exact FIN.out ⟨df, 0, [], []⟩ w4 w6 _ U4.out HC6.out ((Upd.refl _ _).at_ _ _) (fun S' vr va h => by rw [H2.out]; exact store_next h _) H1.out.symm
end Go.Proofs.YtlefilfdomjkeaaGreatDoor
