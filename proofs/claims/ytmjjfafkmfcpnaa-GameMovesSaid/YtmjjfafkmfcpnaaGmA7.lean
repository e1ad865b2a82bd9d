/- Walks: Value, Prove, Best, Check. -/
import Derived.Test.YtmjjfafkmfcpnaaGmA5
import Derived.Test.YtmjjfafkmfcpnaaGmA6
import Derived.Deep.RegionHeld3
namespace Go.Proofs.Ytmjjfafkmfcpnaa
open Go.RowKit Go.Deep

def ValuePost (l : List Nd) (w : World) (e : Ending) (w' : World) : Prop :=
  if right l = true then ∃ g, e = .returned (.tuple #[.slice (some ⟨g, 0, none⟩) l.length l.length, .int .i64 0]) ∧ w.heap.size ≤ g ∧ IntsBlk w' g (vlist l) ∧ Upd (fun _ => False) w w'
  else e = .returned (.tuple #[.slice none 0 0, .int .i64 1]) ∧ Upd (fun _ => False) w w'

set_option maxHeartbeats 1000000 in
theorem value_any (v : Value) (l : List Nd) (w : World) (hl : (kSlice kNd).rep (· < w.heap.size) w [v] l) :
    Calls Try.prog 10 #[v] w (ValuePost l w) := by
  have HL := hid hl; clear hl
  cases hr : right l
  · have HR := hid hr; clear hr
    go_enter Try.func10, Try.ntmps10
    go_wp2_with fail
    refine (right_any v l _ HL.out).mono ?_
    rintro e w1 ⟨rfl, u1⟩
    have U1 := hid u1; clear u1
    rw [HR.out]
    go_wp2_with fail
    go_ret2
    unfold ValuePost
    rw [HR.out]
    exact ⟨rfl, U1.out⟩
  · have HR := hid hr; clear hr
    have HP := hid ((right_iff l).1 HR.out)
    go_enter Try.func10, Try.ntmps10
    go_wp2_with fail
    refine (right_any v l _ HL.out).mono ?_
    rintro e w1 ⟨rfl, u1⟩
    have U1 := hid u1; clear u1
    rw [HR.out]
    have hl1 := (kSlice kNd).mono ((kSlice kNd).keep HL.out (Same.of_upd U1.out fun _ _ => id)) fun x hx => Nat.lt_of_lt_of_le hx U1.out.size
    have HL1 := hid hl1; clear hl1
    go_wp2_with fail
    refine (solve_any v l _ HL1.out HP.out).mono ?_
    rintro e w2 ⟨gv, gm, rfl, h1, h2, h3, h4, h5, u2⟩
    have U2 := hid u2; have IV := hid h4; have H1 := hid h1
    clear u2 h4 h5 h1 h2 h3
    go_wp2_with fail
    go_ret2
    unfold ValuePost
    rw [HR.out]
    exact ⟨gv, rfl, Nat.le_trans U1.out.size H1.out, IV.out, U1.out.trans U2.out⟩

def BestPost (l : List Nd) (w : World) (e : Ending) (w' : World) : Prop :=
  if right l = true then ∃ g, e = .returned (.tuple #[.slice (some ⟨g, 0, none⟩) l.length l.length, .int .i64 0]) ∧ w.heap.size ≤ g ∧ IntsBlk w' g (bestB l) ∧ Upd (fun _ => False) w w'
  else e = .returned (.tuple #[.slice none 0 0, .int .i64 1]) ∧ Upd (fun _ => False) w w'

theorem keep_nds {v : Value} {l : List Nd} {w w' : World} (h : (kSlice kNd).rep (· < w.heap.size) w [v] l) (u : Upd (fun _ => False) w w') : (kSlice kNd).rep (· < w'.heap.size) w' [v] l :=
  (kSlice kNd).mono ((kSlice kNd).keep h (Same.of_upd u fun _ _ => id)) fun _ hx => Nat.lt_of_lt_of_le hx u.size
theorem keep_nds_ne {v : Value} {l : List Nd} {w w' : World} {g : Nat} (h : (kSlice kNd).rep (· < w.heap.size) w [v] l) (u : Upd (fun _ => False) w w') (hg : w.heap.size ≤ g) : (kSlice kNd).rep (fun x => x < w'.heap.size ∧ x ≠ g) w' [v] l :=
  (kSlice kNd).mono ((kSlice kNd).keep h (Same.of_upd u fun _ _ => id)) fun x hx => ⟨Nat.lt_of_lt_of_le hx u.size, fun e => by have h1 : x < w.heap.size := hx; omega⟩
theorem keep_ints {v : Value} {l : List Int} {w w' : World} (h : kInts.rep (· < w.heap.size) w [v] l) (u : Upd (fun _ => False) w w') : kInts.rep (· < w'.heap.size) w' [v] l :=
  kInts.mono (kInts.keep h (Same.of_upd u fun _ _ => id)) fun _ hx => Nat.lt_of_lt_of_le hx u.size

set_option maxHeartbeats 1000000 in
theorem best_any (v : Value) (l : List Nd) (w : World) (hl : (kSlice kNd).rep (· < w.heap.size) w [v] l) :
    Calls Try.prog 14 #[v] w (BestPost l w) := by
  have HL := hid hl; clear hl
  cases hr : right l
  · have HR := hid hr; clear hr
    go_enter Try.func14, Try.ntmps14
    go_wp2_with fail
    refine (right_any v l _ HL.out).mono ?_
    rintro e w1 ⟨rfl, u1⟩
    have U1 := hid u1; clear u1
    rw [HR.out]
    go_wp2_with fail
    go_ret2
    unfold BestPost
    rw [HR.out]
    exact ⟨rfl, U1.out⟩
  · have HR := hid hr; clear hr
    have HP := hid ((right_iff l).1 HR.out)
    go_enter Try.func14, Try.ntmps14
    go_wp2_with fail
    refine (right_any v l _ HL.out).mono ?_
    rintro e w1 ⟨rfl, u1⟩
    have U1 := hid u1; clear u1
    rw [HR.out]
    have HL1 := hid (keep_nds HL.out U1.out)
    go_wp2_with fail
    refine (solve_any v l _ HL1.out HP.out).mono ?_
    rintro e w2 ⟨gv, gm, rfl, h1, h2, h3, h4, h5, u2⟩
    have U2 := hid u2; have IM := hid h5; have H2 := hid h2
    clear u2 h4 h5 h1 h2 h3
    have HL2 := hid (keep_nds_ne HL.out (U1.out.trans U2.out) (Nat.le_trans U1.out.size H2.out))
    go_wp2_with fail
    refine (of_any v l (mlist l) gm true _ HL2.out HP.out.few IM.out (mlist_len l)).mono ?_
    rintro e w3 ⟨rfl, ib, u3⟩
    have IB := hid ib
    have U3 := hid ((U1.out.trans U2.out).comp u3 fun i hi e => by have := H2.out; have := U1.out.size; omega)
    clear ib u3
    go_wp2_with fail
    go_ret2
    unfold BestPost
    rw [HR.out]
    exact ⟨gm, rfl, Nat.le_trans U1.out.size H2.out, IB.out, U3.out⟩

def ProvePost (l : List Nd) (w : World) (e : Ending) (w' : World) : Prop :=
  if right l = true then ∃ g h, e = .returned (.tuple #[.agg #[.slice (some ⟨g, 0, none⟩) l.length l.length, .slice (some ⟨h, 0, none⟩) l.length l.length], .int .i64 0]) ∧ w.heap.size ≤ g ∧ w.heap.size ≤ h ∧ g ≠ h ∧ IntsBlk w' g (vlist l) ∧ IntsBlk w' h (proveC l) ∧ Upd (fun _ => False) w w'
  else e = .returned (.tuple #[.agg #[.slice none 0 0, .slice none 0 0], .int .i64 1]) ∧ Upd (fun _ => False) w w'

theorem store2 {w : World} {p : Nat} {a b x y : Value} {t : TypeId} (h : w.heap[p]? = some (.cells #[a, b] t (0, 0))) :
    ((w.setCell ⟨p, 0, none⟩ x).setCell ⟨p, 1, none⟩ y).heap[p]? = some (.cells #[x, y] t (0, 0)) := by
  simp [heap_setCell, Obj.setAt, h]
theorem cells2 {w : World} {p : Nat} {a b : Value} {t : TypeId} (h : w.heap[p]? = some (.cells #[a, b] t (0, 0))) : w.cell? ⟨p, 0, none⟩ = some a ∧ w.cell? ⟨p, 1, none⟩ = some b ∧ ∀ o, w.frozen? ⟨p, o, none⟩ = false :=
  ⟨by rw [cell_of_block h]; rfl, by rw [cell_of_block h]; rfl, fun _ => frozen_of_block h⟩

set_option maxHeartbeats 1000000 in
theorem prove_any (v : Value) (l : List Nd) (w : World) (hl : (kSlice kNd).rep (· < w.heap.size) w [v] l) :
    Calls Try.prog 12 #[v] w (ProvePost l w) := by
  have hl0 := keep_nds hl ((Upd.refl _ w).alloc (.cells #[.slice none 0 0, .slice none 0 0] 25 (0, 0)))
  have hb0 : (w.alloc (.cells #[.slice none 0 0, .slice none 0 0] 25 (0, 0))).heap[w.heap.size]? = some (.cells #[.slice none 0 0, .slice none 0 0] 25 (0, 0)) := heap_alloc_new
  have u0 := (Upd.refl (fun _ => False) w).alloc (.cells #[.slice none 0 0, .slice none 0 0] 25 (0, 0))
  have HL := hid hl0; have HB := hid hb0; have U0 := hid u0
  clear hl hl0 hb0 u0
  cases hr : right l
  · have HR := hid hr; clear hr
    go_enter Try.func12, Try.ntmps12
    go_wp2_with fail
    refine (right_any v l _ HL.out).mono ?_
    rintro e w1 ⟨rfl, u1⟩
    have U1 := hid (U0.out.trans u1)
    have hb1 := (u1.block _ (heap_lt HB.out) id).trans HB.out
    obtain ⟨c0, c1, hz⟩ := cells2 hb1
    have hb2 := store2 (x := .slice none 0 0) (y := .slice none 0 0) hb1
    have u2 : Upd (fun _ => False) w ((w1.setCell ⟨w.heap.size, 0, none⟩ (.slice none 0 0)).setCell ⟨w.heap.size, 1, none⟩ (.slice none 0 0)) := (U1.out.setCell _ _ (.inr (Nat.le_refl _))).setCell _ _ (.inr (Nat.le_refl _))
    have HB2 := hid hb2; have U2 := hid u2
    clear u1 hb1 hb2 u2
    rw [HR.out]
    go_wp2_with fail
    clear c0 c1 hz
    generalize (w1.setCell ⟨w.heap.size, 0, none⟩ (.slice none 0 0)).setCell ⟨w.heap.size, 1, none⟩ (.slice none 0 0) = W at *
    obtain ⟨c0, c1, _⟩ := cells2 HB2.out
    refine bodyPost_ret (v := .tuple #[.agg #[.slice none 0 0, .slice none 0 0], .int .i64 1]) (by simp [results, Try.results12, go_sem, c0, c1]) rfl ?_
    unfold ProvePost
    rw [HR.out]
    exact ⟨rfl, U2.out⟩
  · have HR := hid hr; clear hr
    have HP := hid ((right_iff l).1 HR.out)
    go_enter Try.func12, Try.ntmps12
    go_wp2_with fail
    refine (right_any v l _ HL.out).mono ?_
    rintro e w1 ⟨rfl, u1⟩
    have hb1 := (u1.block _ (heap_lt HB.out) id).trans HB.out
    have HL1 := hid (keep_nds HL.out u1)
    have HB1 := hid hb1
    have U1 := hid (U0.out.trans u1)
    clear u1 hb1 HL HB U0
    rw [HR.out]
    go_wp2_with fail
    refine (solve_any v l _ HL1.out HP.out).mono ?_
    rintro e w2 ⟨gv, gm, rfl, h1, h2, h3, h4, h5, u2⟩
    have hb2 := (u2.block _ (heap_lt HB1.out) id).trans HB1.out
    have hlt := heap_lt HB1.out
    have U2 := hid (U1.out.trans u2); have IV := hid h4; have IM := hid h5
    have HL2 := hid (keep_nds_ne HL1.out u2 h2)
    have HB2 := hid hb2
    clear u2 h4 h5 hb2 HL1 HB1 U1
    go_wp2_with fail
    refine (of_any v l (mlist l) gm false _ HL2.out HP.out.few IM.out (mlist_len l)).mono ?_
    rintro e w3 ⟨rfl, ib, u3⟩
    have hb3 := (u3.block _ (heap_lt HB2.out) (by omega)).trans HB2.out
    have iv3 := IV.out.upd u3 h3
    have uu3 := U2.out.comp u3 fun i hi e => by omega
    obtain ⟨c0, c1, hz⟩ := cells2 hb3
    have hb4 := store2 (x := .slice (some ⟨gv, 0, none⟩) l.length l.length) (y := .slice (some ⟨gm, 0, none⟩) l.length l.length) hb3
    have u4a : Upd (· = w.heap.size) w3 ((w3.setCell ⟨w.heap.size, 0, none⟩ (.slice (some ⟨gv, 0, none⟩) l.length l.length)).setCell ⟨w.heap.size, 1, none⟩ (.slice (some ⟨gm, 0, none⟩) l.length l.length)) := ((Upd.refl _ _).at_ _ _).at_ _ _
    have U4 := hid (uu3.comp u4a fun i hi e => by omega)
    have IV4 := hid (iv3.upd u4a (by omega))
    have IB4 := hid (ib.upd u4a (by omega))
    have HB4 := hid hb4
    clear ib u3 hb3 iv3 uu3 hb4 u4a
    go_wp2_with fail
    clear c0 c1 hz
    generalize (w3.setCell ⟨w.heap.size, 0, none⟩ (.slice (some ⟨gv, 0, none⟩) l.length l.length)).setCell ⟨w.heap.size, 1, none⟩ (.slice (some ⟨gm, 0, none⟩) l.length l.length) = W at *
    obtain ⟨c0, c1, _⟩ := cells2 HB4.out
    refine bodyPost_ret (v := .tuple #[.agg #[.slice (some ⟨gv, 0, none⟩) l.length l.length, .slice (some ⟨gm, 0, none⟩) l.length l.length], .int .i64 0]) (by simp [results, Try.results12, go_sem, c0, c1]) rfl ?_
    unfold ProvePost
    rw [HR.out]
    exact ⟨gv, gm, rfl, by omega, by omega, h3, IV4.out, IB4.out, U4.out⟩
end Go.Proofs.Ytmjjfafkmfcpnaa
