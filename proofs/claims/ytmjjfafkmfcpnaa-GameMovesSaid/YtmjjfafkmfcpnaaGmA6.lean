/- Walks: holds. -/
import Derived.Test.YtmjjfafkmfcpnaaGmA3
namespace Go.Proofs.Ytmjjfafkmfcpnaa
open Go.RowKit Go.Deep

set_option maxHeartbeats 1000000 in
theorem less_any (m : Mv) (value : Int) (V : List Int) (bv bs b o cap : Nat) (w : World) (h1 : w.cell? ⟨bv, 0, none⟩ = some (.int .i64 value)) (h2 : w.cell? ⟨bs, 0, none⟩ = some (.slice (some ⟨b, o, none⟩) V.length cap))
    (h3 : Elems (kInt .i64) (· < w.heap.size) w b o V) (_ : V.length ≤ cap ∧ cap ≤ 9223372036854775807) (t0 : 0 ≤ m.to) (t1 : m.to < V.length) (hg : -1099511627776 ≤ m.gain ∧ m.gain ≤ 1099511627776) (hv : -4503599627370496 ≤ geti V m.to.toNat ∧ geti V m.to.toNat ≤ 4503599627370496) :
    Calls Try.prog 33 #[.agg #[.int .i64 m.to, .int .i64 m.gain], .pointer (some ⟨bv, 0, none⟩), .pointer (some ⟨bs, 0, none⟩)] w fun e w' => e = .returned (.bool (decide (value < m.gain + geti V m.to.toNat))) ∧ Upd (fun _ => False) w w' := by
  have hb1 := World.block_lt_of_cell? _ _ h1
  have hb2 := World.block_lt_of_cell? _ _ h2
  dsimp only at hb1 hb2
  obtain ⟨mto, gain⟩ := m
  dsimp only at *
  obtain ⟨t, rfl⟩ := Int.eq_ofNat_of_zero_le t0
  rw [Int.toNat_natCast] at *
  have htl : t < V.length := by omega
  have c := int_cells h3 htl
  have hb3 := World.block_lt_of_cell? _ _ c
  dsimp only at hb3
  rw [geti_at' htl] at c
  generalize geti V t = y at *
  clear h3
  go_enter Try.func33, Try.ntmps33
  go_wp2_with fail
  go_quiet (fail)
  go_wp2_with fail
  go_ret
  exact ⟨rfl, ((Upd.refl _ _).alloc _).drewN _⟩

theorem three_blocks (w : World) (a b c : Obj) : (((w.alloc a).alloc b).alloc c).heap[w.heap.size + 1]? = some b ∧ (((w.alloc a).alloc b).alloc c).heap[w.heap.size + 1 + 1]? = some c := by
  have e1 : (w.alloc a).heap.size = w.heap.size + 1 := World.size_alloc _ _
  have e2 : ((w.alloc a).alloc b).heap.size = w.heap.size + 1 + 1 := by rw [World.size_alloc, e1]
  constructor
  · rw [heap_alloc_old (by omega), ← e1]; exact heap_alloc_new
  · rw [← e2]; exact heap_alloc_new

def HoldsPost (nd : Nd) (value choice : Int) (V : List Int) (w : World) (e : Ending) (w' : World) : Prop :=
  ∃ b : Bool, e = .returned (.bool b) ∧ (b = true ↔ holdsAt nd value choice V) ∧ Upd (fun _ => False) w w'

/-- The answer b is right. -/
def HoldsB (b : Bool) (nd : Nd) (value choice : Int) (V : List Int) : Prop := b = true ↔ holdsAt nd value choice V
theorem holdsPost {nd : Nd} {value choice : Int} {V : List Int} {w w' : World} (b : Bool) (h : HoldsB b nd value choice V) (u : Upd (fun _ => False) w w') : HoldsPost nd value choice V w (.returned (.bool b)) w' := ⟨b, rfl, h, u⟩

set_option maxRecDepth 100000 in
set_option maxHeartbeats 2000000 in
theorem holds_any (nd : Nd) (value choice : Int) (V : List Int) (v vs : Value) (w : World) (h1 : (kSlice kMv).rep (· < w.heap.size) w [v] nd.moves) (h2 : kInts.rep (· < w.heap.size) w [vs] V)
    (hm : ∀ m ∈ nd.moves, 0 ≤ m.to ∧ m.to < V.length ∧ (-1099511627776 ≤ m.gain ∧ m.gain ≤ 1099511627776) ∧ -4503599627370496 ≤ geti V m.to.toNat ∧ geti V m.to.toNat ≤ 4503599627370496) (h8 : nd.moves.length ≤ 8) :
    Calls Try.prog 29 #[.agg #[.bool nd.mine, v], .int .i64 value, .int .i64 choice, vs] w (HoldsPost nd value choice V w) := by
  obtain ⟨a1, cap1, rfl, p1, p2, p3⟩ := slice_open h1
  obtain ⟨a2, cap2, rfl, q1, q2, q3⟩ := slice_open h2
  have p2 : cap1 ≤ 9223372036854775807 := p2
  have q2 : cap2 ≤ 9223372036854775807 := q2
  have h8i : (nd.moves.length : Int) ≤ 8 := by omega
  have H1 := hid h1; have H3 := hid p3; have Q3 := hid q3; have HM := hid hm
  clear h1 h2 p3 q3 hm
  have hS : maxSum = 4503599627370496 := rfl
  obtain ⟨mi, mvs⟩ := nd
  dsimp only at *
  by_cases c1 : value < -4503599627370496
  · have hf : HoldsB (false) ⟨mi, mvs⟩ value choice V := ⟨fun h => (by cases h), fun h => by have := h.1; omega⟩
    have HF := hid hf
    clear hf hS
    go_enter Try.func29, Try.ntmps29
    go_wp2_with fail
    go_ret
    exact holdsPost false HF.out (((Upd.refl _ _).alloc _).alloc _ |>.alloc _)
  by_cases c2 : 4503599627370496 < value
  · have hf : HoldsB (false) ⟨mi, mvs⟩ value choice V := ⟨fun h => (by cases h), fun h => by have := h.1; omega⟩
    have HF := hid hf
    clear hf hS
    go_enter Try.func29, Try.ntmps29
    go_wp2_with fail
    go_ret
    exact holdsPost false HF.out (((Upd.refl _ _).alloc _).alloc _ |>.alloc _)
  by_cases c3 : mvs.length = 0
  · have hn : mvs = [] := List.length_eq_zero_iff.1 c3
    have c3b : ((mvs.length : Int) == 0) = true := beq_iff_eq.2 (by omega)
    by_cases c4 : 0 ≤ value
    · by_cases c5 : choice = -1
      · have hf : HoldsB (true) ⟨mi, mvs⟩ value choice V := ⟨fun _ => ⟨by omega, fun _ => ⟨c4, c5⟩, fun h => absurd hn h, fun h => absurd hn h⟩, fun _ => rfl⟩
        have HF := hid hf
        have c5b : (choice == -1) = true := beq_iff_eq.2 c5
        clear hf hS hn c3 c5
        go_enter Try.func29, Try.ntmps29
        go_wp2_with fail
        go_ret
        exact holdsPost true HF.out (((Upd.refl _ _).alloc _).alloc _ |>.alloc _)
      · have hf : HoldsB (false) ⟨mi, mvs⟩ value choice V := ⟨fun h => (by cases h), fun h => absurd (h.2.1 hn).2 c5⟩
        have HF := hid hf
        have c5b : (choice == -1) = false := beq_eq_false_iff_ne.2 c5
        clear hf hS hn c3 c5
        go_enter Try.func29, Try.ntmps29
        go_wp2_with fail
        go_ret
        exact holdsPost false HF.out (((Upd.refl _ _).alloc _).alloc _ |>.alloc _)
    · have hf : HoldsB (false) ⟨mi, mvs⟩ value choice V := ⟨fun h => (by cases h), fun h => absurd (h.2.1 hn).1 c4⟩
      have HF := hid hf
      have c4b : decide (0 ≤ value) = false := decide_eq_false c4
      clear hf hS hn c3
      go_enter Try.func29, Try.ntmps29
      go_wp2_with fail
      go_ret
      exact holdsPost false HF.out (((Upd.refl _ _).alloc _).alloc _ |>.alloc _)
  have hn : mvs ≠ [] := fun h => c3 (by rw [h]; rfl)
  have c3b : ((mvs.length : Int) == 0) = false := beq_eq_false_iff_ne.2 (by omega)
  obtain ⟨b1, o1, rfl, hb1, hel1⟩ := H3.out (by omega)
  have hb1 : b1 < w.heap.size := hb1
  have hb1a : b1 < w.heap.size + 1 := by omega
  have hb1b : b1 < w.heap.size + 1 + 1 := by omega
  cases mi
  · by_cases d1 : choice < 0
    · have hf : HoldsB (false) ⟨false, mvs⟩ value choice V := ⟨fun h => (by cases h), fun h => by have := (h.2.2.1 hn rfl).1; omega⟩
      have HF := hid hf
      have d1b : decide (0 ≤ choice) = false := decide_eq_false (by omega)
      clear hf hS hn c3 hel1
      go_enter Try.func29, Try.ntmps29
      go_wp2_with fail
      go_quiet (fail)
      go_wp2_with fail
      go_ret
      exact holdsPost false HF.out ((((Upd.refl _ _).alloc _).alloc _ |>.alloc _).drewN _)
    · obtain ⟨k, rfl⟩ := Int.eq_ofNat_of_zero_le (by omega : 0 ≤ choice)
      have d1b : decide (0 ≤ (k : Int)) = true := decide_eq_true (by omega)
      by_cases d2 : k < mvs.length
      · have d2i : (k : Int) < mvs.length := by omega
        have d2b : decide ((k : Int) < mvs.length) = true := decide_eq_true d2i
        have d2c : decide (k < mvs.length) = true := decide_eq_true d2
        obtain ⟨e0, e1⟩ := mv_cells hel1 d2
        obtain ⟨t0, t1, t2, t3⟩ := HM.out mvs[k] (List.getElem_mem d2)
        obtain ⟨b2, o2, rfl, hb2, hel2⟩ := Q3.out (by omega)
        have hb2 : b2 < w.heap.size := hb2
        have hb2a : b2 < w.heap.size + 1 := by omega
        have hb2b : b2 < w.heap.size + 1 + 1 := by omega
        have hf : HoldsB (decide (mvs[k].gain + geti V mvs[k].to.toNat ≤ value)) ⟨false, mvs⟩ value k V := by
          unfold HoldsB
          rw [decide_eq_true_iff]
          refine ⟨fun h => ⟨by omega, fun h => absurd h hn, fun _ _ => ⟨by omega, by omega, fun m hm => ?_⟩, fun _ h => by cases h⟩, fun h => ?_⟩
          · dsimp only at hm
            rw [Int.toNat_natCast, List.getElem?_eq_getElem d2] at hm
            injection hm with hm; subst hm; exact h
          · refine (h.2.2.1 hn rfl).2.2 _ ?_
            rw [Int.toNat_natCast]; exact List.getElem?_eq_getElem d2
        have HF := hid hf
        clear hf hS hn c3 hel1
        generalize mvs[k] = mk at *
        obtain ⟨mto, gain⟩ := mk
        dsimp only at *
        obtain ⟨t, rfl⟩ := Int.eq_ofNat_of_zero_le t0
        rw [Int.toNat_natCast] at *
        have htl : t < V.length := by omega
        have c := int_cells hel2 htl
        rw [geti_at' htl] at c
        clear hel2
        generalize geti V t = y at *
        go_enter Try.func29, Try.ntmps29
        go_wp2_with fail
        go_quiet (fail)
        go_wp2_with fail
        go_ret
        exact holdsPost _ HF.out ((((Upd.refl _ _).alloc _).alloc _ |>.alloc _).drewN _)
      · have hf : HoldsB (false) ⟨false, mvs⟩ value k V := ⟨fun h => (by cases h), fun h => by have := (h.2.2.1 hn rfl).2.1; dsimp only at this; omega⟩
        have HF := hid hf
        have d2i : (mvs.length : Int) ≤ k := by omega
        have d2b : decide ((k : Int) < mvs.length) = false := decide_eq_false (by omega)
        have d2c : decide (k < mvs.length) = false := decide_eq_false d2
        clear hf hS hn c3 hel1
        go_enter Try.func29, Try.ntmps29
        go_wp2_with fail
        go_quiet (fail)
        go_wp2_with fail
        go_ret
        exact holdsPost false HF.out ((((Upd.refl _ _).alloc _).alloc _ |>.alloc _).drewN _)
  · by_cases d1 : choice = -1
    · obtain rfl := d1
      have hV : 0 < V.length := by
        obtain ⟨m, hm⟩ := List.exists_mem_of_ne_nil _ hn
        have := HM.out m hm; omega
      obtain ⟨b2, o2, rfl, hb2, hel2⟩ := Q3.out hV
      have hb2 : b2 < w.heap.size := hb2
      have hf : HoldsB ((!mvs.any fun m => decide (value < m.gain + geti V m.to.toNat))) ⟨true, mvs⟩ value (-1) V := by
        unfold HoldsB
        rw [Bool.not_eq_true', List.any_eq_false]
        refine ⟨fun h => ⟨by omega, fun h => absurd h hn, fun _ h => (by cases h), fun _ _ => ⟨rfl, fun m hm => ?_⟩⟩, fun h m hm => ?_⟩
        · have := h m hm; simpa using this
        · have := (h.2.2.2 hn rfl).2 m hm; simpa using this
      have HF := hid hf
      have eg : ∀ args w, (callFunc 33 args).run Try.prog w = .ok (.enter 33 args) w := enters_of Try.func33 (by kernel_rfl) rfl
      have HE2 := hid hel2
      clear hf hS hn c3 hel1 hel2
      go_enter Try.func29, Try.ntmps29
      go_wp2_with fail
      refine (containsFunc_any _ mvs (fun m => decide (value < m.gain + geti V m.to.toNat)) _ _ eg _ ?_ ?_).mono ?_
      · have u : Upd (fun _ => False) w (((w.alloc (.cells #[.bool true, .slice (some ⟨b1, o1, none⟩) mvs.length cap1] 41 (0, 0))).alloc (.cells #[.int .i64 value] 3 (0, 0))).alloc (.cells #[.slice (some ⟨b2, o2, none⟩) V.length cap2] 23 (0, 0))) := ((Upd.refl _ w).alloc _ |>.alloc _).alloc _
        exact (kSlice kMv).mono ((kSlice kMv).keep H1.out (Same.of_upd u fun _ _ => id)) fun x hx => Nat.lt_of_lt_of_le hx u.size
      · intro W m hmm hW _ _
        have u : Upd (fun _ => False) w (((w.alloc (.cells #[.bool true, .slice (some ⟨b1, o1, none⟩) mvs.length cap1] 41 (0, 0))).alloc (.cells #[.int .i64 value] 3 (0, 0))).alloc (.cells #[.slice (some ⟨b2, o2, none⟩) V.length cap2] 23 (0, 0))) := ((Upd.refl _ w).alloc _ |>.alloc _).alloc _
        obtain ⟨t1, t2⟩ := three_blocks w (.cells #[.bool true, .slice (some ⟨b1, o1, none⟩) mvs.length cap1] 41 (0, 0)) (.cells #[.int .i64 value] 3 (0, 0)) (.cells #[.slice (some ⟨b2, o2, none⟩) V.length cap2] 23 (0, 0))
        have hq := HM.out m hmm
        refine less_any m value V _ _ b2 o2 cap2 W ?_ ?_ ?_ ⟨q1, q2⟩ hq.1 hq.2.1 hq.2.2.1 hq.2.2.2
        · rw [cell_of_block ((hW.block _ (heap_lt t1) id).trans t1)]; rfl
        · rw [cell_of_block ((hW.block _ (heap_lt t2) id).trans t2)]; rfl
        · exact (HE2.out.keep (Same.of_upd (u.trans hW) fun _ _ => id) hb2).mono fun x hx => Nat.lt_of_lt_of_le hx (u.trans hW).size
      rintro e w3 ⟨rfl, u3⟩
      have U3 := hid ((((Upd.refl (fun _ => False) w).alloc _).alloc _ |>.alloc _).trans u3)
      clear u3
      go_wp2_with fail
      go_ret
      exact holdsPost _ HF.out U3.out
    · have hf : HoldsB (false) ⟨true, mvs⟩ value choice V := ⟨fun h => (by cases h), fun h => absurd (h.2.2.2 hn rfl).1 d1⟩
      have HF := hid hf
      have d1b : (choice == -1) = false := beq_eq_false_iff_ne.2 d1
      clear hf hS hn c3 hel1 d1
      go_enter Try.func29, Try.ntmps29
      go_wp2_with fail
      go_ret
      exact holdsPost false HF.out (((Upd.refl _ _).alloc _).alloc _ |>.alloc _)
end Go.Proofs.Ytmjjfafkmfcpnaa
