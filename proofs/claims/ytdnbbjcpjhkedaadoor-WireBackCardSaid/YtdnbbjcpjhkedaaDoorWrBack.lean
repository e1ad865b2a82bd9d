/- The walk of WireBack. -/
import Derived.Test.YtdnbbjcpjhkedaaDoorWrE1
namespace Go.Proofs.YtdnbbjcpjhkedaaDoor
open Go.RowKit Go.Deep

theorem ret_t {b : Bool} (h : b = true) : Ending.returned (.bool b) = .returned (.bool true) := by rw [h]

set_option maxRecDepth 100000 in
set_option maxHeartbeats 4000000 in
theorem back_walk (v : Value) (l : List Vl) (tail : List UInt8) (W : World) (E : Env W) (hz : 6 ≤ W.heap.size) (hl : (kSlice kVl).rep (· < W.heap.size) W [v] l) (ht : tail.length ≤ maxLen) :
    Calls Tryd.prog 8 #[v, .string ⟨tail.toArray⟩] W fun e w' => e = .returned (.bool true) ∧ Below W.heap.size W w' := by
  suffices hs : Calls Tryd.prog 8 #[v, .string ⟨tail.toArray⟩] W fun e w' => e = .returned (.bool true) ∧ Upd (fun _ => False) W w' from hs.mono fun e w' h => ⟨h.1, h.2.below (Nat.le_refl _) fun _ h => h.elim⟩
  have ht : tail.length ≤ 9223372036854775807 := ht
  have HE := hid E; have HZ := hid hz; have HL := hid hl; have OK := hid (fun hf => vls_ok hl hf)
  obtain ⟨a, cap, rfl, h1, h2, _⟩ := slice_open hl
  have h2 : cap ≤ 9223372036854775807 := h2
  clear hl E hz
  by_cases h4 : 400 < tail.length
  · have h4i : (400 : Int) < tail.length := by omega
    clear h4
    go_enter Tryd.func8, Tryd.ntmps8
    go_wp2_with fail
    refine (small_any _ HE.out HZ.out).mono ?_
    rintro e w1 ⟨rfl, u⟩
    have U := hid u; clear u
    go_wp2_with fail
    refine (few_any _ l _ (rep_keep HL.out U.out)).mono ?_
    rintro e w2 ⟨bx, rfl, hb, u⟩
    have U2 := hid (U.out.trans u); clear u hb
    cases bx
    · go_wp2_with fail
      go_ret
      exact ⟨rfl, U2.out⟩
    · go_wp2_with fail
      go_ret
      exact ⟨rfl, U2.out⟩
  have h4i : (tail.length : Int) ≤ 400 := by omega
  have h4b : decide (400 < (tail.length : Int)) = false := decide_eq_false (by omega)
  have h4n : decide (400 < tail.length) = false := decide_eq_false h4
  have H4 := hid h4
  clear h4 ht
  go_enter Tryd.func8, Tryd.ntmps8
  go_wp2_with fail
  refine (small_any _ HE.out HZ.out).mono ?_
  rintro e w1 ⟨rfl, u⟩
  have U1 := hid u; clear u
  go_wp2_with fail
  refine (few_any _ l _ (rep_keep HL.out U1.out)).mono ?_
  rintro e w2 ⟨bx, rfl, hb, u⟩
  have U2 := hid (U1.out.trans u); clear u U1
  cases bx
  · clear hb
    go_wp2_with fail
    go_ret
    exact ⟨rfl, U2.out⟩
  have FW := hid (hb rfl)
  have OKV := hid (OK.out FW.out)
  clear hb OK
  go_wp2_with fail
  have HEMP := hid (show writes (l.take 0) = [] by simp [writes])
  go_loopg [6, 7] l.length (fun gg s6 s7 wr => ∃ (i : Nat), i ≤ l.length ∧ gg = l.length - i ∧ s6 = .string ⟨(writes (l.take i)).toArray⟩ ∧ s7 = .int .i64 i ∧ Upd (fun _ => False) W wr)
  case atStart => exact ⟨0, Nat.zero_le _, rfl, by rw [HEMP.out], rfl, U2.out⟩
  case round =>
    obtain ⟨i, hi, hg, rfl, rfl, u⟩ := hrel
    have HG := hid hg; have U := hid u
    clear hg u U2
    by_cases hlt : i < l.length
    · have hlti : (i : Int) < l.length := by omega
      obtain ⟨b, o, ra, hb, hel⟩ := slice_at HL.out (by omega)
      subst ra
      obtain ⟨a1, d1, a2, d2, ⟨g1, g2, g3, g4, _, _, g5, g6, g7⟩, c0, c1, c2, c3, c4⟩ := vl_cells hel hlt
      have c0 := cell_kept c0 (U.out.block b hb id)
      have c1 := cell_kept c1 (U.out.block b hb id)
      have c2 := cell_kept c2 (U.out.block b hb id)
      have c3 := cell_kept c3 (U.out.block b hb id)
      have c4 := cell_kept c4 (U.out.block b hb id)
      have HVI := hid g6; have HVT := hid g7
      have HW := hid (writes_snoc l i hlt)
      have hvok := OKV.out l[i] (List.getElem_mem hlt)
      have VOK := hid hvok
      have hs1 := writes_len (l.take i) fun v hv => OKV.out v (List.mem_of_mem_take hv)
      have hs2 := writeF_len hvok.1 hvok.2
      have hs3 : (l.take i).length ≤ 20 := by have := FW.out.1; rw [List.length_take]; omega
      have hsum := add_lists (writes (l.take i)) (writeF l[i]) (by omega)
      have HSUM := hid hsum
      clear hel g6 g7 g1 g2 g3 g4 g5 hvok hs1 hs2 hs3 hsum
      generalize l[i] = x at *
      generalize writes (l.take i) = T at *
      go_wp2_with fail
      refine (write_any x a1 a2 d1 d2 _ (HE.out.keep0 U.out) VOK.out.1 (rep_keep HVI.out U.out) (rep_keep HVT.out U.out)).mono ?_
      rintro e w3 ⟨rfl, u⟩
      have U3 := hid (U.out.trans u); clear u
      have hsum := HSUM.out
      clear c0 c1 c2 c3 c4
      go_wp2_with fail
      go_roundg (l.length - (i + 1))
      case measure => have := HG.out; omega
      case rel => exact ⟨i + 1, by omega, rfl, by rw [HW.out], by go_num, U3.out⟩
    · obtain rfl : i = l.length := by omega
      have HS0 := hid (show writes (l.take l.length) = writes l by rw [List.take_length])
      rw [HS0.out]
      have hs1 := writes_len l OKV.out
      have hs2 := FW.out.1
      have hsum := add_lists (writes l) tail (by have := H4.out; omega)
      have hlen : (writes l ++ tail).length ≤ 10000000 := by have := H4.out; rw [List.length_append]; omega
      have HLEN := hid hlen
      clear hlen hs1 hs2 HEMP
      go_wp2_with fail
      refine (open_any (writes l ++ tail) _).mono ?_
      rintro e w3 ⟨rfl, hr, u⟩
      have HB := hid (Nat.le_trans HZ.out U.out.size); have HBW := hid U.out.size
      have hwl : W.heap.size ≤ wr.heap.size := U.out.size
      have R0 := hid hr; have U3 := hid (U.out.trans u)
      clear hr u U hsum
      generalize wr.heap.size = rb at *
      clear wr
      go_wp2_with fail
      go_loopg [9] l.length (fun gg s9 wr => ∃ (i : Nat), i ≤ l.length ∧ gg = l.length - i ∧ s9 = .int .i64 i ∧ RdAt wr rb ⟨writes (l.drop i) ++ tail, false⟩ ∧ Upd (fun _ => False) W wr)
      case atStart => exact ⟨0, Nat.zero_le _, rfl, rfl, by rw [List.drop_zero]; exact R0.out, U3.out⟩
      case round =>
        obtain ⟨i, hi, hg, rfl, hr, u⟩ := hrel
        have HG := hid hg; have U := hid u; have HR := hid hr
        clear hg u hr R0 U3
        by_cases hlt : i < l.length
        · have hlti : (i : Int) < l.length := by omega
          obtain ⟨b, o, ra, hb, hel⟩ := slice_at HL.out (by omega)
          subst ra
          obtain ⟨a1, d1, a2, d2, ⟨g1, g2, g3, g4, _, _, g5, g6, g7⟩, c0, c1, c2, c3, c4⟩ := vl_cells hel hlt
          have c0 := cell_kept c0 (U.out.block b hb id)
          have c1 := cell_kept c1 (U.out.block b hb id)
          have c2 := cell_kept c2 (U.out.block b hb id)
          have c3 := cell_kept c3 (U.out.block b hb id)
          have c4 := cell_kept c4 (U.out.block b hb id)
          have HVI := hid (kInts.mono (A' := fun g => g < wr.heap.size ∧ g ≠ rb) (kInts.keep g6 (Same.of_upd U.out fun _ _ => id)) fun g hg => ⟨Nat.lt_of_lt_of_le hg U.out.size, fun e => Nat.lt_irrefl _ (Nat.lt_of_lt_of_le (e ▸ hg) hwl)⟩)
          have HVT := hid (kStrs.mono (A' := fun g => g < wr.heap.size ∧ g ≠ rb) (kStrs.keep g7 (Same.of_upd U.out fun _ _ => id)) fun g hg => ⟨Nat.lt_of_lt_of_le hg U.out.size, fun e => Nat.lt_irrefl _ (Nat.lt_of_lt_of_le (e ▸ hg) hwl)⟩)
          have hvok := OKV.out l[i] (List.getElem_mem hlt)
          have VOK := hid hvok
          have EQ := hid (equal_mk hvok.1 hvok.2 (writes (l.drop (i + 1)) ++ tail))
          have HW := writes_cons l i hlt tail
          have hle : (writes (l.drop i) ++ tail).length ≤ 10000000 := by
            have h1 := HLEN.out
            have h2 : (writes l).length = (writes (l.take i)).length + (writes (l.drop i)).length := by
              unfold writes; rw [← List.length_append, ← List.flatten_append, ← List.map_append, List.take_append_drop]
            rw [List.length_append] at h1 ⊢; omega
          have HLE := hid hle
          rw [HW] at HR HLE
          clear hel g6 g7 g1 g2 g3 g4 g5 hvok hle HW
          generalize l[i] = x at *
          go_wp2_with fail
          refine (equal_any rb ⟨writeF x ++ (writes (l.drop (i + 1)) ++ tail), false⟩ x a1 a2 d1 d2 _ (HE.out.keep0 U.out) HR.out HB.out HLE.out (fun h => by cases h) VOK.out.1 HVI.out HVT.out).mono ?_
          rintro e w4 ⟨rfl, hr, u⟩
          rw [EQ.out] at hr ⊢
          have U4 := hid (U.out.comp u fun i hi e => by omega)
          have HR4 := hid hr
          clear c0 c1 c2 c3 c4 u hr
          go_wp2_with fail
          go_roundg (l.length - (i + 1))
          case measure => have := HG.out; omega
          case rel => exact ⟨i + 1, by omega, rfl, by go_num, HR4.out, U4.out⟩
        · obtain rfl : i = l.length := by omega
          have HS1 := hid (show writes (l.drop l.length) ++ tail = tail by simp [writes])
          rw [HS1.out] at HR
          have hdn : doneF ⟨tail, false⟩ = tail.isEmpty := by cases tail <;> rfl
          have HDN := hid hdn
          clear hdn h4b h4n
          go_wp2_with fail
          refine (left_any rb _ _ HR.out).mono ?_
          rintro e w6 ⟨rfl, hw⟩
          subst hw
          go_wp2_with fail
          refine (done_any rb _ _ HR.out).mono ?_
          rintro e w6 ⟨rfl, hw⟩
          subst hw
          rw [HDN.out]
          go_wp2_with fail
          refine (rest_any rb _ _ HR.out).mono ?_
          rintro e w6 ⟨rfl, hr, u⟩
          have HR2 := hid hr; have U6 := hid (U.out.comp u fun i hi e => by omega)
          clear hr u
          go_wp2_with fail
          refine (done_any rb _ _ HR2.out).mono ?_
          rintro e w7 ⟨rfl, hw⟩
          subst hw
          rw [show doneF ⟨[], false⟩ = true from rfl]
          go_wp2_with fail
          refine (left_any rb _ _ HR2.out).mono ?_
          rintro e w7 ⟨rfl, hw⟩
          subst hw
          go_wp2_with fail
          go_ret
          exact ⟨rfl, U6.out⟩
end Go.Proofs.YtdnbbjcpjhkedaaDoor
