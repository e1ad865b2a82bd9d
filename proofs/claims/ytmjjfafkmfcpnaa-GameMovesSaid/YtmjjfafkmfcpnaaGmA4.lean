/- Walks: few, of, solve. -/
import Derived.Test.YtmjjfafkmfcpnaaGmA2
import Derived.Test.YtmjjfafkmfcpnaaGmA3
namespace Go.Proofs.Ytmjjfafkmfcpnaa
open Go.RowKit Go.Deep

def fewB (l : List Nd) (most : Nat) : Bool := decide (l.length ≤ most) && (l.take (most + 1)).all fun n => decide (n.moves.length ≤ 10)

theorem take_all_step {α : Type} (p : α → Bool) (l : List α) (k : Nat) (h : k < l.length) : (l.take (k + 1)).all p = ((l.take k).all p && p l[k]) := by
  rw [List.take_succ_eq_append_getElem h, List.all_append]; simp

theorem few_bad {l : List Nd} {most k : Nat} (h : k < l.length) (hk : k ≤ most) (hb : 10 < l[k].moves.length) : fewB l most = false := by
  unfold fewB
  have : (l.take (most + 1)).all (fun n => decide (n.moves.length ≤ 10)) = false := by
    rw [List.all_eq_false]
    refine ⟨l[k], ?_, by simp; omega⟩
    rw [List.mem_take_iff_getElem]
    exact ⟨k, by omega, rfl⟩
  rw [this, Bool.and_false]

set_option maxHeartbeats 1000000 in
theorem few_any (v : Value) (l : List Nd) (most : Nat) (w : World) (hl : (kSlice kNd).rep (· < w.heap.size) w [v] l) (hm : most ≤ 1000) :
    Calls Try.prog 9 #[v, .int .i64 most] w fun e w' => e = .returned (.bool (fewB l most)) ∧ w = w' := by
  obtain ⟨a, cap, rfl, h1, h2, h3⟩ := slice_open hl
  have h2 : cap ≤ 9223372036854775807 := h2
  have hmi : (most : Int) ≤ 1000 := by omega
  have HE := hid h3
  clear hl h3
  go_enter Try.func9, Try.ntmps9
  go_wp2_with fail
  go_loopg [5] l.length (fun gg s5 wr => ∃ k : Nat, k ≤ l.length ∧ k ≤ most + 1 ∧ gg = l.length - k ∧ s5 = .int .i64 k ∧ (l.take k).all (fun n => decide (n.moves.length ≤ 10)) = true ∧ w = wr)
  case atStart => exact ⟨0, Nat.zero_le _, by omega, by omega, rfl, by simp, rfl⟩
  case round =>
    obtain ⟨k, hk, hkm, hg, rfl, ha, rfl⟩ := hrel
    have HA := hid ha; have HG := hid hg
    clear ha hg
    by_cases hlt : k < l.length
    · by_cases hle : k ≤ most
      · obtain ⟨b, o, rfl, hb, hel⟩ := HE.out (by omega)
        obtain ⟨v', m0, m1, hv⟩ := nd_cells hel hlt
        obtain ⟨a', cap', rfl, g1, g2, _⟩ := slice_open hv
        have g2 : cap' ≤ 9223372036854775807 := g2
        by_cases h8 : 10 < l[k].moves.length
        · have hf := few_bad hlt hle h8
          have h8i : (10 : Int) < l[k].moves.length := by omega
          have HF := hid hf
          clear hf hv hel h8
          go_wp2_with fail
          go_ret
          exact ⟨by rw [HF.out]; rfl, rfl⟩
        · have h8i : (l[k].moves.length : Int) ≤ 10 := by omega
          have hs := take_all_step (fun n : Nd => decide (n.moves.length ≤ 10)) l k hlt
          rw [HA.out, decide_eq_true (by omega)] at hs
          have HS := hid hs
          clear hs hv hel h8
          go_wp2_with fail
          go_roundg (l.length - (k + 1))
          case measure => have := HG.out; omega
          case rel => exact ⟨k + 1, by omega, by omega, rfl, by go_num, by rw [HS.out]; rfl, rfl⟩
      · have hf : fewB l most = false := by unfold fewB; rw [decide_eq_false (by omega)]; rfl
        have HF := hid hf
        have hd : decide ((l.length : Int) ≤ most) = false := decide_eq_false (by omega)
        have hd2 : decide (l.length ≤ most) = false := decide_eq_false (by omega)
        have hd3 : ((l.length : Int) ≤ most) = False := eq_false (by omega)
        have hd4 : (l.length ≤ most) = False := eq_false (by omega)
        clear hf
        go_wp2_with fail
        go_ret
        exact ⟨by rw [HF.out]; rfl, rfl⟩
    · obtain rfl : k = l.length := by omega
      by_cases hle : l.length ≤ most
      · have hf : fewB l most = true := by
          unfold fewB; rw [decide_eq_true hle, List.take_of_length_le (by omega)]
          have := HA.out; rw [List.take_length] at this; rw [this]; rfl
        have HF := hid hf
        have hd : decide ((l.length : Int) ≤ most) = true := decide_eq_true (by omega)
        have hd2 : decide (l.length ≤ most) = true := decide_eq_true (by omega)
        clear hf
        go_wp2_with fail
        go_ret
        exact ⟨by rw [HF.out]; rfl, rfl⟩
      · have hf : fewB l most = false := by unfold fewB; rw [decide_eq_false (by omega)]; rfl
        have HF := hid hf
        have hd : decide ((l.length : Int) ≤ most) = false := decide_eq_false (by omega)
        have hd2 : decide (l.length ≤ most) = false := decide_eq_false (by omega)
        have hd3 : ((l.length : Int) ≤ most) = False := eq_false (by omega)
        have hd4 : (l.length ≤ most) = False := eq_false (by omega)
        clear hf
        go_wp2_with fail
        go_ret
        exact ⟨by rw [HF.out]; rfl, rfl⟩

theorem geti_set (l : List Int) (i j : Nat) (x : Int) (h : i < l.length) : geti (l.set i x) j = if j = i then x else geti l j := by
  unfold geti
  rw [List.getD_eq_getElem?_getD, List.getD_eq_getElem?_getD, List.getElem?_set]
  by_cases e : i = j
  · subst e; simp [h]
  · rw [if_neg e, if_neg fun h => e h.symm]
theorem geti_ext {l m : List Int} (h : l.length = m.length) (e : ∀ i, i < l.length → geti l i = geti m i) : l = m := by
  refine List.ext_getElem h fun i h1 h2 => ?_
  have := e i h1
  unfold geti at this
  rw [List.getD_eq_getElem?_getD, List.getD_eq_getElem?_getD, List.getElem?_eq_getElem h1, List.getElem?_eq_getElem h2] at this
  exact this
theorem geti_at {l : List Int} {i : Nat} (h : i < l.length) : l[i] = geti l i := by
  unfold geti; rw [List.getD_eq_getElem?_getD, List.getElem?_eq_getElem h]; rfl

set_option maxRecDepth 100000 in
set_option maxHeartbeats 1000000 in
theorem of_any (v : Value) (l : List Nd) (ms : List Int) (g : Nat) (mine : Bool) (w : World) (hl : (kSlice kNd).rep (fun x => x < w.heap.size ∧ x ≠ g) w [v] l) (hn : l.length ≤ 3000) (hb : IntsBlk w g ms) (hlen : ms.length = l.length) :
    Calls Try.prog 25 #[v, .slice (some ⟨g, 0, none⟩) l.length l.length, .bool mine] w fun e w' => e = .returned (.slice (some ⟨g, 0, none⟩) l.length l.length) ∧ IntsBlk w' g (ofSide mine l ms) ∧ Upd (· = g) w w' := by
  obtain ⟨a, cap, rfl, h1, h2, h3⟩ := slice_open hl
  have h2 : cap ≤ 9223372036854775807 := h2
  have hni : (l.length : Int) ≤ 3000 := by omega
  have HE := hid h3; have IB := hid hb; have HLEN := hid hlen; have hglt := hb.lt
  clear hl h3 hb hlen
  go_enter Try.func25, Try.ntmps25
  go_wp2_with fail
  go_loopg [11] l.length (fun gg s wr => ∃ (k : Nat) (L : List Int), k ≤ l.length ∧ gg = l.length - k ∧ s = .int .i64 k ∧ IntsBlk wr g L ∧ L.length = l.length ∧ (∀ i, i < l.length → geti L i = if i < k then geti (ofSide mine l ms) i else geti ms i) ∧ Upd (· = g) w wr)
  case atStart => exact ⟨0, ms, Nat.zero_le _, by omega, rfl, IB.out, HLEN.out, fun i _ => rfl, Upd.refl _ _⟩
  case round =>
    clear IB
    obtain ⟨k, L, hk, hg, rfl, ib, hL, hi, u⟩ := hrel
    have UU := hid u; have HG := hid hg; have IB := hid ib; have HL := hid hL; have HI := hid hi
    clear u hg ib hL hi
    have hgw : g < wr.heap.size := IB.out.lt
    by_cases hlt : k < l.length
    · obtain ⟨b, o, rfl, hb, hel⟩ := HE.out (by omega)
      obtain ⟨v', m0, m1, hv⟩ := nd_cells hel hlt
      obtain ⟨a', cap', rfl, _, _, _⟩ := slice_open hv
      have m0 := cell_kept m0 (UU.out.block b hb.1 hb.2)
      have m1 := cell_kept m1 (UU.out.block b hb.1 hb.2)
      have hof := ofSide_at mine l ms k l[k] HLEN.out (List.getElem?_eq_getElem hlt)
      have HOF := hid hof
      have c1 := IB.out.cell (by rw [HL.out]; exact hlt)
      have c2 := IB.out.frozen k
      have hne : wr.heap.size ≠ g := by omega
      clear hel hv hof
      generalize hmi : l[k].mine = mi at *
      generalize l[k].moves.length = ml at *
      have HMI := hid hmi; clear hmi
      by_cases hm : mi = mine
      · subst hm
        clear c1 c2
        have U2 := hid (UU.out.alloc (.cells #[.bool mi, .slice a' ml cap'] 41 (0, 0)))
        have IB2 := hid (IB.out.upd ((Upd.refl (fun _ => False) wr).alloc (.cells #[.bool mi, .slice a' ml cap'] 41 (0, 0))) id)
        go_wp2_with fail
        go_roundg (l.length - (k + 1))
        case measure => have := HG.out; omega
        case rel =>
          refine ⟨k + 1, L, by omega, rfl, by go_num, IB2.out, HL.out, fun i hi => ?_, U2.out⟩
          rw [HI.out i hi]
          by_cases e : i = k
          · subst e
            rw [if_neg (by omega), if_pos (by omega), HOF.out, if_pos trivial]
          · by_cases h : i < k
            · rw [if_pos h, if_pos (by omega)]
            · rw [if_neg h, if_neg (by omega)]
      · obtain rfl : mi = !mine := by cases mi <;> cases mine <;> simp_all
        have HM := hid hm
        have ib2 := (IB.out.set k (-1)).upd ((Upd.refl (fun _ => False) _).alloc (.cells #[.bool (!mine), .slice a' ml cap'] 41 (0, 0))) id
        have u2 := (UU.out.at_ k (.int .i64 (-1))).alloc (.cells #[.bool (!mine), .slice a' ml cap'] 41 (0, 0))
        have IB2 := hid ib2; have U2 := hid u2
        clear hm ib2 u2
        go_wp2_with fail
        go_roundg (l.length - (k + 1))
        case measure => have := HG.out; omega
        case rel =>
          refine ⟨k + 1, L.set k (-1), by omega, rfl, by go_num, IB2.out, by rw [List.length_set]; exact HL.out, fun i hi => ?_, U2.out⟩
          rw [geti_set _ _ _ _ (by rw [HL.out]; exact hlt)]
          by_cases e : i = k
          · subst e
            rw [if_pos rfl, if_pos (by omega), HOF.out, if_neg HM.out]
          · rw [if_neg e, HI.out i hi]
            by_cases h : i < k
            · rw [if_pos h, if_pos (by omega)]
            · rw [if_neg h, if_neg (by omega)]
    · obtain rfl : k = l.length := by omega
      have hq : L = ofSide mine l ms := by
        refine geti_ext (by rw [HL.out, ofSide_len _ _ _ HLEN.out]) fun i hi => ?_
        rw [HL.out] at hi
        rw [HI.out i hi, if_pos hi]
      have HQ := hid hq
      clear hq
      go_wp2_with fail
      go_ret
      exact ⟨rfl, HQ.out ▸ IB.out, UU.out⟩
end Go.Proofs.Ytmjjfafkmfcpnaa
