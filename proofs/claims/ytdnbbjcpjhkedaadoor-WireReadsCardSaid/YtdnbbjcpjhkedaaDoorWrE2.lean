/- few, exactly. -/
import Derived.Test.YtdnbbjcpjhkedaaDoorWrE1
namespace Go.Proofs.YtdnbbjcpjhkedaaDoor
open Go.RowKit Go.Deep

def tl (t : List (List UInt8)) : Nat := (t.map List.length).sum
def vtot (v : Vl) : Nat := v.s.length + v.l.length + v.t.length + tl v.t
def tot (l : List Vl) : Nat := (l.map vtot).sum
open Classical in
noncomputable def fewB (l : List Vl) : Bool := decide (Few l ∧ tot l ≤ 400)
open Classical in
theorem fewB_iff {l : List Vl} : fewB l = true ↔ Few l ∧ tot l ≤ 400 := by
  unfold fewB; exact decide_eq_true_iff
theorem fewB_no {l : List Vl} (h : ¬ Few l) : fewB l = false := by
  cases e : fewB l with
  | false => rfl
  | true => exact absurd (fewB_iff.1 e).1 h
theorem fewB_few {l : List Vl} (h : fewB l = true) : Few l := (fewB_iff.1 h).1
theorem fewB_yes {l : List Vl} (h : Few l) : fewB l = decide (tot l ≤ 400) := by
  by_cases e : tot l ≤ 400
  · rw [decide_eq_true e]; exact fewB_iff.2 ⟨h, e⟩
  · rw [decide_eq_false e]
    cases e2 : fewB l with
    | false => rfl
    | true => exact absurd (fewB_iff.1 e2).2 e
theorem tot_snoc (l : List Vl) (i : Nat) (h : i < l.length) : tot (l.take (i + 1)) = tot (l.take i) + vtot l[i] := by
  unfold tot
  rw [List.take_succ_eq_append_getElem h, List.map_append, List.sum_append]; simp
theorem tl_snoc (t : List (List UInt8)) (i : Nat) (h : i < t.length) : tl (t.take (i + 1)) = tl (t.take i) + t[i].length := by
  unfold tl
  rw [List.take_succ_eq_append_getElem h, List.map_append, List.sum_append]; simp
theorem vtot_fin {a b vk vn : _} {vs : List UInt8} {vl : List Int} {vt : List (List UInt8)} {n n1 nn : Int} (h1 : a = b + vtot ⟨vk, vn, vs, vl, vt⟩) (h2 : n = (b : Nat)) (h3 : n1 = n + vs.length + vl.length + vt.length) (h4 : nn = n1 + (tl (vt.take vt.length) : Nat)) : nn = (a : Nat) := by
  rw [List.take_length] at h4
  unfold vtot at h1
  dsimp only at h1
  omega
def FewEPost (l : List Vl) (w : World) (e : Ending) (w' : World) : Prop := e = .returned (.bool (fewB l)) ∧ Upd (fun _ => False) w w'
theorem fewE_no {l : List Vl} {w w' : World} (h : ¬ Few l) (u : Upd (fun _ => False) w w') : FewEPost l w (.returned (.bool false)) w' := ⟨by rw [fewB_no h], u⟩
theorem fewE_f {l : List Vl} {w w' : World} (h : fewB l = false) (u : Upd (fun _ => False) w w') : FewEPost l w (.returned (.bool false)) w' := ⟨by rw [h], u⟩
theorem few_fin {l : List Vl} {w w' : World} {n : Int} (h : Few l) (hn : n = (tot (l.take l.length) : Nat)) (u : Upd (fun _ => False) w w') : FewEPost l w (.returned (.bool (decide (n ≤ 400)))) w' := by
  rw [List.take_length] at hn
  refine ⟨?_, u⟩
  rw [fewB_yes h, hn]
  congr 2
  by_cases e : tot l ≤ 400
  · rw [decide_eq_true e, decide_eq_true]; omega
  · rw [decide_eq_false e, decide_eq_false]; omega

set_option maxRecDepth 100000 in
set_option maxHeartbeats 2000000 in
theorem fewE_any (v : Value) (l : List Vl) (w : World) (hl : (kSlice kVl).rep (· < w.heap.size) w [v] l) :
    Calls Tryd.prog 10 #[v] w (FewEPost l w) := by
  have HL := hid hl
  obtain ⟨a, cap, rfl, h1, h2, _⟩ := slice_open hl
  have h2 : cap ≤ 9223372036854775807 := h2
  clear hl
  by_cases h20 : 20 < l.length
  · have h20i : (20 : Int) < l.length := by omega
    go_enter Tryd.func10, Tryd.ntmps10
    go_wp2_with fail
    go_ret
    exact fewE_no (fun h => by have := h.1; omega) (Upd.refl _ _)
  have h20i : (l.length : Int) ≤ 20 := by omega
  go_enter Tryd.func10, Tryd.ntmps10
  go_wp2_with fail
  go_loopg [3, 4] l.length (fun gg s3 s4 wr => ∃ (i : Nat) (n : Int), i ≤ l.length ∧ gg = l.length - i ∧ n = (tot (l.take i) : Nat) ∧ s3 = .int .i64 n ∧ s4 = .int .i64 i ∧ (0 ≤ n ∧ n ≤ 200000 * i) ∧ (∀ j (h : j < l.length), j < i → FewV l[j]) ∧ Upd (fun _ => False) w wr)
  case atStart => exact ⟨0, 0, Nat.zero_le _, rfl, by simp [tot], rfl, rfl, by omega, fun j _ h => by omega, Upd.refl _ _⟩
  case round =>
    obtain ⟨i, n, hi, hg, htt, rfl, rfl, hn, hf, u⟩ := hrel
    have HTT := hid htt; clear htt
    have HG := hid hg; have HF := hid hf; have U := hid u
    clear hg hf u
    by_cases hlt : i < l.length
    · have hlti : (i : Int) < l.length := by omega
      obtain ⟨b, o, ra, hb, hel⟩ := slice_at HL.out (by omega)
      subst ra
      obtain ⟨a1, d1, a2, d2, ⟨g1, g2, g3, g4, _, _, g5, g6, g7⟩, _, _, c2, c3, c4⟩ := vl_cells hel hlt
      have g2 : d1 ≤ 9223372036854775807 := g2
      have g4 : d2 ≤ 9223372036854775807 := g4
      have g5 : l[i].s.length ≤ 9223372036854775807 := g5
      have HT := hid g7
      have c2 := cell_kept c2 (U.out.block b hb id)
      have c3 := cell_kept c3 (U.out.block b hb id)
      have c4 := cell_kept c4 (U.out.block b hb id)
      have fv : FewV l[i] → ∀ j (h : j < l.length), j < i + 1 → FewV l[j] := fun h j hj hji => by
        by_cases e : j = i
        · subst e; exact h
        · exact HF.out j hj (by omega)
      have FV := hid fv
      have TN := hid (tot_snoc l i hlt)
      have NO := hid (fun (h : ¬ FewV l[i]) => fewB_no fun hf => h (hf.2 _ (List.getElem_mem hlt)))
      clear hel g6 g7 fv
      generalize l[i] = v at *
      obtain ⟨vk, vn, vs, vl, vt⟩ := v
      dsimp only at *
      by_cases q1 : 400 < vl.length
      · have q1i : (400 : Int) < vl.length := by omega
        have NB := hid (NO.out fun h => by have := h.2.1; dsimp only at this; omega)
        clear q1
        go_wp2_with fail
        go_ret
        exact fewE_f NB.out U.out
      have q1i : (vl.length : Int) ≤ 400 := by omega
      have q1b : decide (400 < (vl.length : Int)) = false := decide_eq_false (by omega)
      have q1n : decide (400 < vl.length) = false := decide_eq_false q1
      by_cases q2 : 400 < vt.length
      · have q2i : (400 : Int) < vt.length := by omega
        have NB := hid (NO.out fun h => by have := h.2.2.1; dsimp only at this; omega)
        clear q1 q2
        go_wp2_with fail
        go_ret
        exact fewE_f NB.out U.out
      have q2i : (vt.length : Int) ≤ 400 := by omega
      have q2b : decide (400 < (vt.length : Int)) = false := decide_eq_false (by omega)
      have q2n : decide (400 < vt.length) = false := decide_eq_false q2
      by_cases q3 : 400 < vs.length
      · have q3i : (400 : Int) < vs.length := by omega
        have NB := hid (NO.out fun h => by have := h.1; dsimp only at this; omega)
        clear q1 q2 q3
        go_wp2_with fail
        go_ret
        exact fewE_f NB.out U.out
      have q3i : (vs.length : Int) ≤ 400 := by omega
      have q3b : decide (400 < (vs.length : Int)) = false := decide_eq_false (by omega)
      have q3n : decide (400 < vs.length) = false := decide_eq_false q3
      have Q := hid (And.intro q1 (And.intro q2 q3))
      have w1 : IntKind.i64.wrap (n + vs.length) = n + vs.length := IntWalk.i64_in _ (by omega)
      have w2 : IntKind.i64.wrap (n + vs.length + vl.length) = n + vs.length + vl.length := IntWalk.i64_in _ (by omega)
      have w3 : IntKind.i64.wrap (n + vs.length + vl.length + vt.length) = n + vs.length + vl.length + vt.length := IntWalk.i64_in _ (by omega)
      clear q1 q2 q3
      go_upto_region 9 with (fail)
      go_cut [3] (fun s wx => s = .int .i64 (n + vs.length + vl.length + vt.length) ∧ Upd (fun _ => False) wr wx)
      case first =>
        go_wp2_with fail
        go_quiet (fail)
        go_wp2_with fail
        go_meet
        case rel => exact ⟨rfl, (Upd.refl _ _).drewN _⟩
      case rest =>
        obtain ⟨rfl, uc⟩ := hcut
        have U := hid (U.out.trans uc)
        have c4 := cell_kept c4 (uc.block b (World.block_lt_of_cell? _ _ c4) id)
        clear uc w1 w2 w3 c2 c3 q1b q1n q2b q2n q3b q3n
        obtain ⟨n1, HN1⟩ : ∃ n1 : Int, n1 = n + vs.length + vl.length + vt.length := ⟨_, rfl⟩
        have hn1 : 0 ≤ n1 ∧ n1 ≤ 200000 * i + 1200 := by omega
        rw [← HN1]
        have HN1 := hid HN1
        go_wp2_with fail
        have C4 := hid c4
        clear c4
        go_loopg [3, 5] vt.length (fun gg s3 s5 wx => ∃ (k : Nat) (nn : Int), k ≤ vt.length ∧ gg = vt.length - k ∧ s3 = .int .i64 nn ∧ s5 = .int .i64 k ∧ nn = n1 + (tl (vt.take k) : Nat) ∧ (0 ≤ nn ∧ nn ≤ 200000 * i + 1200 + 400 * k) ∧ (∀ j (h : j < vt.length), j < k → vt[j].length ≤ 400) ∧ Upd (fun _ => False) wc wx)
        case atStart => exact ⟨0, n1, Nat.zero_le _, rfl, rfl, rfl, by simp [tl], by omega, fun j _ h => by omega, Upd.refl _ _⟩
        case round =>
          obtain ⟨k, nn, hk, hgk, rfl, rfl, hnt, hnn, hf2, u2⟩ := hrel
          have HNT := hid hnt; clear hnt
          have HGK := hid hgk; have HF2 := hid hf2; have U2 := hid u2
          have c4 := cell_kept C4.out (u2.block b (World.block_lt_of_cell? _ _ C4.out) id)
          clear hgk hf2 u2
          by_cases hkl : k < vt.length
          · have hki : (k : Int) < vt.length := by omega
            obtain ⟨b2, o2, ra, hb2, hel2⟩ := slice_at HT.out (by omega)
            subst ra
            have c5 := str_cells hel2 hkl
            have c5 := cell_kept c5 ((U.out.trans U2.out).block b2 hb2 id)
            have fs : vt[k].length ≤ 400 → ∀ j (h : j < vt.length), j < k + 1 → vt[j].length ≤ 400 := fun h j hj hjk => by
              by_cases e : j = k
              · subst e; exact h
              · exact HF2.out j hj (by omega)
            have FS := hid fs
            have TS := hid (tl_snoc vt k hkl)
            have NX := hid (fun (h : ¬ vt[k].length ≤ 400) => NO.out fun hf => h (hf.2.2.2 _ (List.getElem_mem hkl)))
            clear hel2 fs
            generalize vt[k] = x at *
            by_cases qx : 400 < x.length
            · have qxi : (400 : Int) < x.length := by omega
              have NB := hid (NX.out (by omega))
              clear qx
              go_wp2_with fail
              go_ret
              exact fewE_f NB.out (U.out.trans U2.out)
            · have qxi : (x.length : Int) ≤ 400 := by omega
              have QX := hid (FS.out (by omega))
              clear qx
              go_wp2_with fail
              go_roundg (vt.length - (k + 1))
              case measure => have := HGK.out; omega
              case rel => exact ⟨k + 1, _, by omega, rfl, rfl, by go_num, by have := TS.out; have := HNT.out; omega, by omega, QX.out, U2.out⟩
          · obtain rfl : k = vt.length := by omega
            have hfv := FV.out ⟨by have := Q.out; dsimp only; omega, by have := Q.out; dsimp only; omega, by have := Q.out; dsimp only; omega, fun x hx => by
              obtain ⟨j, hj, rfl⟩ := List.mem_iff_getElem.1 hx
              exact HF2.out j hj hj⟩
            have HFV := hid hfv
            clear hfv
            go_wp2_with fail
            go_roundg (l.length - (i + 1))
            case measure => have := HG.out; omega
            case rel => exact ⟨i + 1, nn, by omega, rfl, (vtot_fin TN.out HTT.out HN1.out HNT.out), rfl, by go_num, by omega, HFV.out, U.out.trans U2.out⟩
    · obtain rfl : i = l.length := by omega
      have hfew : Few l := ⟨by omega, fun v hv => by
        obtain ⟨j, hj, rfl⟩ := List.mem_iff_getElem.1 hv
        exact HF.out j hj hj⟩
      have HFEW := hid hfew
      clear hfew
      go_wp2_with fail
      go_ret
      exact few_fin HFEW.out HTT.out U.out
end Go.Proofs.YtdnbbjcpjhkedaaDoor
