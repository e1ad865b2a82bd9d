/- Walks: Right, Ints, few, of. -/
import Derived.Test.YtmjjfafkmfcpnaaGmA1
namespace Go.Proofs.Ytmjjfafkmfcpnaa
open Go.RowKit Go.Deep

/-- The nodes from k on are right. -/
theorem right_step {l : List Nd} {k : Nat} (hk : k < l.length) : rightFrom l.length k (l.drop k) = (decide (l[k].moves.length ≤ 8) && l[k].moves.all (okMove l.length k) && rightFrom l.length (k + 1) (l.drop (k + 1))) := by
  rw [List.drop_eq_getElem_cons hk, rightFrom]

set_option maxRecDepth 100000 in
set_option maxHeartbeats 1000000 in
theorem right_any (v : Value) (l : List Nd) (w : World) (hl : (kSlice kNd).rep (· < w.heap.size) w [v] l) :
    Calls Try.prog 18 #[v] w fun e w' => e = .returned (.bool (right l)) ∧ Upd (fun _ => False) w w' := by
  obtain ⟨a, cap, rfl, h1, h2, h3⟩ := slice_open hl
  have h2 : cap ≤ 9223372036854775807 := h2
  have HE := hid h3
  clear hl h3
  by_cases c0 : l.length = 0
  · have e0 : right l = false := by unfold right; rw [decide_eq_false (by omega)]; rfl
    have E0 := hid e0
    have c0b : ((l.length : Int) == 0) = true := beq_iff_eq.2 (by omega)
    clear e0 c0
    go_enter Try.func18, Try.ntmps18
    go_wp2_with fail
    go_ret
    exact ⟨by rw [E0.out]; rfl, (Upd.refl _ _).alloc _⟩
  have c0b : ((l.length : Int) == 0) = false := beq_eq_false_iff_ne.2 (by omega)
  by_cases c1 : 3000 < l.length
  · have e0 : right l = false := by unfold right; rw [decide_eq_false (by omega)]; rfl
    have E0 := hid e0
    have c1b : (3000 : Int) < l.length := by omega
    clear e0 c0 c1
    go_enter Try.func18, Try.ntmps18
    go_wp2_with fail
    go_ret
    exact ⟨by rw [E0.out]; rfl, (Upd.refl _ _).alloc _⟩
  have e0 : right l = rightFrom l.length 0 (l.drop 0) := by unfold right; rw [decide_eq_true (by omega)]; rfl
  have E0 := hid e0
  have c1b : (l.length : Int) ≤ 3000 := by omega
  have B0 := hid (heap_alloc_new (w := w) (o := .cells #[.slice a l.length cap] 22 (0, 0)))
  clear e0 c1
  have eg : ∀ args w, (callFunc 27 args).run Try.prog w = .ok (.enter 27 args) w := enters_of Try.func27 (by kernel_rfl) rfl
  go_enter Try.func18, Try.ntmps18
  go_wp2_with fail
  go_loopg [16] l.length (fun gg s16 wr => ∃ k : Nat, k ≤ l.length ∧ gg = l.length - k ∧ s16 = .int .i64 k ∧ right l = rightFrom l.length k (l.drop k) ∧ Upd (fun _ => False) w wr ∧ wr.heap[w.heap.size]? = some (.cells #[.slice a l.length cap] 22 (0, 0)))
  case atStart => exact ⟨0, Nat.zero_le _, by omega, rfl, E0.out, (Upd.refl _ _).alloc _, B0.out⟩
  case round =>
    clear E0 B0
    obtain ⟨k, hk, hg, rfl, hr, u, hb0⟩ := hrel
    have UU := hid u; have HG := hid hg; have HR := hid hr; have HB := hid hb0
    have hlt0 := heap_lt hb0
    clear u hg hr hb0
    by_cases hlt : k < l.length
    · obtain ⟨b, o, rfl, hb, hel⟩ := HE.out (by omega)
      obtain ⟨v', m0, m1, hv⟩ := nd_cells hel hlt
      have m0 := cell_kept m0 (UU.out.block b hb id)
      have m1 := cell_kept m1 (UU.out.block b hb id)
      have HS := hid (right_step hlt)
      obtain ⟨a', cap', rfl, g1, g2, _⟩ := slice_open hv
      have g2 : cap' ≤ 9223372036854775807 := g2
      have HV := hid hv
      clear hel hv
      generalize hmv : l[k].moves = mvs at *
      generalize hmi : l[k].mine = mi at *
      clear hmv hmi
      by_cases h8 : 8 < mvs.length
      · have h8i : (8 : Int) < mvs.length := by omega
        have hf : right l = false := by rw [HR.out, HS.out, decide_eq_false (by omega)]; rfl
        have HF := hid hf
        clear hf
        go_wp2_with fail
        go_ret
        exact ⟨by rw [HF.out]; rfl, (UU.out.alloc _).alloc _⟩
      · have h8i : (mvs.length : Int) ≤ 8 := by omega
        have u2 := ((Upd.refl (fun _ => False) wr).alloc (.cells #[.int .i64 k] 3 (0, 0))).alloc (.cells #[.bool mi, .slice a' mvs.length cap'] 41 (0, 0))
        have hrep := (kSlice kMv).mono ((kSlice kMv).keep HV.out (Same.of_upd ((UU.out).trans u2) fun _ _ => id)) fun x hx => Nat.lt_of_lt_of_le hx ((UU.out).trans u2).size
        have hp : PredM mvs 27 #[.pointer (some ⟨wr.heap.size, 0, none⟩), .pointer (some ⟨w.heap.size, 0, none⟩)] (fun m => !okMove l.length k m) ((wr.alloc (.cells #[.int .i64 k] 3 (0, 0))).alloc (.cells #[.bool mi, .slice a' mvs.length cap'] 41 (0, 0))) := by
          intro W m _ hW _ _
          refine wrong_any m l.length k wr.heap.size w.heap.size (some ⟨b, o, none⟩) cap W ?_ ?_
          · have hh : ((wr.alloc (.cells #[.int .i64 k] 3 (0, 0))).alloc (.cells #[.bool mi, .slice a' mvs.length cap'] 41 (0, 0))).heap[wr.heap.size]? = some (.cells #[.int .i64 k] 3 (0, 0)) := by
              rw [heap_alloc_old (by simp)]; exact heap_alloc_new
            rw [cell_of_block ((hW.block _ (heap_lt hh) id).trans hh)]; rfl
          · have hh := (u2.block _ hlt0 id).trans HB.out
            rw [cell_of_block ((hW.block _ (heap_lt hh) id).trans hh)]; rfl
        have HP := hid hp
        have U2 := hid u2; have HREP := hid hrep
        clear hp u2 hrep HV
        go_wp2_with fail
        refine (containsFunc_any _ mvs _ _ _ eg _ HREP.out HP.out).mono ?_
        rintro e w3 ⟨rfl, u3⟩
        have U3 := hid (U2.out.trans u3)
        clear u3 HP HREP U2
        have hany : (mvs.any fun m => !okMove l.length k m) = !mvs.all (okMove l.length k) := by rw [List.not_all_eq_any_not]
        rw [hany]
        cases hal : mvs.all (okMove l.length k)
        · have hf : right l = false := by rw [HR.out, HS.out, hal]; simp
          have HF := hid hf
          clear hf hal hany
          go_wp2_with fail
          go_ret
          exact ⟨by rw [HF.out]; rfl, UU.out.trans U3.out⟩
        · have hf : right l = rightFrom l.length (k + 1) (l.drop (k + 1)) := by rw [HR.out, HS.out, hal, decide_eq_true (by omega)]; simp
          have HF := hid hf
          clear hf hal hany
          go_wp2_with fail
          go_roundg (l.length - (k + 1))
          case measure => have := HG.out; omega
          case rel => exact ⟨k + 1, by omega, rfl, by go_num, HF.out, UU.out.trans U3.out, (U3.out.block _ hlt0 id).trans HB.out⟩
    · obtain rfl : k = l.length := by omega
      have hf : right l = true := by rw [HR.out, List.drop_length]; rfl
      have HF := hid hf
      clear hf
      go_wp2_with fail
      go_ret
      exact ⟨by rw [HF.out]; rfl, UU.out⟩

set_option maxHeartbeats 1000000 in
theorem ints_any (v1 v2 : Value) (l1 l2 : List Int) (w : World) (h1 : kInts.rep (· < w.heap.size) w [v1] l1) (h2 : kInts.rep (· < w.heap.size) w [v2] l2) :
    Calls Try.prog 20 #[v1, v2] w fun e w' => e = .returned (.bool (decide (l1 = l2))) ∧ Upd (fun _ => False) w w' := by
  obtain ⟨a1, cap1, rfl, p1, p2, p3⟩ := slice_open h1
  obtain ⟨a2, cap2, rfl, q1, q2, q3⟩ := slice_open h2
  have p2 : cap1 ≤ 9223372036854775807 := p2
  have q2 : cap2 ≤ 9223372036854775807 := q2
  have H1 := hid p3; have H2 := hid q3
  clear h1 h2 p3 q3
  by_cases hlen : l1.length = l2.length
  · have hb : ((l1.length : Int) != l2.length) = false := by rw [hlen]; simp
    have hb2 : (l1.length != l2.length) = false := by rw [hlen]; simp
    have HL := hid hlen
    clear hlen
    go_enter Try.func20, Try.ntmps20
    go_wp2_with fail
    go_loopg [5] l1.length (fun gg s5 wr => ∃ k : Nat, k ≤ l1.length ∧ gg = l1.length - k ∧ s5 = .int .i64 k ∧ (∀ i (h : i < l1.length) (h' : i < l2.length), i < k → l1[i] = l2[i]) ∧ Upd (fun _ => False) w wr)
    case atStart => exact ⟨0, Nat.zero_le _, by omega, rfl, fun i _ _ h => absurd h (Nat.not_lt_zero _), Upd.refl _ _⟩
    case round =>
      obtain ⟨k, hk, hg, rfl, he, u⟩ := hrel
      have UU := hid u; have HG := hid hg; have EQ := hid he
      clear u hg he
      by_cases hlt : k < l1.length
      · obtain ⟨b1, o1, rfl, hb1, hel1⟩ := H1.out (by omega)
        have hlt2 : k < l2.length := by have := HL.out; omega
        obtain ⟨b2, o2, rfl, hb2', hel2⟩ := H2.out (by omega)
        have m1 := cell_kept (int_cells hel1 hlt) (UU.out.block b1 hb1 id)
        have m2 := cell_kept (int_cells hel2 hlt2) (UU.out.block b2 hb2' id)
        clear hel1 hel2
        by_cases hx : l1[k] = l2[k]
        · have hxb : (l1[k] != l2[k]) = false := by rw [hx]; simp
          have HX := hid hx
          clear hx
          go_wp2_with fail
          go_quiet (fail)
          go_wp2_with fail
          go_roundg (l1.length - (k + 1))
          case measure => have := HG.out; omega
          case rel =>
            refine ⟨k + 1, by omega, rfl, by go_num, fun i h h' hi => ?_, UU.out.drewN _⟩
            by_cases e : i = k
            · subst e; exact HX.out
            · exact EQ.out i h h' (by omega)
        · have hxb : (l1[k] != l2[k]) = true := by simpa using hx
          have hd : decide (l1 = l2) = false := decide_eq_false fun e => hx (by simp [e])
          have HD := hid hd
          clear hx hd
          go_wp2_with fail
          go_quiet (fail)
          go_wp2_with fail
          go_ret
          exact ⟨by rw [HD.out]; rfl, UU.out.drewN _⟩
      · have hd : decide (l1 = l2) = true := decide_eq_true (List.ext_getElem HL.out fun i h h' => EQ.out i h h' (by omega))
        obtain rfl : k = l1.length := by omega
        have HD := hid hd
        clear hd
        go_wp2_with fail
        go_ret
        exact ⟨by rw [HD.out]; rfl, UU.out⟩
  · have hb : ((l1.length : Int) != l2.length) = true := by rw [bne_iff_ne]; omega
    have hb2 : (l1.length != l2.length) = true := by rw [bne_iff_ne]; omega
    have hd : decide (l1 = l2) = false := decide_eq_false fun e => hlen (by rw [e])
    have HD := hid hd
    clear hd hlen
    go_enter Try.func20, Try.ntmps20
    go_wp2_with fail
    go_ret
    exact ⟨by rw [HD.out]; rfl, Upd.refl _ _⟩
end Go.Proofs.Ytmjjfafkmfcpnaa
