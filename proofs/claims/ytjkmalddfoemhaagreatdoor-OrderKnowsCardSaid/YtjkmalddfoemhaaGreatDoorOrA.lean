/- Walks: whether a setup is right (Right), the quorum (Quorum), the value of a proposal (Value). -/
import Derived.Test.YtjkmalddfoemhaaGreatDoorRm
import Derived.Test.YtjkmalddfoemhaaGreatDoorOrBase
namespace Go.Proofs.YtjkmalddfoemhaaGreatDoor
open Go.RowKit Go.Deep

theorem cells3s {w : World} {p : Nat} {a b c : Value} {t : TypeId} (h : w.heap[p]? = some (.cells #[a, b, c] t (0, 0))) : w.cell? ⟨p, 0, none⟩ = some a ∧ w.cell? ⟨p, 1, none⟩ = some b ∧ w.cell? ⟨p, 2, none⟩ = some c := by
  refine ⟨?_, ?_, ?_⟩ <;> (rw [cell_of_block h]; rfl)
def SRightPost (s : Stp) (w : World) (e : Ending) (w' : World) : Prop := (∃ b, e = .returned (.bool b) ∧ (b = true ↔ StpOk s)) ∧ Upd (fun _ => False) w w'
set_option maxRecDepth 100000 in
set_option maxHeartbeats 4000000 in
theorem sright_any {A : Nat → Prop} {s : Stp} {ak : Option Addr} {ck : Nat} {w : World} (h : StpAt w A s ak ck) (_ : ∀ g, A g → g < w.heap.size) (hl : s.keys.length ≤ 1000) : Calls Tryz.prog 57 #[stpV s ak ck] w (SRightPost s w) := by
  obtain ⟨W1, hW1⟩ : ∃ W1, W1 = w.alloc (.cells #[.slice ak s.keys.length ck, .int .i64 s.liars, .int .i64 s.seed] 60 (0, 0)) := ⟨_, rfl⟩
  have u1 : Upd (fun _ => False) w W1 := by rw [hW1]; exact (Upd.refl _ _).alloc _
  have HB := hid (show W1.heap[w.heap.size]? = some (.cells #[.slice ak s.keys.length ck, .int .i64 s.liars, .int .i64 s.seed] 60 (0, 0)) by rw [hW1]; exact heap_alloc_new)
  have HS := hid (h.keep u1); have U := hid u1; have HW := hid hW1
  have CELL := hid (fun (hp : 0 < s.keys.length) => (show ∃ g o, ak = some ⟨g, o, none⟩ ∧ ∀ k (hk : k < s.keys.length), W1.cell? ⟨g, o + k, none⟩ = some (.int .i64 s.keys[k]) from by
    obtain ⟨a, c, e, _, _, h3⟩ := slice_open HS.out.keys
    obtain ⟨g, o, ea, hg, hel⟩ := h3 hp
    injection e with e1 _ _
    exact ⟨g, o, by rw [e1, ea], fun k hk => int_cells hel hk⟩))
  have hc1 := h.cap.1; have hc2 := h.cap.2
  have HLI := hid h.liars; have HSD := hid h.seed
  obtain ⟨n, hn⟩ : ∃ n, s.keys.length = n := ⟨_, rfl⟩
  have HN := hid hn
  obtain ⟨p, hp⟩ : ∃ p, w.heap.size = p := ⟨_, rfl⟩
  rw [hp] at HB
  have HP := hid hp
  obtain ⟨li, hli⟩ : ∃ x, s.liars = x := ⟨_, rfl⟩
  obtain ⟨sd, hsd⟩ : ∃ x, s.seed = x := ⟨_, rfl⟩
  rw [hli] at HB HW HLI
  rw [hsd] at HB HW HSD
  rw [hn] at HB HW hc1 hl
  have OKI := hid (show StpOk s ↔ (∀ i (hi : i < s.keys.length), 0 ≤ s.keys[i] ∧ s.keys[i] < 200 ∧ (0 < i → s.keys[i - 1] < s.keys[i])) ∧ (0 ≤ li ∧ 3 * li < n) ∧ (0 ≤ sd ∧ sd ≤ 1099511627776) from ⟨fun q => ⟨q.keys, by rw [← hli, ← hn]; exact q.liars, by rw [← hsd]; exact q.seed⟩, fun q => ⟨q.1, by rw [hli, hn]; exact q.2.1, by rw [hsd]; exact q.2.2⟩⟩)
  unfold stpV
  rw [hn, hli, hsd]
  clear hW1 u1 h hp hn hli hsd
  go_enter Tryz.func57, Tryz.ntmps57
  go_upto_region 1 with (fail)
  rw [← HW.out]
  try rw [HP.out]
  obtain ⟨m0, m1, m2⟩ := cells3s HB.out
  clear HW HP
  go_wp2_with fail
  go_loopg [3, 4, 8] n (fun gg _ _ s8 wr => ∃ k : Nat, k ≤ n ∧ gg = n - k ∧ s8 = .int .i64 k ∧ (∀ i (hi : i < s.keys.length), i < k → 0 ≤ s.keys[i] ∧ s.keys[i] < 200 ∧ (0 < i → s.keys[i - 1] < s.keys[i])) ∧ W1 = wr)
  case atStart => exact ⟨0, Nat.zero_le _, rfl, rfl, fun i _ q => absurd q (Nat.not_lt_zero _), rfl⟩
  case round =>
    obtain ⟨k, hk, hg, rfl, hf, rfl⟩ := hrel
    have HG := hid hg; have HF := hid hf
    clear hg hf
    by_cases hlt : k < n
    case pos =>
      as_aux_lemma =>
      have hlti : (k : Int) < n := by omega
      have hk1 : (k : Int) + 1 ≤ 100000 := by omega
      have hkl : k < s.keys.length := by rw [HN.out]; exact hlt
      obtain ⟨g, o, rfl, hcell⟩ := CELL.out (by rw [HN.out]; omega)
      have c0 := hcell k hkl
      have NO := hid (fun (q : StpOk s) => (OKI.out.1 q).1 k hkl)
      have YES := hid (fun (q : 0 ≤ s.keys[k] ∧ s.keys[k] < 200 ∧ (0 < k → s.keys[k - 1] < s.keys[k])) => (show ∀ i (hi : i < s.keys.length), i < k + 1 → 0 ≤ s.keys[i] ∧ s.keys[i] < 200 ∧ (0 < i → s.keys[i - 1] < s.keys[i]) from fun i hi hik => by
        by_cases e : i = k
        · subst e; exact q
        · exact HF.out i hi (by omega)))
      have HC := hid hcell
      obtain ⟨x, hx⟩ : ∃ x, s.keys[k] = x := ⟨_, rfl⟩
      rw [hx] at c0 NO YES
      clear hcell hx
      by_cases t1 : x < 0
      case pos =>
        have d1 : decide (x < 0) = true := decide_eq_true t1
        go_wp2_with fail
        go_ret
        exact ⟨⟨false, rfl, fun q => (nomatch q), fun q => absurd (NO.out q).1 (by omega)⟩, U.out⟩
      have d1 : decide (x < 0) = false := decide_eq_false t1
      by_cases t2 : 200 ≤ x
      case pos =>
        have d2 : decide (200 ≤ x) = true := decide_eq_true t2
        go_wp2_with fail
        go_ret
        exact ⟨⟨false, rfl, fun q => (nomatch q), fun q => absurd (NO.out q).2.1 (by omega)⟩, U.out⟩
      have d2 : decide (200 ≤ x) = false := decide_eq_false t2
      by_cases k0 : k = 0
      case pos =>
        subst k0
        rw [Nat.add_zero] at c0
        have NX := hid (YES.out ⟨by omega, by omega, fun q => absurd q (Nat.lt_irrefl _)⟩)
        go_wp2_with fail
        go_roundg (n - (0 + 1))
        case measure => have := HG.out; omega
        case rel => exact ⟨1, by omega, rfl, by go_num, NX.out, rfl⟩
      obtain ⟨j, hjk⟩ : ∃ j, k = j + 1 := ⟨k - 1, by omega⟩
      have hjl : j < s.keys.length := by omega
      have c3 := HC.out j hjl
      have hjn : k - 1 = j := by omega
      have hkk : s.keys[k - 1] = s.keys[j] := by simp only [hjn]
      have NO2 := hid (fun (q : StpOk s) => (show s.keys[j] < x from by rw [← hkk]; exact (NO.out q).2.2 (by omega)))
      have YES2 := hid (fun (q : s.keys[j] < x) => YES.out ⟨by omega, by omega, fun _ => by rw [hkk]; exact q⟩)
      obtain ⟨y, hy⟩ : ∃ y, s.keys[j] = y := ⟨_, rfl⟩
      rw [hy] at c3 NO2 YES2
      have e1 : IntKind.i64.wrap ((k : Int) - 1) = (j : Int) := by rw [IntWalk.i64_in _ (by omega)]; omega
      have e2 : (0 : Int) ≤ j := by omega
      have e3 : (j : Int) < n := by omega
      have e4 : (0 : Int) < k := by omega
      have e5 : 0 < k := by omega
      have d4 : decide ((0 : Int) < (k : Int)) = true := decide_eq_true e4
      have d5 : decide (0 < k) = true := decide_eq_true e5
      clear HC hy hjn hkk k0 hjk
      by_cases t3 : x ≤ y
      case pos =>
        have d3 : decide (x ≤ y) = true := decide_eq_true t3
        go_wp2_with fail
        go_ret
        exact ⟨⟨false, rfl, fun q => (nomatch q), fun q => absurd (NO2.out q) (by omega)⟩, U.out⟩
      have d3 : decide (x ≤ y) = false := decide_eq_false t3
      have NX := hid (YES2.out (by omega))
      go_wp2_with fail
      go_roundg (n - (k + 1))
      case measure => have := HG.out; omega
      case rel => exact ⟨k + 1, by omega, rfl, by go_num, NX.out, rfl⟩
    as_aux_lemma =>
    have hlti : ¬ (k : Int) < n := by omega
    have KEYS := hid (show ∀ i (hi : i < s.keys.length), 0 ≤ s.keys[i] ∧ s.keys[i] < 200 ∧ (0 < i → s.keys[i - 1] < s.keys[i]) from fun i hi => HF.out i hi (by rw [HN.out] at hi; omega))
    clear HG HF CELL
    by_cases ta : 0 ≤ li
    case neg =>
      have dta : decide (0 ≤ li) = false := decide_eq_false ta
      go_wp2_with fail
      go_ret
      exact ⟨⟨false, rfl, fun q => (nomatch q), fun q => absurd (OKI.out.1 q).2 fun z => by omega⟩, U.out⟩
    have dta : decide (0 ≤ li) = true := decide_eq_true ta
    by_cases tb : li < n
    case neg =>
      have dtb : decide (li < n) = false := decide_eq_false tb
      go_wp2_with fail
      go_ret
      exact ⟨⟨false, rfl, fun q => (nomatch q), fun q => absurd (OKI.out.1 q).2 fun z => by omega⟩, U.out⟩
    have dtb : decide (li < n) = true := decide_eq_true tb
    have s0 : 3 * li ≤ 9223372036854775807 := by omega
    have s1 : -9223372036854775808 ≤ 3 * li := by omega
    by_cases tc : 3 * li < n
    case neg =>
      have dtc : decide (3 * li < n) = false := decide_eq_false tc
      go_wp2_with fail
      go_ret
      exact ⟨⟨false, rfl, fun q => (nomatch q), fun q => absurd (OKI.out.1 q).2 fun z => by omega⟩, U.out⟩
    have dtc : decide (3 * li < n) = true := decide_eq_true tc
    by_cases td : 0 ≤ sd
    case neg =>
      have dtd : decide (0 ≤ sd) = false := decide_eq_false td
      go_wp2_with fail
      go_ret
      exact ⟨⟨false, rfl, fun q => (nomatch q), fun q => absurd (OKI.out.1 q).2 fun z => by omega⟩, U.out⟩
    have dtd : decide (0 ≤ sd) = true := decide_eq_true td
    by_cases te : sd ≤ 1099511627776
    case neg =>
      have dte : decide (sd ≤ 1099511627776) = false := decide_eq_false te
      go_wp2_with fail
      go_ret
      exact ⟨⟨false, rfl, fun q => (nomatch q), fun q => absurd (OKI.out.1 q).2 fun z => by omega⟩, U.out⟩
    have dte : decide (sd ≤ 1099511627776) = true := decide_eq_true te
    go_wp2_with fail
    go_ret
    exact ⟨⟨true, rfl, fun _ => OKI.out.2 ⟨KEYS.out, ⟨ta, tc⟩, td, te⟩, fun _ => rfl⟩, U.out⟩
set_option maxRecDepth 100000 in
set_option maxHeartbeats 4000000 in
theorem quorum_any {A : Nat → Prop} {s : Stp} {ak : Option Addr} {ck : Nat} {w : World} (h : StpAt w A s ak ck) (hA : ∀ g, A g → g < w.heap.size) (hl : s.keys.length ≤ 1000) (ok : StpOk s) : Calls Tryz.prog 71 #[stpV s ak ck] w fun e w' => e = .returned (.int .i64 (quorumF s)) ∧ Upd (fun _ => False) w w' := by
  obtain ⟨W1, hW1⟩ : ∃ W1, W1 = w.alloc (.cells #[.slice ak s.keys.length ck, .int .i64 s.liars, .int .i64 s.seed] 60 (0, 0)) := ⟨_, rfl⟩
  have u1 : Upd (fun _ => False) w W1 := by rw [hW1]; exact (Upd.refl _ _).alloc _
  have HB := hid (show W1.heap[w.heap.size]? = some (.cells #[.slice ak s.keys.length ck, .int .i64 s.liars, .int .i64 s.seed] 60 (0, 0)) by rw [hW1]; exact heap_alloc_new)
  have HS := hid (h.keep u1); have U := hid u1; have HW := hid hW1
  have HA := hid (fun g (q : A g) => (show g < W1.heap.size from Nat.lt_of_lt_of_le (hA g q) u1.size))
  have HL := hid hl; have HOK := hid ok
  have hc1 := h.cap.1; have hc2 := h.cap.2
  have hli := ok.liars
  obtain ⟨p, hp⟩ : ∃ p, w.heap.size = p := ⟨_, rfl⟩
  rw [hp] at HB
  have HP := hid hp
  have hq0 : 0 ≤ (s.keys.length : Int) + s.liars := by omega
  have hq2 : Int.tdiv ((s.keys.length : Int) + s.liars) 2 = ((s.keys.length : Int) + s.liars) / 2 := Int.tdiv_eq_ediv_of_nonneg hq0
  have s0 : (s.keys.length : Int) + s.liars ≤ 9223372036854775807 := by omega
  have s1 : -9223372036854775808 ≤ (s.keys.length : Int) + s.liars := by omega
  obtain ⟨hf, hhf⟩ : ∃ x, Int.tdiv ((s.keys.length : Int) + s.liars) 2 = x := ⟨_, rfl⟩
  have s2 : -9223372036854775808 ≤ Int.tdiv ((s.keys.length : Int) + s.liars) 2 := by rw [hq2]; omega
  have s3 : Int.tdiv ((s.keys.length : Int) + s.liars) 2 ≤ 9223372036854775807 := by rw [hq2]; omega
  have s4 : hf + 1 ≤ 9223372036854775807 := by rw [← hhf, hq2]; omega
  have s5 : -9223372036854775808 ≤ hf + 1 := by rw [← hhf, hq2]; omega
  have QF := hid (show quorumF s = hf + 1 by unfold quorumF; rw [← hhf, hq2])
  have HHF := hid hhf
  clear hW1 u1 h hp hA hl ok hq0 hq2 hhf
  unfold stpV
  go_enter Tryz.func71, Tryz.ntmps71
  go_upto_region 1 with (fail)
  rw [← HW.out]
  try rw [HP.out]
  obtain ⟨m0, m1, m2⟩ := cells3s HB.out
  clear HW HP
  go_wp2_with fail
  refine (sright_any HS.out HA.out HL.out).mono ?_
  rintro en w2 ⟨⟨b, rfl, hb⟩, u⟩
  obtain rfl : b = true := hb.2 HOK.out
  have U2 := hid (U.out.trans u)
  have HB2 := hid ((u.block _ (heap_lt HB.out) id).trans HB.out)
  obtain ⟨n0, n1, n2⟩ := cells3s HB2.out
  clear m0 m1 m2 u hb
  go_upto_region 3 with (fail)
  go_wp2_with fail
  go_ret
  refine ⟨?_, U2.out⟩
  rw [QF.out]
  try rw [HHF.out]
  show Ending.returned (.int .i64 (wrap64 (hf + 1))) = _
  rw [show wrap64 (hf + 1) = hf + 1 by unfold wrap64; omega]
set_option maxRecDepth 100000 in
set_option maxHeartbeats 4000000 in
theorem value_any {O Or : Nat → Prop} {b r : Nat} {hs : Hs} {R : Rg} {w : World} (h : HPre w O Or b r hs R) (m : Int) (hm : (Lit.int .i64 m).wf = true) : Calls Tryz.prog 76 #[.pointer (some ⟨b, 0, none⟩), .int .i64 m] w fun e w' => e = .returned (.int .i64 (valueF hs m)) ∧ Upd (fun _ => False) w w' := by
  have HH := hid h; have MW := hid hm
  clear h hm
  go_enter Tryz.func76, Tryz.ntmps76
  go_wp2_with fail
  refine (hentry_any HH.out.his HH.out.plain m MW.out).mono ?_
  rintro en y1 ⟨a1, a2, a3, c1, c2, c3, rfl, _, u⟩
  have VF := hid (show valueF hs m = if (entryM hs m).2 = true ∧ (entryM hs m).1.kind = 18 then (if (entryM hs m).1.ref = -1 then m else (entryM hs m).1.ref) else -1 from rfl)
  obtain ⟨x, hx⟩ : ∃ x, (entryM hs m).1 = x := ⟨_, rfl⟩
  obtain ⟨is, his⟩ : ∃ x, (entryM hs m).2 = x := ⟨_, rfl⟩
  rw [hx, his] at VF ⊢
  obtain ⟨W3, hW3⟩ : ∃ W3, W3 = y1.alloc (.cells (en13 x a1 a2 a3 c1 c2 c3) 72 (0, 0)) := ⟨_, rfl⟩
  have u3 : Upd (fun _ => False) y1 W3 := by rw [hW3]; exact (Upd.refl _ _).alloc _
  obtain ⟨eb, heb⟩ : ∃ eb, y1.heap.size = eb := ⟨_, rfl⟩
  have EB := hid (show W3.heap[eb]? = some (.cells (en13 x a1 a2 a3 c1 c2 c3) 72 (0, 0)) by rw [hW3, ← heb]; exact heap_alloc_new)
  have UW := hid (u.trans u3)
  have HW3 := hid hW3; have HEB := hid heb
  clear hx his hW3 heb u u3
  unfold enV
  go_upto_region 2 with (fail)
  rw [← (show W3 = y1.alloc (.cells #[.int .i64 x.author, .int .i64 x.seq, .int .i64 x.day, .slice a1 x.knows.length c1, .int .i64 x.kind, .int .i64 x.circle, .int .i64 x.who, .int .i64 x.n, .int .i64 x.m, .int .i64 x.ref, .slice a2 x.keys.length c2, .slice a3 x.spans.length c3, .string ⟨x.text.toArray⟩] 72 (0, 0)) from HW3.out)]
  try rw [HEB.out]
  clear HW3 HEB
  obtain ⟨r0, r1, r2, r3, r4, r5, r6, r7, r8, r9, r10, r11, r12⟩ := cells13 EB.out
  cases is with
  | false =>
    have E := hid (show valueF hs m = -1 by rw [VF.out]; exact if_neg fun q => (nomatch q.1))
    go_wp2_with fail
    go_ret
    exact ⟨by rw [E.out] <;> rfl, UW.out⟩
  | true =>
    by_cases hk : x.kind = 18
    case neg =>
      have E := hid (show valueF hs m = -1 by rw [VF.out]; exact if_neg fun q => hk q.2)
      have t1 : (x.kind != 18) = true := bne_iff_ne.2 hk
      clear hk
      go_wp2_with fail
      go_ret
      exact ⟨by rw [E.out] <;> rfl, UW.out⟩
    have t1 : (x.kind != 18) = false := bne_eq_false_iff_eq.2 hk
    have VF2 := hid (show valueF hs m = if x.ref = -1 then m else x.ref by rw [VF.out]; exact if_pos ⟨rfl, hk⟩)
    clear hk
    by_cases hr : x.ref = -1
    case pos =>
      have E := hid (show valueF hs m = m by rw [VF2.out]; exact if_pos hr)
      have t2 : (x.ref != -1) = false := bne_eq_false_iff_eq.2 hr
      clear hr
      go_wp2_with fail
      go_ret
      exact ⟨by rw [E.out] <;> rfl, UW.out⟩
    have E := hid (show valueF hs m = x.ref by rw [VF2.out]; exact if_neg hr)
    have t2 : (x.ref != -1) = true := bne_iff_ne.2 hr
    clear hr
    go_wp2_with fail
    go_ret
    exact ⟨by rw [E.out] <;> rfl, UW.out⟩
end Go.Proofs.YtjkmalddfoemhaaGreatDoor
