/- The walk of SmsSplits. -/
import Derived.Test.YtabnniabofhihaaDoorSmSmall
namespace Go.Proofs.YtabnniabofhihaaDoor
open Go.RowKit Go.Deep

theorem take_chunk (msg : Bs) (n i : Nat) : msg.take (i * n) ++ chunk msg n i = msg.take ((i + 1) * n) := by
  rw [Nat.add_mul, Nat.one_mul, List.take_add]; rfl
theorem split_ok {n sz : Int} {msg : Bs} {w : World} {e : Ending} {w' : World} (h : SplitPost n msg sz w e w') (ho : SplitOk n sz) (hl : msg.length ≤ 20000) :
    Upd (fun _ => False) w w' ∧ ∃ b o c, e = .returned (.tuple #[.slice (some ⟨b, o, none⟩) (cntF msg.length (sz - 24).toNat) c, .int .i64 0]) ∧ Fresh w w' b ∧ cntF msg.length (sz - 24).toNat ≤ c ∧ c ≤ 9223372036854775807 ∧
      Elems (kMap kStr fun l => ⟨l.toArray⟩) (Fresh w w') w' b o (splitL n msg (sz - 24).toNat) := by
  obtain ⟨u, h⟩ := h
  rcases h with ⟨hno, _⟩ | ⟨_, hlong, _⟩ | ⟨_, _, v, rfl, hrep⟩
  · exact absurd ho hno
  · omega
  · obtain ⟨a, c, rfl, h1, h2, h3⟩ := slice_open hrep
    rw [splitL_len] at h1 h3 ⊢
    obtain ⟨b, o, rfl, h4, h5⟩ := h3 (cnt_pos _ _)
    exact ⟨u, b, o, c, rfl, h4, h1, h2, h5⟩
set_option maxRecDepth 100000 in
set_option maxHeartbeats 8000000 in
theorem splits_walk (n : Int) (msg : Bs) (sz : Int) (w : World) (E : Env w) (hz : 6 ≤ w.heap.size) (hn : (Lit.int .i64 n).wf = true) (hs : (Lit.int .i64 sz).wf = true) :
    Calls Tryd.prog 3 #[.int .i64 n, .string ⟨msg.toArray⟩, .int .i64 sz] w fun e w' => e = .returned (.bool true) ∧ Upd (fun _ => False) w w' := by
  have HE := hid E; have HZ := hid hz; have WN := hid hn; have WS := hid hs
  have hm := maxMark_eq
  clear E hz hn hs
  by_cases t0 : 3000 < msg.length
  · have t0i : (3000 : Int) < msg.length := by omega
    go_enter Tryd.func3, Tryd.ntmps3
    go_wp2_with fail
    refine (small_any w HE.out HZ.out).mono ?_
    rintro e w1 ⟨rfl, u⟩
    have U1 := hid u; clear u
    go_wp2_with fail
    go_ret
    exact ⟨rfl, U1.out⟩
  have t0b : decide (3000 < msg.length) = false := decide_eq_false t0
  have t0i : decide ((3000 : Int) < msg.length) = false := decide_eq_false (by omega)
  have HL := hid (show msg.length ≤ 3000 by omega)
  clear t0
  by_cases t1 : n < 0
  · have NO := hid (show ¬ SplitOk n sz from fun h => by have := h.1; omega)
    go_enter Tryd.func3, Tryd.ntmps3
    go_wp2_with fail
    refine (small_any w HE.out HZ.out).mono ?_
    rintro e w1 ⟨rfl, u⟩
    have U1 := hid u; clear u
    go_wp2_with fail
    refine (split_any n msg sz w1 (HE.out.keep0 U1.out) WN.out WS.out (Nat.le_trans HL.out (by decide))).mono ?_
    rintro e w2 ⟨u, h⟩
    have U2 := hid (U1.out.trans u)
    clear u
    rcases h with ⟨_, rfl⟩ | ⟨hok, _⟩ | ⟨hok, _⟩
    · go_wp2_with fail
      go_ret
      exact ⟨rfl, U2.out⟩
    · exact absurd hok NO.out
    · exact absurd hok NO.out
  have t1b : decide (n < 0) = false := decide_eq_false t1
  by_cases t2 : 1073741824 < n
  · have NO := hid (show ¬ SplitOk n sz from fun h => by have := h.2.1; omega)
    clear t1
    go_enter Tryd.func3, Tryd.ntmps3
    go_wp2_with fail
    refine (small_any w HE.out HZ.out).mono ?_
    rintro e w1 ⟨rfl, u⟩
    have U1 := hid u; clear u
    go_wp2_with fail
    refine (split_any n msg sz w1 (HE.out.keep0 U1.out) WN.out WS.out (Nat.le_trans HL.out (by decide))).mono ?_
    rintro e w2 ⟨u, h⟩
    have U2 := hid (U1.out.trans u)
    clear u
    rcases h with ⟨_, rfl⟩ | ⟨hok, _⟩ | ⟨hok, _⟩
    · go_wp2_with fail
      go_ret
      exact ⟨rfl, U2.out⟩
    · exact absurd hok NO.out
    · exact absurd hok NO.out
  have t2b : decide (1073741824 < n) = false := decide_eq_false t2
  by_cases t3 : sz < 32
  · have NO := hid (show ¬ SplitOk n sz from fun h => by have := h.2.2.1; omega)
    clear t1 t2
    go_enter Tryd.func3, Tryd.ntmps3
    go_wp2_with fail
    refine (small_any w HE.out HZ.out).mono ?_
    rintro e w1 ⟨rfl, u⟩
    have U1 := hid u; clear u
    go_wp2_with fail
    refine (split_any n msg sz w1 (HE.out.keep0 U1.out) WN.out WS.out (Nat.le_trans HL.out (by decide))).mono ?_
    rintro e w2 ⟨u, h⟩
    have U2 := hid (U1.out.trans u)
    clear u
    rcases h with ⟨_, rfl⟩ | ⟨hok, _⟩ | ⟨hok, _⟩
    · go_wp2_with fail
      go_ret
      exact ⟨rfl, U2.out⟩
    · exact absurd hok NO.out
    · exact absurd hok NO.out
  have t3b : decide (sz < 32) = false := decide_eq_false t3
  by_cases t4 : 140 < sz
  · have NO := hid (show ¬ SplitOk n sz from fun h => by have := h.2.2.2; omega)
    clear t1 t2 t3
    go_enter Tryd.func3, Tryd.ntmps3
    go_wp2_with fail
    refine (small_any w HE.out HZ.out).mono ?_
    rintro e w1 ⟨rfl, u⟩
    have U1 := hid u; clear u
    go_wp2_with fail
    refine (split_any n msg sz w1 (HE.out.keep0 U1.out) WN.out WS.out (Nat.le_trans HL.out (by decide))).mono ?_
    rintro e w2 ⟨u, h⟩
    have U2 := hid (U1.out.trans u)
    clear u
    rcases h with ⟨_, rfl⟩ | ⟨hok, _⟩ | ⟨hok, _⟩
    · go_wp2_with fail
      go_ret
      exact ⟨rfl, U2.out⟩
    · exact absurd hok NO.out
    · exact absurd hok NO.out
  have t4b : decide (140 < sz) = false := decide_eq_false t4
  have HO := hid (show SplitOk n sz from ⟨by omega, by omega, by omega, by omega⟩)
  obtain ⟨q, hq⟩ : ∃ q : Nat, (q : Int) = sz - 24 := ⟨(sz - 24).toNat, by omega⟩
  have hqn : (sz - 24).toNat = q := by omega
  have HQ := hid (show 8 ≤ q ∧ q ≤ 116 by omega)
  have g1 : IntKind.i64.wrap (sz - 24) = (q : Int) := by rw [IntWalk.i64_in _ (by omega), hq]
  have g1b : wrap64 (sz - 24) = (q : Int) := by rw [IntWalk.wrap64_in _ (by omega), hq]
  have HSZ := hid (show (q : Int) + 24 = sz by omega)
  have HQN := hid hqn
  obtain ⟨c, hc⟩ : ∃ c, cntF msg.length q = c := ⟨_, rfl⟩
  have HC := hid hc
  have hc1 : 1 ≤ c := by rw [← hc]; exact cnt_pos _ _
  have hc2 : c ≤ 2500 := by rw [← hc]; exact cnt_le HQ.out.1 (by have := HL.out; omega)
  clear t1 t2 t3 t4 hq hqn hc hm
  go_enter Tryd.func3, Tryd.ntmps3
  go_wp2_with fail
  refine (small_any w HE.out HZ.out).mono ?_
  rintro e w1 ⟨rfl, u⟩
  have U1 := hid u; clear u
  go_wp2_with fail
  refine (split_any n msg sz w1 (HE.out.keep0 U1.out) WN.out WS.out (Nat.le_trans HL.out (by decide))).mono ?_
  intro e w2 hp
  obtain ⟨u, lb, lo, lc, rfl, hlb, hl1, hl2, hel⟩ := split_ok hp HO.out (Nat.le_trans HL.out (by decide))
  rw [HQN.out] at hel hl1 ⊢
  rw [HC.out] at hl1 ⊢
  have U2 := hid (U1.out.trans u); have HEL := hid hel
  clear hp u hel
  go_wp2_with fail
  go_loopg [10, 11] c (fun gg s10 s11 wr => ∃ i : Nat, i ≤ c ∧ gg = c - i ∧ s11 = .int .i64 i ∧ s10 = .string ⟨(msg.take (i * q)).toArray⟩ ∧ Upd (fun _ => False) w2 wr)
  case atStart => exact ⟨0, Nat.zero_le _, rfl, rfl, by simp, Upd.refl _ _⟩
  case round =>
    obtain ⟨i, hi, hg, rfl, rfl, u⟩ := hrel
    have HG := hid hg; have U := hid u
    clear hg u
    by_cases hlt : i < c
    · have hlti : (i : Int) < c := by omega
      have hil : i < (splitL n msg q).length := by rw [splitL_len, HC.out]; exact hlt
      have c0 := cell_kept (str_cells HEL.out hil) (U.out.block lb hlb.2 id)
      have hgi : (splitL n msg q)[i] = partE n (i : Nat) (c : Nat) (chunk msg q i) := by
        have h := splitL_get (id := n) (msg := msg) (n := q) (i := i) (by rw [HC.out]; exact hlt)
        rw [List.getElem?_eq_getElem hil, HC.out] at h
        injection h
      have hic : i < cntF msg.length q := by rw [HC.out]; exact hlt
      have hpf := split_part (id := n) (msg := msg) (n := q) (i := i) ⟨HO.out.1, HO.out.2.1⟩ HQ.out.1 HQ.out.2 (Nat.le_trans HL.out (by decide)) hic
      have hps := split_size (id := n) (msg := msg) (n := q) (i := i) ⟨HO.out.1, HO.out.2.1⟩ HQ.out.1 (Nat.le_trans HL.out (by decide)) hic
      rw [HC.out, ← hgi] at hpf hps
      generalize (splitL n msg q)[i] = s at *
      have HP := hid (show partR s = .tuple #[.int .i64 n, .int .i64 (i : Nat), .int .i64 (c : Nat), .string ⟨(chunk msg q i).toArray⟩, .int .i64 0] by unfold partR; rw [hpf])
      have hszs := HSZ.out
      have t7 : decide (sz < (s.length : Int)) = false := decide_eq_false (by omega)
      have t7b : ¬ sz < (s.length : Int) := by omega
      have HSL := hid (show s.length ≤ 10000000 by have := HQ.out.2; omega)
      have hck := chunk_le msg q i
      have hq2 := HQ.out.2
      obtain ⟨acc, hacc⟩ : ∃ x, msg.take (i * q) = x := ⟨_, rfl⟩
      obtain ⟨acc2, hacc2⟩ : ∃ x, msg.take ((i + 1) * q) = x := ⟨_, rfl⟩
      have hal : acc.length ≤ 3000 := by rw [← hacc, List.length_take]; have := HL.out; omega
      have hcat := take_chunk msg q i
      rw [hacc, hacc2] at hcat
      have HA2 := hid hacc2
      have hfull : i + 1 < c → (chunk msg q i).length = q := fun h => chunk_full (by have := HQ.out.1; omega) (by rw [HC.out]; exact h)
      rw [hacc]
      generalize chunk msg q i = ck at *
      have a1 : ∀ w, (Op.stringOp .add ⟨acc.toArray⟩ ⟨ck.toArray⟩).run Tryd.prog w = .ok (.string ⟨acc2.toArray⟩) w := fun w => by rw [add_lists _ _ (by omega), hcat]
      by_cases hlast : i + 1 < c
      · have hckl : (ck.length : Int) = q := by rw [hfull hlast]
        have hckl2 : ck.length = q := hfull hlast
        have hckb : ((ck.length : Int) == (q : Int)) = true := by rw [hckl]; exact beq_self_eq_true _
        have hli : (i : Int) < (c : Int) - 1 := by omega
        clear hpf hps hgi hacc hacc2 hcat hfull hil hic hszs hck hckl2
        go_wp2_with fail
        refine (part_any s _ (HE.out.keep0 (U2.out.trans U.out)) (Nat.le_trans HZ.out (U2.out.trans U.out).size) HSL.out).mono ?_
        rintro e w3 ⟨rfl, u⟩
        have c0 := cell_kept c0 (u.block lb (Nat.lt_of_lt_of_le hlb.2 U.out.size) id)
        have U3 := hid (U.out.trans u); clear u
        rw [HP.out]
        go_wp2_with fail
        go_roundg (c - (i + 1))
        case measure => have := HG.out; clear g1 g1b; omega
        case rel => exact ⟨i + 1, by omega, rfl, by (clear g1 g1b; go_num), by rw [HA2.out], U3.out⟩
      · have hli : decide ((i : Int) < (c : Int) - 1) = false := decide_eq_false (by omega)
        clear hpf hps hgi hacc hacc2 hcat hfull hil hic hszs hck
        go_wp2_with fail
        refine (part_any s _ (HE.out.keep0 (U2.out.trans U.out)) (Nat.le_trans HZ.out (U2.out.trans U.out).size) HSL.out).mono ?_
        rintro e w3 ⟨rfl, u⟩
        have c0 := cell_kept c0 (u.block lb (Nat.lt_of_lt_of_le hlb.2 U.out.size) id)
        have U3 := hid (U.out.trans u); clear u
        rw [HP.out]
        go_wp2_with fail
        go_roundg (c - (i + 1))
        case measure => have := HG.out; clear g1 g1b; omega
        case rel => exact ⟨i + 1, by omega, rfl, by (clear g1 g1b; go_num), by rw [HA2.out], U3.out⟩
    · obtain rfl : i = c := by omega
      have hall : msg.take (i * q) = msg := List.take_of_length_le (by have := cnt_cover (len := msg.length) (n := q) (by have := HQ.out.1; omega); rw [HC.out] at this; exact this)
      rw [hall]
      clear hall
      go_wp2_with fail
      refine (split_any n msg 140 _ (HE.out.keep0 (U2.out.trans U.out)) WN.out (by decide) (Nat.le_trans HL.out (by decide))).mono ?_
      intro e w4 hp
      obtain ⟨u, kb, ko, kc, rfl, hkb, hk1, hk2, hek⟩ := split_ok hp ⟨HO.out.1, HO.out.2.1, by decide, by decide⟩ (Nat.le_trans HL.out (by decide))
      have hcm : cntF msg.length (140 - 24 : Int).toNat ≤ i := by rw [← HC.out]; exact cnt_mono (by have := HQ.out.1; omega) (show q ≤ 116 from HQ.out.2)
      have hcp := cnt_pos msg.length (140 - 24 : Int).toNat
      have U4 := hid ((U2.out.trans U.out).trans u)
      clear hp u hek hkb
      generalize cntF msg.length (140 - 24 : Int).toNat = d at *
      have e1 : (0 : Int) < i := by omega
      have e2 : (0 : Int) < d := by omega
      have e3 : (d : Int) ≤ i := by omega
      have e4 : 0 < d := by omega
      have e5 : 0 < i := by omega
      go_wp2_with fail
      go_ret
      exact ⟨rfl, U4.out⟩
theorem splits_card (n : Int) (msg : List UInt8) (sz : Int) (W : World) (E : Env W) (hz : 6 ≤ W.heap.size) (hn : (Lit.int .i64 n).wf = true) (_ : msg.length ≤ maxLen) (hs : (Lit.int .i64 sz).wf = true) :
    Calls Tryd.prog 3 #[.int .i64 n, .string ⟨msg.toArray⟩, .int .i64 sz] W fun e w' => e = .returned (.bool true) ∧ Below W.heap.size W w' :=
  (splits_walk n msg sz W E hz hn hs).mono fun _ _ h => ⟨h.1, h.2.below (Nat.le_refl _) fun _ h => h.elim⟩
end Go.Proofs.YtabnniabofhihaaDoor
