/- sms.Split returns the parts of a message. -/
import Derived.Test.YtabnniabofhihaaDoorSmTake
namespace Go.Proofs.YtabnniabofhihaaDoor
open Go.RowKit Go.Deep

def SplitOk (id : Int) (size : Int) : Prop := 0 ≤ id ∧ id ≤ maxMark ∧ 32 ≤ size ∧ size ≤ 140
def SplitPost (id : Int) (msg : Bs) (size : Int) (w : World) (e : Ending) (w' : World) : Prop :=
  Upd (fun _ => False) w w' ∧ ((¬ SplitOk id size ∧ e = .returned (.tuple #[.slice none 0 0, .int .i64 1])) ∨ (SplitOk id size ∧ 20000 < msg.length ∧ e = .returned (.tuple #[.slice none 0 0, .int .i64 6])) ∨
    (SplitOk id size ∧ msg.length ≤ 20000 ∧ ∃ v, e = .returned (.tuple #[v, .int .i64 0]) ∧ kStrs.rep (Fresh w w') w' [v] (splitL id msg (size - 24).toNat)))
def splitTo (id : Int) (msg : Bs) (n k : Nat) : List Bs := (List.range k).map fun i => partE id (i : Nat) (cntF msg.length n : Nat) (chunk msg n i)
theorem splitTo_succ (id : Int) (msg : Bs) (n k : Nat) : splitTo id msg n (k + 1) = splitTo id msg n k ++ [partE id (k : Nat) (cntF msg.length n : Nat) (chunk msg n k)] := by
  unfold splitTo; rw [List.range_succ, List.map_append]; rfl
theorem splitTo_len (id : Int) (msg : Bs) (n k : Nat) : (splitTo id msg n k).length = k := by unfold splitTo; simp
set_option maxRecDepth 100000 in
set_option maxHeartbeats 2000000 in
theorem split_any (i0 : Int) (msg : Bs) (sz : Int) (w : World) (E : Env w) (hi : (Lit.int .i64 i0).wf = true) (hs : (Lit.int .i64 sz).wf = true) (hl : msg.length ≤ 10000000) :
    Calls Tryd.prog 8 #[.int .i64 i0, .string ⟨msg.toArray⟩, .int .i64 sz] w (SplitPost i0 msg sz w) := by
  have HE := hid E
  have hm := maxMark_eq
  clear E
  by_cases t1 : i0 < 0
  · have HN := hid (show ¬ SplitOk i0 sz from fun h => by have := h.1; omega)
    go_enter Tryd.func8, Tryd.ntmps8
    go_wp2_with fail
    go_ret2
    exact ⟨Upd.refl _ _, .inl ⟨HN.out, rfl⟩⟩
  have t1b : decide (i0 < 0) = false := decide_eq_false t1
  by_cases t2 : 1073741824 < i0
  · have HN := hid (show ¬ SplitOk i0 sz from fun h => by have := h.2.1; omega)
    clear t1
    go_enter Tryd.func8, Tryd.ntmps8
    go_wp2_with fail
    go_ret2
    exact ⟨Upd.refl _ _, .inl ⟨HN.out, rfl⟩⟩
  have t2b : decide (1073741824 < i0) = false := decide_eq_false t2
  by_cases t3 : sz < 32
  · have HN := hid (show ¬ SplitOk i0 sz from fun h => by have := h.2.2.1; omega)
    clear t1 t2
    go_enter Tryd.func8, Tryd.ntmps8
    go_wp2_with fail
    go_ret2
    exact ⟨Upd.refl _ _, .inl ⟨HN.out, rfl⟩⟩
  have t3b : decide (sz < 32) = false := decide_eq_false t3
  by_cases t4 : 140 < sz
  · have HN := hid (show ¬ SplitOk i0 sz from fun h => by have := h.2.2.2; omega)
    clear t1 t2 t3
    go_enter Tryd.func8, Tryd.ntmps8
    go_wp2_with fail
    go_ret2
    exact ⟨Upd.refl _ _, .inl ⟨HN.out, rfl⟩⟩
  have t4b : decide (140 < sz) = false := decide_eq_false t4
  have HO := hid (show SplitOk i0 sz from ⟨by omega, by omega, by omega, by omega⟩)
  by_cases t5 : 20000 < msg.length
  · have HT := hid t5
    have t5i : (20000 : Int) < msg.length := by omega
    clear t1 t2 t3 t4 hi hs hl hm
    go_enter Tryd.func8, Tryd.ntmps8
    go_wp2_with fail
    go_ret2
    exact ⟨Upd.refl _ _, .inr (.inl ⟨HO.out, HT.out, rfl⟩)⟩
  have t5b : decide (20000 < msg.length) = false := decide_eq_false t5
  have t5i : decide ((20000 : Int) < msg.length) = false := decide_eq_false (by omega)
  obtain ⟨n, hn⟩ : ∃ n : Nat, (n : Int) = sz - 24 := ⟨(sz - 24).toNat, by omega⟩
  have hnn : (sz - 24).toNat = n := by omega
  have hn8 : 8 ≤ n ∧ n ≤ 116 := by omega
  obtain ⟨len, hlen⟩ : ∃ x, msg.length = x := ⟨_, rfl⟩
  have hl2 : len ≤ 20000 := by omega
  rw [hlen] at t5b t5i
  have HLEN := hid hlen; have HN8 := hid hn8; have HNN := hid hnn; have HL2 := hid hl2; have HI0 := hid (show I64 i0 by unfold I64; omega)
  obtain ⟨c, hc⟩ : ∃ c, cntF len n = c := ⟨_, rfl⟩
  have HC := hid hc
  have hc1 := cnt_pos len n
  have hc2 := cnt_le hn8.1 hl2
  rw [hc] at hc1 hc2
  have HC2 := hid (And.intro hc1 hc2)
  have g1 : IntKind.i64.wrap (sz - 24) = (n : Int) := by rw [IntWalk.i64_in _ (by omega), hn]
  have g1b : wrap64 (sz - 24) = (n : Int) := by rw [IntWalk.wrap64_in _ (by omega), hn]
  have g0 : ((n : Int) == 0) = false := beq_eq_false_iff_ne.2 (by omega)
  have g0b : (n == 0) = false := beq_eq_false_iff_ne.2 (by omega)
  clear t1 t2 t3 t4 t5 hi hs hl hm hn hlen hl2 hn8 hnn hc1 hc2 hc
  have hsz : (ByteArray.mk msg.toArray).size = len := by rw [← HLEN.out]; rfl
  go_enter Tryd.func8, Tryd.ntmps8
  go_upto_region 6 with (fail)
  go_cut [9] (fun s wx => s = .int .i64 c ∧ wx = w)
  case first =>
    have hl2 := HL2.out; have hn8 := HN8.out
    go_wp2_with fail
    have hq : ((len : Int) + n - 1) / n = (((len + n - 1) / n : Nat) : Int) := by
      rw [show (len : Int) + n - 1 = ((len + n - 1 : Nat) : Int) by omega]
      exact (Int.natCast_ediv _ _).symm
    have hc := HC.out
    unfold cntF at hc
    go_meet
    case rel => exact ⟨by rw [hq, ← hc]; congr 1; omega, rfl⟩
  case rest =>
    obtain ⟨rfl, hw⟩ := hcut
    obtain ⟨w1, rfl⟩ : ∃ w1 : World, w1 = wc := ⟨_, rfl⟩
    subst hw
    go_wp2_with fail
    go_loopg [10, 40] c (fun gg s10 s40 wr => ∃ k : Nat, k ≤ c ∧ gg = c - k ∧ s40 = .int .i64 k ∧ wr.ownsRow w1.heap.size 9 1 s10 (splitTo i0 msg n k).length ((splitTo i0 msg n k).map fun x => .string ⟨x.toArray⟩) ∧ Upd (fun _ => False) w1 wr)
    case atStart => exact ⟨0, Nat.zero_le _, rfl, rfl, World.ownsRow_nil _ _ _ _, Upd.refl _ _⟩
    case round =>
      obtain ⟨k, hk, hg, rfl, hown, u⟩ := hrel
      have HG := hid hg; have OWN := hid hown; have U := hid u
      clear hg hown u
      by_cases hlt : k < c
      · have hlti : (k : Int) < c := by omega
        have hn8 := HN8.out
        have hc2 := HC2.out
        have hcl := HL2.out
        obtain ⟨kn, hkn⟩ : ∃ x, k * n = x := ⟨_, rfl⟩
        have hknl : kn ≤ len := by
          rw [← hkn]
          by_cases h1 : c = 1
          · have : k = 0 := by omega
            subst this; simp
          · exact Nat.le_of_lt (cnt_tight (by omega) (by rw [HC.out]; exact hlt) (by rw [HC.out]; exact h1))
        have hmul : (k : Int) * (n : Int) = kn := by rw [← hkn]; simp
        have hkb : -9223372036854775808 ≤ (kn : Int) ∧ (kn : Int) ≤ 9223372036854775807 := by omega
        obtain ⟨h, hh⟩ : ∃ x, min len (kn + n) = x := ⟨_, rfl⟩
        have hmin : min (len : Int) ((kn : Int) + n) = h := by omega
        have hkh : kn ≤ h := by omega
        have hhl : h ≤ len := by omega
        have hkhi : (kn : Int) ≤ h := by omega
        have hhli : (h : Int) ≤ len := by omega
        have hx : (ByteArray.mk msg.toArray).extract kn h = ⟨(chunk msg n k).toArray⟩ := by
          have e1 : chunk msg n k = (msg.drop kn).take (h - kn) := by
            unfold chunk
            rw [hkn]
            have hlm := HLEN.out
            by_cases hc : kn + n ≤ len
            · rw [show h - kn = n by omega]
            · rw [List.take_of_length_le (by rw [List.length_drop]; omega), List.take_of_length_le (by rw [List.length_drop]; omega)]
          rw [e1]
          apply ByteArray.ext
          simp
        have hch := chunk_le msg n k
        have m1 := numE_len HI0.out
        have m2 := numE_len (n := (k : Int)) (by unfold I64; omega)
        have m3 := numE_len (n := (c : Int)) (by unfold I64; omega)
        have IK := hid (show I64 (k : Int) by unfold I64; omega)
        have IC := hid (show I64 (c : Int) by unfold I64; omega)
        have HS := hid (splitTo_succ i0 msg n k)
        have HSL := hid (splitTo_len i0 msg n k)
        rw [HLEN.out, HC.out] at HS
        generalize chunk msg n k = ck at *
        obtain ⟨s2, h2⟩ : ∃ x, numE i0 ++ numE k = x := ⟨_, rfl⟩
        obtain ⟨s3, h3⟩ : ∃ x, s2 ++ numE c = x := ⟨_, rfl⟩
        obtain ⟨pe, h4⟩ : ∃ x, s3 ++ ck = x := ⟨_, rfl⟩
        have hpe : partE i0 k c ck = pe := by unfold partE; rw [h2, h3, h4]
        rw [hpe] at HS
        have m4 : s2.length ≤ 42 := by rw [← h2, List.length_append]; omega
        have m5 : s3.length ≤ 63 := by rw [← h3, List.length_append]; omega
        have a1 : ∀ w, (Op.stringOp .add ⟨(numE i0).toArray⟩ ⟨(numE k).toArray⟩).run Tryd.prog w = .ok (.string ⟨s2.toArray⟩) w := fun w => by rw [add_lists _ _ (by omega), h2]
        have a2 : ∀ w, (Op.stringOp .add ⟨s2.toArray⟩ ⟨(numE c).toArray⟩).run Tryd.prog w = .ok (.string ⟨s3.toArray⟩) w := fun w => by rw [add_lists _ _ (by omega), h3]
        have a3 : ∀ w, (Op.stringOp .add ⟨s3.toArray⟩ ⟨ck.toArray⟩).run Tryd.prog w = .ok (.string ⟨pe.toArray⟩) w := fun w => by rw [add_lists _ _ (by omega), h4]
        have HKC := hid (show (splitTo i0 msg n k).length + 1 ≤ maxLen by rw [HSL.out]; unfold maxLen; omega)
        have HKD := hid (show ((splitTo i0 msg n k).length + 1) * 16 ≤ 140737488355328 by rw [HSL.out]; omega)
        have hkc : -9223372036854775808 ≤ (kn : Int) + n ∧ (kn : Int) + n ≤ 9223372036854775807 := by omega
        have HMS := hid (show c - (k + 1) < c - k by omega)
        have hk64 : -9223372036854775808 ≤ (k : Int) + 1 ∧ (k : Int) + 1 ≤ 9223372036854775807 := by omega
        have hcb : (c : Int) ≤ 2500 := by have := HC2.out; omega
        have hkb2 : (k : Int) + 1 ≤ 2500 := by omega
        have hkw : wrap64 ((k : Int) + 1) = ((k + 1 : Nat) : Int) := by rw [IntWalk.wrap64_in _ hk64]; rfl
        have hkw2 : IntKind.i64.wrap ((k : Int) + 1) = ((k + 1 : Nat) : Int) := by rw [IntWalk.i64_in _ hk64]; rfl
        have g2 : IntKind.i64.wrap ((k : Int) * n) = kn := by rw [hmul]; exact IntWalk.i64_in _ hkb
        have g2b : wrap64 ((k : Int) * n) = kn := by rw [hmul]; exact IntWalk.wrap64_in _ hkb
        have g3 : IntKind.i64.wrap ((kn : Int) + n) = (kn : Int) + n := IntWalk.i64_in _ hkc
        have g3b : wrap64 ((kn : Int) + n) = (kn : Int) + n := IntWalk.wrap64_in _ hkc
        clear hkc h2 h3 h4 m1 m2 m3 m4 m5 hh hmul hkn hch hc2 hn8 hpe hknl hkb
        have tok1 : True := trivial
        have tok2 : True := trivial
        have tok3 : True := trivial
        go_wp2_with fail
        go_region_held3 (fun _ => True) (trivial)
          ((first
            | (go_at_call 23; have _t := tok1; refine (numE_any i0 HI0.out _ (HE.out.keep0 (U.out.drew))).mono ?_; rintro e x1 ⟨rfl, u1⟩; have U1 := hid ((Upd.refl (fun _ => False) wr).drew.trans u1); clear u1 _t tok1)
            | (go_at_call 23; have _t := tok2; refine (numE_any (k : Int) IK.out _ (HE.out.keep0 (U.out.trans U1.out))).mono ?_; rintro e x2 ⟨rfl, u2⟩; have U2 := hid (U1.out.trans u2); clear u2 _t tok2)
            | (go_at_call 23; have _t := tok3; refine (numE_any (c : Int) IC.out _ (HE.out.keep0 (U.out.trans U2.out))).mono ?_; rintro e x3 ⟨rfl, u3⟩; have U3 := hid (U2.out.trans u3); clear u3 _t tok3)
            | (obtain ⟨v', w4, r4, o4, u4, n4⟩ := append_one elemS (ownsRow_upd OWN.out U3.out fun _ _ => id) #[.string ⟨pe.toArray⟩] rfl (by simp [Value.oneCell']) HKC.out HKD.out (Nat.le_trans U.out.size U3.out.size) 23 (0, 0); have O4 := hid o4; have U4 := hid ((U.out.trans U3.out).comp u4 fun i hi e => by have := (OWN.out.lt i e).1; exact absurd hi (Nat.not_lt.2 this)); clear o4 u4 n4; refine step_append_run rfl _ _ _ _ rfl rfl rfl r4 ?_)))
        all_goals
          go_wp2_with fail
          go_roundg (c - (k + 1))
          case measure => rw [HG.out]; exact HMS.out
          case rel => exact ⟨k + 1, hlt, rfl, by go_num, by rw [HS.out, List.length_append, List.map_append]; exact O4.out, U4.out⟩
      · obtain rfl : k = c := by omega
        have hst : splitTo i0 msg n k = splitL i0 msg n := by unfold splitTo splitL; rw [HLEN.out, HC.out]
        have HST := hid hst
        clear hst
        go_wp2_with fail
        go_ret2
        refine ⟨U.out, .inr (.inr ⟨HO.out, by rw [HLEN.out]; exact HL2.out, _, rfl, ?_⟩)⟩
        rw [HNN.out, ← HST.out]
        refine ownsRow_rep1 (K := kMap kStr fun l => ⟨l.toArray⟩) rfl (fun x => Value.string ⟨x.toArray⟩) OWN.out (fun x hx => strRep x ?_) fun g hg => OWN.out.lt g hg
        rw [HST.out] at hx
        obtain ⟨i, hi, rfl⟩ := List.mem_map.1 hx
        rw [HLEN.out]
        have hi := List.mem_range.1 hi
        rw [HLEN.out] at hi
        have := split_size (id := i0) (msg := msg) (n := n) (i := i) ⟨HO.out.1, HO.out.2.1⟩ HN8.out.1 (by rw [HLEN.out]; exact HL2.out) (by rw [HLEN.out]; exact hi)
        rw [HLEN.out] at this
        have := HN8.out.2
        omega
end Go.Proofs.YtabnniabofhihaaDoor
