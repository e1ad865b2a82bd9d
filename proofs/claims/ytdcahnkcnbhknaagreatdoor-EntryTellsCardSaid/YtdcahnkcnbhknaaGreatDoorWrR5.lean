/- The reference's reader: numbers and strings. -/
import Derived.Test.YtdcahnkcnbhknaaGreatDoorWrR4
namespace Go.Proofs.YtdcahnkcnbhknaaGreatDoor
open Go.RowKit Go.Deep

theorem first_uniq {e : UInt8} {l p t : List UInt8} {k : Nat} (hk : k < l.length) (hlk : l[k] = e) (hne : ∀ i (h : i < l.length), i < k → l[i] ≠ e) (h : l = p ++ e :: t) (hp : e ∉ p) : p = l.take k ∧ t = l.drop (k + 1) := by
  have hpk : p.length = k := by
    rcases Nat.lt_trichotomy p.length k with h1 | h1 | h1
    · exfalso
      have : l[p.length]'(by omega) = e := by subst h; simp
      exact hne _ (by omega) h1 this
    · exact h1
    · exfalso
      have : l[k] ∈ p := by subst h; rw [List.getElem_append_left h1]; exact List.getElem_mem _
      rw [hlk] at this; exact hp this
  subst hpk
  subst h
  constructor
  · rw [List.take_left]
  · rw [show p.length + 1 = (p ++ [e]).length by simp, show p ++ e :: t = (p ++ [e]) ++ t by simp, List.drop_left]
theorem rd_first {e : UInt8} (he : EndB e) {l : List UInt8} {k : Nat} (hk : k < l.length) (hlk : l[k] = e) (hne : ∀ i (h : i < l.length), i < k → l[i] ≠ e) :
    (∀ n, I64 n → Lib.itoa n = l.take k → numRd e minI l = some (n, l.drop (k + 1))) ∧ ((∀ n, I64 n → Lib.itoa n = l.take k → False) → numRd e minI l = none) := by
  constructor
  · intro n hn hi
    refine (numRd_iff he).2 ⟨?_, hn, hn.1⟩
    rw [hi, ← hlk, ← List.drop_eq_getElem_cons hk, List.take_append_drop]
  · intro h
    cases hr : numRd e minI l with
    | none => rfl
    | some x =>
      obtain ⟨n, t⟩ := x
      obtain ⟨h1, h2, _⟩ := (numRd_iff he).1 hr
      exact (h n h2 (first_uniq hk hlk hne h1 (end_not he n)).1).elim
theorem rd_none {e : UInt8} (he : EndB e) {l : List UInt8} (h : ∀ i (h : i < l.length), i < 21 → l[i] ≠ e) : numRd e minI l = none := by
  cases hr : numRd e minI l with
  | none => rfl
  | some x =>
    obtain ⟨n, t⟩ := x
    obtain ⟨h1, h2, _⟩ := (numRd_iff he).1 hr
    have hl := itoa_len h2
    exfalso
    refine h (Lib.itoa n).length ?_ (by omega) ?_
    · rw [h1]; simp
    · subst h1; simp
theorem number_zero (e : UInt8) (he : EndB e) (r : RS) : numberF e 0 r = if (numberF e minI r).1 < 0 then (0, failS) else numberF e minI r := by
  unfold numberF
  cases hr : numRd e minI r.rest with
  | none =>
    have : numRd e 0 r.rest = none := by
      cases h0 : numRd e 0 r.rest with
      | none => rfl
      | some x =>
        obtain ⟨n, t⟩ := x
        obtain ⟨h1, h2, _⟩ := (numRd_iff he).1 h0
        have := (numRd_iff (least := minI) he).2 ⟨h1, h2, h2.1⟩
        rw [hr] at this; cases this
    rw [this]; rfl
  | some x =>
    obtain ⟨n, t⟩ := x
    obtain ⟨h1, h2, _⟩ := (numRd_iff he).1 hr
    dsimp only
    by_cases hn : n < 0
    · rw [if_pos hn]
      have : numRd e 0 r.rest = none := by
        cases h0 : numRd e 0 r.rest with
        | none => rfl
        | some x =>
          obtain ⟨n', t'⟩ := x
          obtain ⟨g1, g2, g3⟩ := (numRd_iff he).1 h0
          have := (numRd_iff (least := minI) he).2 ⟨g1, g2, g2.1⟩
          rw [hr] at this
          injection this with this
          injection this with this _
          omega
      rw [this]
    · rw [if_neg hn, (numRd_iff he).2 ⟨h1, h2, by omega⟩]

set_option maxRecDepth 100000 in
set_option maxHeartbeats 2000000 in
theorem ahead_any (b : Nat) (r : RS) (e : UInt8) (he : EndB e) (w : World) (h : RqAt w b r) (hl : r.rest.length ≤ 10000000) :
    Calls Tryz.prog 106 #[.pointer (some ⟨b, 0, none⟩), .int .u8 e.toNat] w fun en w' => en = .returned (.int .i64 (numberF e minI r).1) ∧ RqAt w' b (numberF e minI r).2 ∧ Upd (· = b) w w' := by
  obtain ⟨c0, c1, hf⟩ := cells2 h
  have HR := hid h; have HEB := hid he
  obtain ⟨l, bad⟩ := r
  dsimp only at *
  have RF := hid (fun (k : Nat) hk hlk hne => rd_first (l := l) (k := k) he hk hlk hne)
  have RN := hid (fun hne => rd_none (l := l) he hne)
  have NF0 := hid (fun (hx : numRd e minI l = none) => show numberF e minI ⟨l, bad⟩ = (0, failS) by unfold numberF; dsimp only; rw [hx])
  have NF1 := hid (fun (n : Int) (t : List UInt8) (hx : numRd e minI l = some (n, t)) => show numberF e minI ⟨l, bad⟩ = (n, ⟨t, bad⟩) by unfold numberF; dsimp only; rw [hx])
  have HL7 := hid hl
  clear h he
  go_enter Tryz.func106, Tryz.ntmps106
  go_wp2_with fail
  go_loopg [5] 21 (fun gg s5 wr => ∃ (k : Nat), k ≤ 21 ∧ k ≤ l.length ∧ gg = 21 - k ∧ s5 = .int .i64 k ∧ (∀ i (hi : i < l.length), i < k → l[i] ≠ e) ∧ w = wr)
  case atStart => exact ⟨0, by omega, by omega, rfl, rfl, fun i _ h => absurd h (Nat.not_lt_zero _), rfl⟩
  case round =>
    obtain ⟨k, hk21, hkl, hg, rfl, hne, rfl⟩ := hrel
    have HG := hid hg; have NE := hid hne
    clear hg hne
    by_cases hlt : k < l.length
    · have hlti : (k : Int) < l.length := by omega
      have hltb : decide ((l.length : Int) ≤ k) = false := decide_eq_false (by omega)
      have hltn : decide (l.length ≤ k) = false := decide_eq_false (by omega)
      obtain ⟨x, hx⟩ : ∃ x, l[k] = x := ⟨_, rfl⟩
      have hix : ∀ h, (ByteArray.mk l.toArray)[k]'h = x := fun h => (idx l k hlt h).trans hx
      have HX := hid hx
      clear hx
      by_cases hxe : x = e
      · subst hxe
        have hxn : ((x.toNat : Int) != x.toNat) = false := by simp
        have hxn2 : (x.toNat != x.toNat) = false := by simp
        have RF := hid (RF.out k hlt HX.out NE.out)
        by_cases h21 : k < 21
        · have h21i : (k : Int) < 21 := by omega
          have hext : (ByteArray.mk l.toArray).extract 0 k = ⟨(l.take k).toArray⟩ := ext_take l k
          have hL21 : (l.take k).length ≤ 21 := by rw [List.length_take]; omega
          have HL21 := hid hL21
          clear hL21
          generalize l.take k = L0 at *
          go_wp2_with fail
          refine (back_any L0 _ HL21.out).mono ?_
          rintro e1 w1 ⟨m, ok, rfl, u, g1, g2⟩
          have U := hid u
          have HRC := hid (HR.out.upd U.out id)
          clear u c0 c1 hf
          obtain ⟨c0, c1, hf⟩ := cells2 HRC.out
          cases ok
          · have hRN := RF.out.2 fun n hn hi => by have := (g2 n hn hi).1; cases this
            have HF := hid (NF0.out hRN)
            clear g1 g2 hRN
            go_wp2_with fail
            refine (qfail_any b ⟨l, bad⟩ _ HRC.out).mono ?_
            rintro e1 w2 ⟨rfl, hr, u⟩
            have HQ := hid hr; have UF := hid ((U.out.mono (T := (· = b)) fun _ h => h.elim).trans u)
            clear hr u
            go_wp2_with fail
            go_ret
            exact ⟨by rw [HF.out]; rfl, by rw [HF.out]; exact HQ.out, UF.out⟩
          · have hRN := RF.out.1 m (g1 rfl).1 (g1 rfl).2
            have HF := hid (NF1.out _ _ hRN)
            have hs := hid (store0 (x := .string ⟨(l.drop (k + 1)).toArray⟩) HRC.out)
            have hy : (ByteArray.mk l.toArray).extract (k + 1) l.length = ⟨(l.drop (k + 1)).toArray⟩ := ext_drop _ _ _ (Nat.le_refl _)
            have hk1 : (k : Int) + 1 ≤ l.length := by omega
            clear g1 g2 hRN
            go_wp2_with fail
            go_ret
            exact ⟨by rw [HF.out]; rfl, by rw [HF.out]; exact hs.out, (U.out.mono fun _ h => h.elim).at_ _ _⟩
        · have h21i : (21 : Int) ≤ k := by omega
          have h21b : decide ((k : Int) < 21) = false := decide_eq_false (by omega)
          have h21n : decide (k < 21) = false := decide_eq_false h21
          clear h21
          have hext : (ByteArray.mk l.toArray).extract 0 k = ⟨(l.take k).toArray⟩ := ext_take l k
          have hL21 : (l.take k).length ≤ 21 := by rw [List.length_take]; omega
          have HL21 := hid hL21
          clear hL21
          generalize l.take k = L0 at *
          go_wp2_with fail
          refine (back_any L0 _ HL21.out).mono ?_
          rintro e1 w1 ⟨m, ok, rfl, u, g1, g2⟩
          have U := hid u
          have HRC := hid (HR.out.upd U.out id)
          clear u c0 c1 hf
          obtain ⟨c0, c1, hf⟩ := cells2 HRC.out
          cases ok
          · have hRN := RF.out.2 fun n hn hi => by have := (g2 n hn hi).1; cases this
            have HF := hid (NF0.out hRN)
            clear g1 g2 hRN
            go_wp2_with fail
            refine (qfail_any b ⟨l, bad⟩ _ HRC.out).mono ?_
            rintro e1 w2 ⟨rfl, hr, u⟩
            have HQ := hid hr; have UF := hid ((U.out.mono (T := (· = b)) fun _ h => h.elim).trans u)
            clear hr u
            go_wp2_with fail
            go_ret
            exact ⟨by rw [HF.out]; rfl, by rw [HF.out]; exact HQ.out, UF.out⟩
          · have hRN := RF.out.1 m (g1 rfl).1 (g1 rfl).2
            have HF := hid (NF1.out _ _ hRN)
            have hs := hid (store0 (x := .string ⟨(l.drop (k + 1)).toArray⟩) HRC.out)
            have hy : (ByteArray.mk l.toArray).extract (k + 1) l.length = ⟨(l.drop (k + 1)).toArray⟩ := ext_drop _ _ _ (Nat.le_refl _)
            have hk1 : (k : Int) + 1 ≤ l.length := by omega
            clear g1 g2 hRN
            go_wp2_with fail
            go_ret
            exact ⟨by rw [HF.out]; rfl, by rw [HF.out]; exact hs.out, (U.out.mono fun _ h => h.elim).at_ _ _⟩
      · have hxb : ((x.toNat : Int) != e.toNat) = true := by rw [bne_iff_ne]; exact fun h => hxe (UInt8.toNat_inj.1 (by omega))
        have hxb2 : (x.toNat != e.toNat) = true := by rw [bne_iff_ne]; exact fun h => hxe (UInt8.toNat_inj.1 h)
        have HXE := hid hxe
        clear hxe
        by_cases h21 : k < 21
        · have h21i : (k : Int) < 21 := by omega
          go_wp2_with fail
          go_roundg (21 - (k + 1))
          case measure => have := HG.out; omega
          case rel =>
            refine ⟨k + 1, by omega, by omega, rfl, by go_num, fun i hi hik => ?_, rfl⟩
            by_cases e1 : i = k
            · subst e1; rw [HX.out]; exact HXE.out
            · exact NE.out i hi (by omega)
        · have h21i : (21 : Int) ≤ k := by omega
          have h21b : decide ((k : Int) < 21) = false := decide_eq_false (by omega)
          have h21n : decide (k < 21) = false := decide_eq_false h21
          have hRN := RN.out fun i hi h => NE.out i hi (by omega)
          have HF := hid (NF0.out hRN)
          clear h21 hRN
          go_wp2_with fail
          refine (qfail_any b ⟨l, bad⟩ _ HR.out).mono ?_
          rintro e1 w2 ⟨rfl, hr, u⟩
          have HQ := hid hr; have U := hid u
          clear hr u
          go_wp2_with fail
          go_ret
          exact ⟨by rw [HF.out]; rfl, by rw [HF.out]; exact HQ.out, U.out⟩
    · obtain rfl : k = l.length := by omega
      have hRN := RN.out fun i hi _ => NE.out i hi hi
      have HF := hid (NF0.out hRN)
      clear hRN
      go_wp2_with fail
      refine (qfail_any b ⟨l, bad⟩ _ HR.out).mono ?_
      rintro e1 w2 ⟨rfl, hr, u⟩
      have HQ := hid hr; have U := hid u
      clear hr u
      go_wp2_with fail
      go_ret
      exact ⟨by rw [HF.out]; rfl, by rw [HF.out]; exact HQ.out, U.out⟩


theorem qnumber_any (b : Nat) (r : RS) (e : UInt8) (he : EndB e) (w : World) (h : RqAt w b r) (hl : r.rest.length ≤ 10000000) :
    Calls Tryz.prog 104 #[.pointer (some ⟨b, 0, none⟩), .int .u8 e.toNat] w fun en w' => en = .returned (.int .i64 (numberF e 0 r).1) ∧ RqAt w' b (numberF e 0 r).2 ∧ Upd (· = b) w w' := by
  have HR := hid h; have HEB := hid he
  have NZ := hid (number_zero e he r)
  clear h he
  go_enter Tryz.func104, Tryz.ntmps104
  go_wp2_with fail
  refine (ahead_any b r e HEB.out _ HR.out hl).mono ?_
  rintro e1 w1 ⟨rfl, hr, u⟩
  have HQ := hid hr; have U := hid u
  clear hr u
  generalize hR : numberF e minI r = R at *
  obtain ⟨n, r1⟩ := R
  dsimp only at *
  clear hR
  by_cases hn : n < 0
  · have HF := hid (show numberF e 0 r = (0, failS) by rw [NZ.out, if_pos hn])
    go_wp2_with fail
    refine (qfail_any b r1 _ HQ.out).mono ?_
    rintro e1 w2 ⟨rfl, hr, u⟩
    have HQ2 := hid hr; have U2 := hid (U.out.trans u)
    clear hr u
    go_wp2_with fail
    go_ret
    exact ⟨by rw [HF.out]; rfl, by rw [HF.out]; exact HQ2.out, U2.out⟩
  · have HF := hid (show numberF e 0 r = (n, r1) by rw [NZ.out, if_neg hn])
    have hn0 : 0 ≤ n := by omega
    have hnb : decide (n < 0) = false := decide_eq_false hn
    clear hn
    go_wp2_with fail
    go_ret
    exact ⟨by rw [HF.out]; rfl, by rw [HF.out]; exact HQ.out, U.out⟩
theorem ahead_at (b : Nat) (r : RS) (e : UInt8) (c : Int) (hc : (e.toNat : Int) = c) (he : EndB e) (w : World) (h : RqAt w b r) (hl : r.rest.length ≤ 10000000) :
    Calls Tryz.prog 106 #[.pointer (some ⟨b, 0, none⟩), .int .u8 c] w fun en w' => en = .returned (.int .i64 (numberF e minI r).1) ∧ RqAt w' b (numberF e minI r).2 ∧ Upd (· = b) w w' := by
  subst hc; exact ahead_any b r e he w h hl
theorem qnumber_at (b : Nat) (r : RS) (e : UInt8) (c : Int) (hc : (e.toNat : Int) = c) (he : EndB e) (w : World) (h : RqAt w b r) (hl : r.rest.length ≤ 10000000) :
    Calls Tryz.prog 104 #[.pointer (some ⟨b, 0, none⟩), .int .u8 c] w fun en w' => en = .returned (.int .i64 (numberF e 0 r).1) ∧ RqAt w' b (numberF e 0 r).2 ∧ Upd (· = b) w w' := by
  subst hc; exact qnumber_any b r e he w h hl
theorem qclose_at (b : Nat) (r : RS) (c : UInt8) (d : Int) (hc : (c.toNat : Int) = d) (w : World) (h : RqAt w b r) (ho : r.bad = false) :
    Calls Tryz.prog 105 #[.pointer (some ⟨b, 0, none⟩), .int .u8 d] w fun e w' => e = .returned (.bool (!(closeF c r).bad)) ∧ RqAt w' b (closeF c r) ∧ Upd (· = b) w w' := by
  subst hc; exact qclose_any b r c w h ho
theorem qNumR_any (b : Nat) (r : RS) (w : World) (h : RqAt w b r) (hl : r.rest.length ≤ 10000000) :
    Calls Tryz.prog 51 #[.pointer (some ⟨b, 0, none⟩)] w fun e w' => e = .returned (.int .i64 (numF r).1) ∧ RqAt w' b (numF r).2 ∧ Upd (· = b) w w' := by
  have HR := hid h
  clear h
  go_enter Tryz.func51, Tryz.ntmps51
  go_wp2_with fail
  refine (qnumber_at b r 59 59 (by decide) end59 _ HR.out hl).mono ?_
  rintro e w1 ⟨rfl, hr, u⟩
  have HQ := hid hr; have U := hid u
  clear hr u
  go_wp2_with fail
  go_ret
  exact ⟨rfl, HQ.out, U.out⟩
theorem qIntR_any (b : Nat) (r : RS) (w : World) (h : RqAt w b r) (hl : r.rest.length ≤ 10000000) :
    Calls Tryz.prog 53 #[.pointer (some ⟨b, 0, none⟩)] w fun e w' => e = .returned (.int .i64 (intF r).1) ∧ RqAt w' b (intF r).2 ∧ Upd (· = b) w w' := by
  have HR := hid h
  clear h
  go_enter Tryz.func53, Tryz.ntmps53
  go_wp2_with fail
  refine (ahead_at b r 59 59 (by decide) end59 _ HR.out hl).mono ?_
  rintro e w1 ⟨rfl, hr, u⟩
  have HQ := hid hr; have U := hid u
  clear hr u
  go_wp2_with fail
  go_ret
  exact ⟨rfl, HQ.out, U.out⟩

set_option maxHeartbeats 2000000 in
theorem qTextR_any (b : Nat) (r : RS) (w : World) (h : RqAt w b r) (hl : r.rest.length ≤ 10000000) (hok : r.Ok) :
    Calls Tryz.prog 55 #[.pointer (some ⟨b, 0, none⟩)] w fun e w' => e = .returned (.string ⟨(textF r).1.toArray⟩) ∧ RqAt w' b (textF r).2 ∧ Upd (· = b) w w' := by
  have HR := hid h
  have hge := numberF_ge 58 r
  have hlen := numberF_len 58 0 r
  have hok1 := numberF_ok 58 0 hok
  have hT : textF r = (if (((numberF 58 0 r).2.rest.length : Nat) : Int) < (numberF 58 0 r).1 then ([], failS)
    else if (closeF 44 ⟨(numberF 58 0 r).2.rest.drop (numberF 58 0 r).1.toNat, (numberF 58 0 r).2.bad⟩).bad then ([], closeF 44 ⟨(numberF 58 0 r).2.rest.drop (numberF 58 0 r).1.toNat, (numberF 58 0 r).2.bad⟩)
    else ((numberF 58 0 r).2.rest.take (numberF 58 0 r).1.toNat, closeF 44 ⟨(numberF 58 0 r).2.rest.drop (numberF 58 0 r).1.toNat, (numberF 58 0 r).2.bad⟩)) := rfl
  have HT := hid hT
  clear h hok hT
  go_enter Tryz.func55, Tryz.ntmps55
  go_wp2_with fail
  refine (qnumber_at b r 58 58 (by decide) end58 _ HR.out hl).mono ?_
  rintro e w1 ⟨rfl, hr, u⟩
  have HQ := hid hr; have U := hid u
  clear hr u
  generalize (numberF 58 0 r).1 = n at *
  generalize (numberF 58 0 r).2 = r1 at *
  obtain ⟨l, bad⟩ := r1
  dsimp only at *
  obtain ⟨k, rfl⟩ := Int.eq_ofNat_of_zero_le hge
  rw [Int.toNat_natCast] at HT
  obtain ⟨c0, c1, hf⟩ := cells2 HQ.out
  dsimp only at c0 c1
  by_cases hbad : bad = true
  · subst hbad
    have hnil : l = [] := hok1 rfl
    have HF := hid (show textF r = ([], failS) by
      rw [HT.out]
      subst hnil
      split
      · rfl
      · simp [closeF, failS])
    clear hnil
    go_wp2_with fail
    refine (qfail_any b ⟨l, true⟩ _ HQ.out).mono ?_
    rintro e1 w2 ⟨rfl, hr, u⟩
    have HQ2 := hid hr; have U2 := hid (U.out.trans u)
    clear hr u
    go_wp2_with fail
    go_ret
    exact ⟨by rw [HF.out]; rfl, by rw [HF.out]; exact HQ2.out, U2.out⟩
  obtain rfl : bad = false := by simpa using hbad
  clear hbad hok1
  by_cases hkl : l.length ≤ k
  · have hkli : (l.length : Int) ≤ k := by omega
    have HF := hid (show textF r = ([], failS) by
      rw [HT.out]
      by_cases h1 : ((l.length : Nat) : Int) < k
      · rw [if_pos h1]
      · rw [if_neg h1, List.drop_of_length_le hkl]
        simp [closeF, failS])
    clear hkl
    go_wp2_with fail
    refine (qfail_any b ⟨l, false⟩ _ HQ.out).mono ?_
    rintro e1 w2 ⟨rfl, hr, u⟩
    have HQ2 := hid hr; have U2 := hid (U.out.trans u)
    clear hr u
    go_wp2_with fail
    go_ret
    exact ⟨by rw [HF.out]; rfl, by rw [HF.out]; exact HQ2.out, U2.out⟩
  have hkli : (k : Int) < l.length := by omega
  have hklb : decide ((l.length : Int) ≤ k) = false := decide_eq_false (by omega)
  have hkln : decide (l.length ≤ k) = false := decide_eq_false hkl
  have HT2 := hid (HT.out.trans (if_neg (by omega)))
  have hx1 : (ByteArray.mk l.toArray).extract 0 k = ⟨(l.take k).toArray⟩ := ext_take l k
  have hx2 : (ByteArray.mk l.toArray).extract k l.length = ⟨(l.drop k).toArray⟩ := ext_drop _ _ _ (Nat.le_refl _)
  have hs := hid (store0 (x := .string ⟨(l.drop k).toArray⟩) HQ.out)
  have US := hid (U.out.at_ 0 (.string ⟨(l.drop k).toArray⟩))
  clear hkl
  generalize l.take k = S at *
  generalize l.drop k = T at *
  go_wp2_with fail
  refine (qclose_at b ⟨T, false⟩ 44 44 (by decide) _ hs.out rfl).mono ?_
  rintro e1 w2 ⟨rfl, hr, u⟩
  have HQ2 := hid hr; have U2 := hid (US.out.trans u)
  clear hr u
  cases hb2 : (closeF 44 ⟨T, false⟩).bad with
  | true =>
    have hT := HT2.out
    rw [hb2, if_pos rfl] at hT
    have HF := hid hT
    clear hT hb2
    go_wp2_with fail
    go_ret
    exact ⟨by rw [HF.out]; rfl, by rw [HF.out]; exact HQ2.out, U2.out⟩
  | false =>
    have hT := HT2.out
    rw [hb2, if_neg (by decide)] at hT
    have HF := hid hT
    clear hT hb2
    go_wp2_with fail
    go_ret
    exact ⟨by rw [HF.out]; rfl, by rw [HF.out]; exact HQ2.out, U2.out⟩
end Go.Proofs.YtdcahnkcnbhknaaGreatDoor
