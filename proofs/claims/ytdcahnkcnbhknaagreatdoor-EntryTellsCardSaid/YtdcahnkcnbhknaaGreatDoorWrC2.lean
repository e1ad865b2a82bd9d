/- Readers: close, number. -/
/- Readers: numbers, strings, lists. -/
import Derived.Test.YtdcahnkcnbhknaaGreatDoorWrB1
namespace Go.Proofs.YtdcahnkcnbhknaaGreatDoor
open Go.RowKit Go.Deep

theorem cut_yes (t : List UInt8) (c : UInt8) (w : World) :
    Calls Tryz.prog 121 #[.string ⟨(c :: t).toArray⟩, .string ⟨#[c]⟩] w fun e w' => e = .returned (.tuple #[.string ⟨t.toArray⟩, .bool true]) ∧ w = w' :=
  (Tryz.strings_CutPrefix _ _ w).mono fun _ _ ⟨he, hw⟩ => ⟨by rw [he]; simp [Lib.trimPrefix, Lib.hasPrefix], hw.symm⟩
theorem cut_no (l : List UInt8) (c : UInt8) (h : l.head? ≠ some c) (w : World) :
    Calls Tryz.prog 121 #[.string ⟨l.toArray⟩, .string ⟨#[c]⟩] w fun e w' => e = .returned (.tuple #[.string ⟨l.toArray⟩, .bool false]) ∧ w = w' := by
  have hp : Lib.hasPrefix l [c] = false := by
    cases l with
    | nil => rfl
    | cons b t =>
      have hb : b ≠ c := fun e => h (by rw [e]; rfl)
      rw [hasPrefix_one]
      simpa using hb
  exact (Tryz.strings_CutPrefix _ _ w).mono fun _ _ ⟨he, hw⟩ => ⟨by rw [he]; simp [Lib.trimPrefix, hp], hw.symm⟩

theorem close_any (b : Nat) (r : RS) (c : UInt8) (w : World) (h : RdAt w b r) :
    Calls Tryz.prog 103 #[.pointer (some ⟨b, 0, none⟩), .string ⟨#[c]⟩] w fun e w' => e = .returned (.tuple #[]) ∧ RdAt w' b (closeF c r) ∧ Upd (· = b) w w' := by
  obtain ⟨c0, c1, hf⟩ := cells2 h
  have HR := hid h
  obtain ⟨l, bad⟩ := r
  dsimp only at *
  clear h
  by_cases hh : ∃ t, l = c :: t
  · obtain ⟨t, rfl⟩ := hh
    have hc := hid (show closeF c ⟨c :: t, bad⟩ = ⟨t, bad⟩ by unfold closeF; dsimp only; rw [if_pos rfl])
    have hs := hid (store0 (x := .string ⟨t.toArray⟩) HR.out)
    go_enter Tryz.func103, Tryz.ntmps103
    go_wp2_with fail
    refine (cut_yes t c _).mono ?_
    rintro e w' ⟨rfl, rfl⟩
    go_wp2_with fail
    go_end0
    exact ⟨rfl, by rw [hc.out]; exact hs.out, (Upd.refl _ _).at_ _ _⟩
  · have hc := hid (show closeF c ⟨l, bad⟩ = failS by
      unfold closeF; dsimp only
      cases l with
      | nil => rfl
      | cons x t => dsimp only; rw [if_neg fun e => hh ⟨t, by rw [e]⟩])
    have hn := hid (show l.head? ≠ some c from fun e => by
      cases l with
      | nil => cases e
      | cons x t => injection e with e; exact hh ⟨t, by rw [e]⟩)
    have hs := hid (store0 (x := .string ⟨l.toArray⟩) HR.out)
    clear hh
    go_enter Tryz.func103, Tryz.ntmps103
    go_wp2_with fail
    refine (cut_no l c hn.out _).mono ?_
    rintro e w' ⟨rfl, rfl⟩
    go_wp2_with fail
    refine (fail_any b ⟨l, bad⟩ _ hs.out).mono ?_
    rintro e w' ⟨rfl, hr, u⟩
    have HF := hid hr; have U := hid u
    clear hr u
    go_wp2_with fail
    go_end0
    exact ⟨rfl, by rw [hc.out]; exact HF.out, ((Upd.refl _ _).at_ _ _).trans U.out⟩

theorem index_any (l : List UInt8) (e : UInt8) (w : World) :
    Calls Tryz.prog 119 #[.string ⟨l.toArray⟩, .int .u8 e.toNat] w fun e' w' => e' = .returned (.int .i64 (Lib.indexByte l e)) ∧ w = w' :=
  (Tryz.strings_IndexByte _ _ w).mono fun _ _ ⟨he, hw⟩ => ⟨by rw [he]; simp, hw.symm⟩
theorem index_le (l : List UInt8) (e : UInt8) : Lib.indexByte l e < l.length ∨ Lib.indexByte l e = -1 := by
  by_cases h : 0 ≤ Lib.indexByte l e
  · obtain ⟨p, t, hp, _, hi⟩ := index_some h
    left; rw [hi, hp]; simp; omega
  · right
    have := Lib.indexByte_ge l e
    omega

/-- What Atoi gives: the number and no error, or an error. -/
def AtoiPost (l : List UInt8) (w : World) (e : Ending) (w' : World) : Prop :=
  (∃ n, Lib.atoiAll l = .ok n ∧ e = .returned (.tuple #[.int .i64 n, .nilIface]) ∧ Upd (fun _ => False) w w') ∨
  (∃ n g, (∀ m, Lib.atoiAll l ≠ .ok m) ∧ e = .returned (.tuple #[.int .i64 n, .iface 142 (.pointer (some ⟨g, 0, none⟩))]) ∧ Upd (fun _ => False) w w')
theorem atoi_any (l : List UInt8) (hl : l.length ≤ 10000000) (w : World) (E : Env w) : Calls Tryz.prog 120 #[.string ⟨l.toArray⟩] w (AtoiPost l w) := by
  have hs : (ByteArray.mk l.toArray).size ≤ 10000000 := by simpa [ByteArray.size] using hl
  have hd : (ByteArray.mk l.toArray).data.toList = l := by simp
  cases h : Lib.atoiAll l with
  | ok n =>
    refine (Tryz.strconv_Atoi_ok _ (by omega) n (by rw [hd]; exact h) w).mono fun e w' ⟨he, hw⟩ => .inl ⟨n, h, he, ?_⟩
    rcases hw with rfl | ⟨t, rfl⟩
    · exact Upd.refl _ _
    · exact upd_of_below (Lib.bytesWorld_below _ _ _)
  | range =>
    obtain ⟨tp, p, hv⟩ := E.rng
    exact (Tryz.strconv_Atoi_range_var _ (by omega) (by rw [hd]; exact h) tp p w hv).mono fun e w' ⟨N, he, _, _, hb⟩ => .inr ⟨_, N, (fun m e => by rw [h] at e; cases e), he, upd_of_below hb⟩
  | _ =>
    obtain ⟨tp, p, hv⟩ := E.syn
    exact (Tryz.strconv_Atoi_syntax_var _ (by omega) (by rw [hd]; exact h) tp p w hv).mono fun e w' ⟨N, he, _, _, hb⟩ => .inr ⟨_, N, (fun m e => by rw [h] at e; cases e), he, upd_of_below hb⟩

theorem ext_take (l : List UInt8) (k : Nat) : (ByteArray.mk l.toArray).extract 0 k = ⟨(l.take k).toArray⟩ := by
  apply ByteArray.ext
  simp [ByteArray.data_extract]
theorem ext_drop (l : List UInt8) (k n : Nat) (h : l.length ≤ n) : (ByteArray.mk l.toArray).extract k n = ⟨(l.drop k).toArray⟩ := by
  apply ByteArray.ext
  simp [ByteArray.data_extract]
  rw [List.take_of_length_le (by simp; omega)]
theorem head21 (l : List UInt8) : (ByteArray.mk l.toArray).extract 0 (min (l.length : Int) 21).toNat = ⟨(l.take 21).toArray⟩ := by
  rw [ext_take]
  congr 2
  rw [show (min (l.length : Int) 21).toNat = min 21 l.length by omega]
  exact (List.take_eq_take_min).symm

set_option maxHeartbeats 4000000 in
theorem number_any (b : Nat) (r : RS) (e : UInt8) (least : Int) (w : World) (E : Env w) (h : RdAt w b r) (hb : 6 ≤ b) (hl : r.rest.length ≤ 10000000) (hm : I64 least) :
    Calls Tryz.prog 100 #[.pointer (some ⟨b, 0, none⟩), .int .u8 e.toNat, .int .i64 least] w fun en w' => en = .returned (.int .i64 (numberF e least r).1) ∧ RdAt w' b (numberF e least r).2 ∧ Upd (· = b) w w' := by
  obtain ⟨c0, c1, hf⟩ := cells2 h
  have HR := hid h; have HE := hid E; have HM := hid hm
  obtain ⟨l, bad⟩ := r
  dsimp only at *
  clear h E hm
  have hle := index_le (l.take 21) e
  rw [List.length_take] at hle
  generalize hat : Lib.indexByte (l.take 21) e = at_ at *
  have HAT := hid hat
  clear hat
  by_cases h0 : at_ < 0
  · have hn := hid (show numRd e least l = none by unfold numRd; rw [HAT.out, if_pos h0])
    have hF := hid (show numberF e least ⟨l, bad⟩ = (0, failS) by unfold numberF; dsimp only; rw [hn.out])
    go_enter Tryz.func100, Tryz.ntmps100
    go_wp2_with fail
    go_quiet (fail)
    rw [head21]
    go_wp2_with fail
    refine (index_any (l.take 21) e _).mono ?_
    rintro e1 w1 ⟨rfl, hw1⟩
    rw [HAT.out]
    subst hw1
    go_wp2_with fail
    refine (fail_any b ⟨l, bad⟩ _ (HR.out.upd (S := fun _ => False) ((Upd.refl _ _).drewN _) id)).mono ?_
    rintro e1 w2 ⟨rfl, hr, u⟩
    have HF := hid hr; have U := hid (((Upd.refl _ _).drewN _).trans u)
    clear hr u
    go_wp2_with fail
    go_ret
    exact ⟨by rw [hF.out]; rfl, by rw [hF.out]; exact HF.out, U.out⟩
  · obtain ⟨k, rfl⟩ := Int.eq_ofNat_of_zero_le (show 0 ≤ at_ by omega)
    have hk : k < l.length ∧ k < 21 := by omega
    have hki : (k : Int) ≤ (l.take 21).length := by rw [List.length_take]; omega
    have hki2 : (k : Int) < l.length := by omega
    have e2 : ((l.take 21).take k) = l.take k := by rw [List.take_take, Nat.min_eq_left (by omega)]
    have E2 := hid e2
    have hpl : (l.take k).length ≤ 10000000 := by rw [List.length_take]; omega
    clear hle e2
    go_enter Tryz.func100, Tryz.ntmps100
    go_wp2_with fail
    go_quiet (fail)
    rw [head21]
    go_wp2_with fail
    refine (index_any (l.take 21) e _).mono ?_
    rintro e1 w1 ⟨rfl, hw1⟩
    rw [HAT.out]
    subst hw1
    have hx : (ByteArray.mk (l.take 21).toArray).extract 0 k = ⟨(l.take k).toArray⟩ := by rw [ext_take, E2.out]
    have hkk : k ≤ (l.take 21).length := by rw [List.length_take]; omega
    clear E2
    have hrd : numRd e least l = (match Lib.atoiAll (l.take k) with
      | .ok n => if Lib.itoa n = l.take k ∧ least ≤ n then some (n, l.drop (k + 1)) else none
      | _ => none) := by unfold numRd; rw [HAT.out, if_neg (by omega), Int.toNat_natCast]; rfl
    have HRD := hid hrd
    clear hrd
    generalize l.take 21 = hd at *
    go_wp2_with fail
    refine (atoi_any (l.take k) hpl _ (HE.out.keep0 ((Upd.refl _ _).drewN _))).mono ?_
    rintro e1 w2 (⟨n, hn, rfl, u⟩ | ⟨n, g, hn, rfl, u⟩)
    · have hni := atoi_i64 hn
      have hrd := HRD.out
      rw [hn] at hrd
      dsimp only at hrd
      have HRD := hid hrd; have U := hid (((Upd.refl _ _).drewN _).trans u); have HNI := hid hni
      clear hn u hni hrd
      go_upto_region 7 with (fail)
      obtain ⟨bx, HBX⟩ : ∃ bx : Bool, Hid (bx = true ↔ ¬ (Lib.itoa n = l.take k ∧ least ≤ n)) := ⟨decide (¬ (Lib.itoa n = l.take k ∧ least ≤ n)), hid decide_eq_true_iff⟩
      go_cut [50] (fun s wx => s = .bool bx ∧ Upd (fun _ => False) w2 wx)
      case first =>
        by_cases hq : Lib.itoa n = l.take k
        · have hqb : (Lib.itoa n == l.take k) = true := beq_iff_eq.2 hq
          by_cases hl2 : n < least
          · obtain rfl : bx = true := HBX.out.2 fun h => by have := h.2; omega
            clear hq
            go_region_held3 (fun _ => True) (trivial) ((go_at_call 111; refine (itoa_any n HNI.out _ (HE.out.keep0 (U.out.drew))).mono ?_; rintro e w3 ⟨rfl, u3⟩; have U3 := hid u3; clear u3))
            all_goals
              go_wp2_with fail
              go_meet
              case rel => exact ⟨rfl, ((Upd.refl _ _).drew).trans U3.out⟩
          · obtain rfl : bx = false := Bool.eq_false_iff.2 fun h => HBX.out.1 h ⟨hq, by omega⟩
            clear hq
            have hl3 : decide (n < least) = false := decide_eq_false hl2
            go_region_held3 (fun _ => True) (trivial) ((go_at_call 111; refine (itoa_any n HNI.out _ (HE.out.keep0 (U.out.drew))).mono ?_; rintro e w3 ⟨rfl, u3⟩; have U3 := hid u3; clear u3))
            all_goals
              go_wp2_with fail
              go_meet
              case rel => exact ⟨rfl, ((Upd.refl _ _).drew).trans U3.out⟩
        · have hqb : (Lib.itoa n == l.take k) = false := beq_eq_false_iff_ne.2 hq
          obtain rfl : bx = true := HBX.out.2 fun h => hq h.1
          clear hq
          first | (go_region_with (go_at_call 111; refine (itoa_any n HNI.out _ (HE.out.keep0 (U.out.drew))).mono ?_; rintro e w3 ⟨rfl, u3⟩; have U3 := hid u3; clear u3)) | fail
          all_goals
            go_wp2_with fail
            go_meet
            case rel => exact ⟨rfl, ((Upd.refl _ _).drew).trans U3.out⟩
      case rest =>
        obtain ⟨rfl, uc⟩ := hcut
        have UC := hid (U.out.trans uc)
        have HRC := hid (HR.out.upd UC.out id)
        obtain ⟨d0, d1, df⟩ := cells2 HRC.out
        clear uc c0 c1 hf
        cases bx
        · have hgood : Lib.itoa n = l.take k ∧ least ≤ n := Decidable.not_not.1 fun h => by have := HBX.out.2 h; cases this
          have hF : numberF e least ⟨l, bad⟩ = (n, ⟨l.drop (k + 1), bad⟩) := by unfold numberF; dsimp only; rw [HRD.out, if_pos hgood]
          have HF := hid hF
          have hs := hid (store0 (x := .string ⟨(l.drop (k + 1)).toArray⟩) HRC.out)
          have hy : (ByteArray.mk l.toArray).extract (k + 1) l.length = ⟨(l.drop (k + 1)).toArray⟩ := ext_drop _ _ _ (Nat.le_refl _)
          have hk1 : (k : Int) + 1 ≤ l.length := by omega
          clear hgood hF
          go_wp2_with fail
          go_ret
          exact ⟨by rw [HF.out]; rfl, by rw [HF.out]; exact hs.out, (UC.out.mono fun _ h => h.elim).at_ _ _⟩
        · have hbad : ¬ (Lib.itoa n = l.take k ∧ least ≤ n) := HBX.out.1 rfl
          have hF : numberF e least ⟨l, bad⟩ = (0, failS) := by unfold numberF; dsimp only; rw [HRD.out, if_neg hbad]
          have HF := hid hF
          clear hbad hF
          go_wp2_with fail
          refine (fail_any b ⟨l, bad⟩ _ HRC.out).mono ?_
          rintro e1 w4 ⟨rfl, hr, u⟩
          have HQ := hid hr; have UF := hid ((UC.out.mono fun _ h => h.elim).trans u)
          clear hr u
          go_wp2_with fail
          go_ret
          exact ⟨by rw [HF.out]; rfl, by rw [HF.out]; exact HQ.out, UF.out⟩
    · have hF : numberF e least ⟨l, bad⟩ = (0, failS) := by
        unfold numberF; dsimp only; rw [HRD.out]
        cases h : Lib.atoiAll (l.take k) with
        | ok m => exact absurd h (hn m)
        | _ => rfl
      have HF := hid hF; have U := hid (((Upd.refl _ _).drewN _).trans u)
      clear hF hn u
      have HRC := hid (HR.out.upd U.out id)
      go_wp2_with fail
      go_quiet (fail)
      go_wp2_with fail
      refine (fail_any b ⟨l, bad⟩ _ (HRC.out.upd (S := fun _ => False) ((Upd.refl _ _).drewN _) id)).mono ?_
      rintro e1 w4 ⟨rfl, hr, u⟩
      have HQ := hid hr; have UF := hid ((((U.out.drewN _).mono fun _ h => h.elim)).trans u)
      clear hr u
      go_wp2_with fail
      go_ret
      exact ⟨by rw [HF.out]; rfl, by rw [HF.out]; exact HQ.out, UF.out⟩
end Go.Proofs.YtdcahnkcnbhknaaGreatDoor
namespace Go.Proofs.YtdcahnkcnbhknaaGreatDoor
open Go.RowKit Go.Deep

theorem number_at (b : Nat) (r : RS) (e : UInt8) (least c : Int) (w : World) (hc : (e.toNat : Int) = c) (E : Env w) (h : RdAt w b r) (hb : 6 ≤ b) (hl : r.rest.length ≤ 10000000) (hm : I64 least) :
    Calls Tryz.prog 100 #[.pointer (some ⟨b, 0, none⟩), .int .u8 c, .int .i64 least] w fun en w' => en = .returned (.int .i64 (numberF e least r).1) ∧ RdAt w' b (numberF e least r).2 ∧ Upd (· = b) w w' := by
  subst hc; exact number_any b r e least w E h hb hl hm
theorem numberF_ge (e : UInt8) (r : RS) : 0 ≤ (numberF e 0 r).1 := by
  rcases numberF_cases e 0 r with ⟨n, t, _, h2, _, _, h3⟩ | ⟨_, h2⟩
  · rw [h2]; exact h3
  · rw [h2]; exact Int.le_refl 0

theorem intR_any (b : Nat) (r : RS) (w : World) (E : Env w) (h : RdAt w b r) (hb : 6 ≤ b) (hl : r.rest.length ≤ 10000000) :
    Calls Tryz.prog 46 #[.pointer (some ⟨b, 0, none⟩)] w fun e w' => e = .returned (.int .i64 (intF r).1) ∧ RdAt w' b (intF r).2 ∧ Upd (· = b) w w' := by
  have HR := hid h; have HE := hid E
  clear h E
  go_enter Tryz.func46, Tryz.ntmps46
  go_wp2_with fail
  refine (number_at b r 59 minI 59 _ (by decide) HE.out HR.out hb hl (by unfold I64 minI; omega)).mono ?_
  rintro e w1 ⟨rfl, hr, u⟩
  have HQ := hid hr; have U := hid u
  clear hr u
  go_wp2_with fail
  go_ret
  exact ⟨rfl, HQ.out, U.out⟩
theorem numR_any (b : Nat) (r : RS) (w : World) (E : Env w) (h : RdAt w b r) (hb : 6 ≤ b) (hl : r.rest.length ≤ 10000000) :
    Calls Tryz.prog 44 #[.pointer (some ⟨b, 0, none⟩)] w fun e w' => e = .returned (.int .i64 (numF r).1) ∧ RdAt w' b (numF r).2 ∧ Upd (· = b) w w' := by
  have HR := hid h; have HE := hid E
  clear h E
  go_enter Tryz.func44, Tryz.ntmps44
  go_wp2_with fail
  refine (number_at b r 59 0 59 _ (by decide) HE.out HR.out hb hl (by unfold I64; omega)).mono ?_
  rintro e w1 ⟨rfl, hr, u⟩
  have HQ := hid hr; have U := hid u
  clear hr u
  go_wp2_with fail
  go_ret
  exact ⟨rfl, HQ.out, U.out⟩

set_option maxHeartbeats 1000000 in
theorem textR_any (b : Nat) (r : RS) (w : World) (E : Env w) (h : RdAt w b r) (hb : 6 ≤ b) (hl : r.rest.length ≤ 10000000) :
    Calls Tryz.prog 48 #[.pointer (some ⟨b, 0, none⟩)] w fun e w' => e = .returned (.string ⟨(textF r).1.toArray⟩) ∧ RdAt w' b (textF r).2 ∧ Upd (· = b) w w' := by
  have HR := hid h; have HE := hid E
  have htf := hid (show textF r = _ from rfl)
  have hge := numberF_ge 58 r
  have hlen := numberF_len 58 0 r
  have hi := hid (numberF_i64 58 0 r)
  clear h E
  go_enter Tryz.func48, Tryz.ntmps48
  go_wp2_with fail
  refine (number_at b r 58 0 58 _ (by decide) HE.out HR.out hb hl (by unfold I64; omega)).mono ?_
  rintro e w1 ⟨rfl, hr, u⟩
  have HQ := hid hr; have U := hid u
  clear hr u
  have hT : textF r = (if (((numberF 58 0 r).2.rest.length : Nat) : Int) < (numberF 58 0 r).1 then ([], failS)
    else if (closeF 44 ⟨(numberF 58 0 r).2.rest.drop (numberF 58 0 r).1.toNat, (numberF 58 0 r).2.bad⟩).bad then ([], closeF 44 ⟨(numberF 58 0 r).2.rest.drop (numberF 58 0 r).1.toNat, (numberF 58 0 r).2.bad⟩)
    else ((numberF 58 0 r).2.rest.take (numberF 58 0 r).1.toNat, closeF 44 ⟨(numberF 58 0 r).2.rest.drop (numberF 58 0 r).1.toNat, (numberF 58 0 r).2.bad⟩)) := rfl
  have HT := hid hT
  clear hT htf
  generalize (numberF 58 0 r).1 = n at *
  generalize (numberF 58 0 r).2 = r1 at *
  obtain ⟨l, bad⟩ := r1
  dsimp only at *
  obtain ⟨c0, c1, hf⟩ := cells2 HQ.out
  obtain ⟨k, rfl⟩ := Int.eq_ofNat_of_zero_le hge
  by_cases hlt : l.length < k
  · have HF := hid (show textF r = ([], failS) by rw [HT.out, if_pos (by omega)])
    have hki : (l.length : Int) < k := by omega
    go_wp2_with fail
    refine (fail_any b _ _ HQ.out).mono ?_
    rintro e w2 ⟨rfl, hr, u⟩
    have HQ2 := hid hr; have U2 := hid (U.out.trans u)
    clear hr u
    go_wp2_with fail
    go_ret
    exact ⟨by rw [HF.out]; rfl, by rw [HF.out]; exact HQ2.out, U2.out⟩
  · have hT := HT.out
    rw [if_neg (by omega), Int.toNat_natCast] at hT
    have HT2 := hid hT
    have hki : (k : Int) ≤ l.length := by omega
    have hx1 : (ByteArray.mk l.toArray).extract 0 k = ⟨(l.take k).toArray⟩ := ext_take l k
    have hx2 : (ByteArray.mk l.toArray).extract k l.length = ⟨(l.drop k).toArray⟩ := ext_drop l k _ (Nat.le_refl _)
    have hs := hid (store0 (x := .string ⟨(l.drop k).toArray⟩) HQ.out)
    clear hT HT
    go_wp2_with fail
    refine (close_any b ⟨l.drop k, bad⟩ 44 _ hs.out).mono ?_
    rintro e w2 ⟨rfl, hr, u⟩
    have U2 := hid ((U.out.at_ _ _).trans u); have HQ2 := hid hr
    clear hr u c0 c1 hf
    obtain ⟨c0, c1, hf⟩ := cells2 HQ2.out
    cases hb2 : (closeF 44 ⟨l.drop k, bad⟩).bad with
    | true =>
      have hT := HT2.out
      rw [hb2, if_pos rfl] at hT
      have HF := hid hT
      rw [hb2] at c1
      clear hT hb2
      go_wp2_with fail
      go_ret
      exact ⟨by rw [HF.out]; rfl, by rw [HF.out]; exact HQ2.out, U2.out⟩
    | false =>
      have hT := HT2.out
      rw [hb2, if_neg (by decide)] at hT
      have HF := hid hT
      rw [hb2] at c1
      clear hT hb2
      go_wp2_with fail
      go_ret
      exact ⟨by rw [HF.out]; rfl, by rw [HF.out]; exact HQ2.out, U2.out⟩

theorem left_any (b : Nat) (r : RS) (w : World) (h : RdAt w b r) :
    Calls Tryz.prog 47 #[.pointer (some ⟨b, 0, none⟩)] w fun e w' => e = .returned (.int .i64 r.rest.length) ∧ w = w' := by
  obtain ⟨c0, c1, hf⟩ := cells2 h
  clear h
  go_enter Tryz.func47, Tryz.ntmps47
  go_wp2_with fail
  go_ret
  exact ⟨rfl, rfl⟩
def doneF (r : RS) : Bool := !r.bad && r.rest.isEmpty
theorem done_any (b : Nat) (r : RS) (w : World) (h : RdAt w b r) :
    Calls Tryz.prog 49 #[.pointer (some ⟨b, 0, none⟩)] w fun e w' => e = .returned (.bool (doneF r)) ∧ w = w' := by
  obtain ⟨c0, c1, hf⟩ := cells2 h
  clear h
  obtain ⟨l, bad⟩ := r
  dsimp only at *
  cases bad
  · go_enter Tryz.func49, Tryz.ntmps49
    go_wp2_with fail
    go_ret
    exact ⟨by unfold doneF; cases l <;> rfl, rfl⟩
  · go_enter Tryz.func49, Tryz.ntmps49
    go_wp2_with fail
    go_ret
    exact ⟨rfl, rfl⟩
end Go.Proofs.YtdcahnkcnbhknaaGreatDoor
