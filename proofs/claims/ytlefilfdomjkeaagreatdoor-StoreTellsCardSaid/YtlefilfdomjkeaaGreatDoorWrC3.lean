/- Readers: close, number. -/
/- Readers: numbers, strings, lists. -/
/- Readers: lists. -/
import Derived.Test.YtlefilfdomjkeaaGreatDoorWrB1
namespace Go.Proofs.YtlefilfdomjkeaaGreatDoor
open Go.RowKit Go.Deep

theorem index_any (l : List UInt8) (e : UInt8) (w : World) :
    Calls Tryz.prog 86 #[.string ⟨l.toArray⟩, .int .u8 e.toNat] w fun e' w' => e' = .returned (.int .i64 (Lib.indexByte l e)) ∧ w = w' :=
  (Tryz.strings_IndexByte _ _ w).mono fun _ _ ⟨he, hw⟩ => ⟨by rw [he]; simp, hw.symm⟩
theorem index_le (l : List UInt8) (e : UInt8) : Lib.indexByte l e < l.length ∨ Lib.indexByte l e = -1 := by
  by_cases h : 0 ≤ Lib.indexByte l e
  · obtain ⟨p, t, hp, _, hi⟩ := index_some h
    left; rw [hi, hp]; simp; omega
  · right
    have := Lib.indexByte_ge l e
    omega

/-- What Atoi gives: the number and no error, or an error. -/
def AtoiPost (l : List UInt8) (w : World) (e : Ending) (w' : World) : Prop :=
  (∃ n, Lib.atoiAll l = .ok n ∧ e = .returned (.tuple #[.int .i64 n, .nilIface]) ∧ Upd (fun _ => False) w w') ∨
  (∃ n g, (∀ m, Lib.atoiAll l ≠ .ok m) ∧ e = .returned (.tuple #[.int .i64 n, .iface 156 (.pointer (some ⟨g, 0, none⟩))]) ∧ Upd (fun _ => False) w w')
theorem atoi_any (l : List UInt8) (hl : l.length ≤ 10000000) (w : World) (E : Env w) : Calls Tryz.prog 88 #[.string ⟨l.toArray⟩] w (AtoiPost l w) := by
  have hs : (ByteArray.mk l.toArray).size ≤ 10000000 := by simpa [ByteArray.size] using hl
  have hd : (ByteArray.mk l.toArray).data.toList = l := by simp
  cases h : Lib.atoiAll l with
  | ok n =>
    refine (Tryz.strconv_Atoi_ok _ (by omega) n (by rw [hd]; exact h) w).mono fun e w' ⟨he, hw⟩ => .inl ⟨n, h, he, ?_⟩
    rcases hw with rfl | ⟨t, rfl⟩
    · exact Upd.refl _ _
    · exact upd_of_below (Lib.bytesWorld_below _ _ _)
  | range =>
    obtain ⟨tp, p, hv⟩ := E.rng
    exact (Tryz.strconv_Atoi_range_var _ (by omega) (by rw [hd]; exact h) tp p w hv).mono fun e w' ⟨N, he, _, _, hb⟩ => .inr ⟨_, N, (fun m e => by rw [h] at e; cases e), he, upd_of_below hb⟩
  | _ =>
    obtain ⟨tp, p, hv⟩ := E.syn
    exact (Tryz.strconv_Atoi_syntax_var _ (by omega) (by rw [hd]; exact h) tp p w hv).mono fun e w' ⟨N, he, _, _, hb⟩ => .inr ⟨_, N, (fun m e => by rw [h] at e; cases e), he, upd_of_below hb⟩

theorem ext_take (l : List UInt8) (k : Nat) : (ByteArray.mk l.toArray).extract 0 k = ⟨(l.take k).toArray⟩ := by
  apply ByteArray.ext
  simp [ByteArray.data_extract]
theorem ext_drop (l : List UInt8) (k n : Nat) (h : l.length ≤ n) : (ByteArray.mk l.toArray).extract k n = ⟨(l.drop k).toArray⟩ := by
  apply ByteArray.ext
  simp [ByteArray.data_extract]
  rw [List.take_of_length_le (by simp; omega)]
theorem head21 (l : List UInt8) : (ByteArray.mk l.toArray).extract 0 (min (l.length : Int) 21).toNat = ⟨(l.take 21).toArray⟩ := by
  rw [ext_take]
  congr 2
  rw [show (min (l.length : Int) 21).toNat = min 21 l.length by omega]
  exact (List.take_eq_take_min).symm

set_option maxHeartbeats 4000000 in
theorem number_any (b : Nat) (r : RS) (e : UInt8) (least : Int) (w : World) (E : Env w) (h : RdAt w b r) (hb : 6 ≤ b) (hl : r.rest.length ≤ 10000000) (hm : I64 least) :
    Calls Tryz.prog 75 #[.pointer (some ⟨b, 0, none⟩), .int .u8 e.toNat, .int .i64 least] w fun en w' => en = .returned (.int .i64 (numberF e least r).1) ∧ RdAt w' b (numberF e least r).2 ∧ Upd (· = b) w w' := by
  obtain ⟨c0, c1, hf⟩ := cells2 h
  have HR := hid h; have HE := hid E; have HM := hid hm
  obtain ⟨l, bad⟩ := r
  dsimp only at *
  clear h E hm
  have hle := index_le (l.take 21) e
  rw [List.length_take] at hle
  generalize hat : Lib.indexByte (l.take 21) e = at_ at *
  have HAT := hid hat
  clear hat
  by_cases h0 : at_ < 0
  · have hn := hid (show numRd e least l = none by unfold numRd; rw [HAT.out, if_pos h0])
    have hF := hid (show numberF e least ⟨l, bad⟩ = (0, failS) by unfold numberF; dsimp only; rw [hn.out])
    go_enter Tryz.func75, Tryz.ntmps75
    go_wp2_with fail
    go_quiet (fail)
    rw [head21]
    go_wp2_with fail
    refine (index_any (l.take 21) e _).mono ?_
    rintro e1 w1 ⟨rfl, hw1⟩
    rw [HAT.out]
    subst hw1
    go_wp2_with fail
    refine (fail_any b ⟨l, bad⟩ _ (HR.out.upd (S := fun _ => False) ((Upd.refl _ _).drewN _) id)).mono ?_
    rintro e1 w2 ⟨rfl, hr, u⟩
    have HF := hid hr; have U := hid (((Upd.refl _ _).drewN _).trans u)
    clear hr u
    go_wp2_with fail
    go_ret
    exact ⟨by rw [hF.out]; rfl, by rw [hF.out]; exact HF.out, U.out⟩
  · obtain ⟨k, rfl⟩ := Int.eq_ofNat_of_zero_le (show 0 ≤ at_ by omega)
    have hk : k < l.length ∧ k < 21 := by omega
    have hki : (k : Int) ≤ (l.take 21).length := by rw [List.length_take]; omega
    have hki2 : (k : Int) < l.length := by omega
    have e2 : ((l.take 21).take k) = l.take k := by rw [List.take_take, Nat.min_eq_left (by omega)]
    have E2 := hid e2
    have hpl : (l.take k).length ≤ 10000000 := by rw [List.length_take]; omega
    clear hle e2
    go_enter Tryz.func75, Tryz.ntmps75
    go_wp2_with fail
    go_quiet (fail)
    rw [head21]
    go_wp2_with fail
    refine (index_any (l.take 21) e _).mono ?_
    rintro e1 w1 ⟨rfl, hw1⟩
    rw [HAT.out]
    subst hw1
    have hx : (ByteArray.mk (l.take 21).toArray).extract 0 k = ⟨(l.take k).toArray⟩ := by rw [ext_take, E2.out]
    have hkk : k ≤ (l.take 21).length := by rw [List.length_take]; omega
    clear E2
    have hrd : numRd e least l = (match Lib.atoiAll (l.take k) with
      | .ok n => if Lib.itoa n = l.take k ∧ least ≤ n then some (n, l.drop (k + 1)) else none
      | _ => none) := by unfold numRd; rw [HAT.out, if_neg (by omega), Int.toNat_natCast]; rfl
    have HRD := hid hrd
    clear hrd
    generalize l.take 21 = hd at *
    go_wp2_with fail
    refine (atoi_any (l.take k) hpl _ (HE.out.keep0 ((Upd.refl _ _).drewN _))).mono ?_
    rintro e1 w2 (⟨n, hn, rfl, u⟩ | ⟨n, g, hn, rfl, u⟩)
    · have hni := atoi_i64 hn
      have hrd := HRD.out
      rw [hn] at hrd
      dsimp only at hrd
      have HRD := hid hrd; have U := hid (((Upd.refl _ _).drewN _).trans u); have HNI := hid hni
      clear hn u hni hrd
      go_upto_region 7 with (fail)
      obtain ⟨bx, HBX⟩ : ∃ bx : Bool, Hid (bx = true ↔ ¬ (Lib.itoa n = l.take k ∧ least ≤ n)) := ⟨decide (¬ (Lib.itoa n = l.take k ∧ least ≤ n)), hid decide_eq_true_iff⟩
      go_cut [50] (fun s wx => s = .bool bx ∧ Upd (fun _ => False) w2 wx)
      case first =>
        by_cases hq : Lib.itoa n = l.take k
        · have hqb : (Lib.itoa n == l.take k) = true := beq_iff_eq.2 hq
          by_cases hl2 : n < least
          · obtain rfl : bx = true := HBX.out.2 fun h => by have := h.2; omega
            clear hq
            go_region_held3 (fun _ => True) (trivial) ((go_at_call 89; refine (itoa_any n HNI.out _ (HE.out.keep0 (U.out.drew))).mono ?_; rintro e w3 ⟨rfl, u3⟩; have U3 := hid u3; clear u3))
            all_goals
              go_wp2_with fail
              go_meet
              case rel => exact ⟨rfl, ((Upd.refl _ _).drew).trans U3.out⟩
          · obtain rfl : bx = false := Bool.eq_false_iff.2 fun h => HBX.out.1 h ⟨hq, by omega⟩
            clear hq
            have hl3 : decide (n < least) = false := decide_eq_false hl2
            go_region_held3 (fun _ => True) (trivial) ((go_at_call 89; refine (itoa_any n HNI.out _ (HE.out.keep0 (U.out.drew))).mono ?_; rintro e w3 ⟨rfl, u3⟩; have U3 := hid u3; clear u3))
            all_goals
              go_wp2_with fail
              go_meet
              case rel => exact ⟨rfl, ((Upd.refl _ _).drew).trans U3.out⟩
        · have hqb : (Lib.itoa n == l.take k) = false := beq_eq_false_iff_ne.2 hq
          obtain rfl : bx = true := HBX.out.2 fun h => hq h.1
          clear hq
          first | (go_region_with (go_at_call 89; refine (itoa_any n HNI.out _ (HE.out.keep0 (U.out.drew))).mono ?_; rintro e w3 ⟨rfl, u3⟩; have U3 := hid u3; clear u3)) | fail
          all_goals
            go_wp2_with fail
            go_meet
            case rel => exact ⟨rfl, ((Upd.refl _ _).drew).trans U3.out⟩
      case rest =>
        obtain ⟨rfl, uc⟩ := hcut
        have UC := hid (U.out.trans uc)
        have HRC := hid (HR.out.upd UC.out id)
        obtain ⟨d0, d1, df⟩ := cells2 HRC.out
        clear uc c0 c1 hf
        cases bx
        · have hgood : Lib.itoa n = l.take k ∧ least ≤ n := Decidable.not_not.1 fun h => by have := HBX.out.2 h; cases this
          have hF : numberF e least ⟨l, bad⟩ = (n, ⟨l.drop (k + 1), bad⟩) := by unfold numberF; dsimp only; rw [HRD.out, if_pos hgood]
          have HF := hid hF
          have hs := hid (store0 (x := .string ⟨(l.drop (k + 1)).toArray⟩) HRC.out)
          have hy : (ByteArray.mk l.toArray).extract (k + 1) l.length = ⟨(l.drop (k + 1)).toArray⟩ := ext_drop _ _ _ (Nat.le_refl _)
          have hk1 : (k : Int) + 1 ≤ l.length := by omega
          clear hgood hF
          go_wp2_with fail
          go_ret
          exact ⟨by rw [HF.out]; rfl, by rw [HF.out]; exact hs.out, (UC.out.mono fun _ h => h.elim).at_ _ _⟩
        · have hbad : ¬ (Lib.itoa n = l.take k ∧ least ≤ n) := HBX.out.1 rfl
          have hF : numberF e least ⟨l, bad⟩ = (0, failS) := by unfold numberF; dsimp only; rw [HRD.out, if_neg hbad]
          have HF := hid hF
          clear hbad hF
          go_wp2_with fail
          refine (fail_any b ⟨l, bad⟩ _ HRC.out).mono ?_
          rintro e1 w4 ⟨rfl, hr, u⟩
          have HQ := hid hr; have UF := hid ((UC.out.mono fun _ h => h.elim).trans u)
          clear hr u
          go_wp2_with fail
          go_ret
          exact ⟨by rw [HF.out]; rfl, by rw [HF.out]; exact HQ.out, UF.out⟩
    · have hF : numberF e least ⟨l, bad⟩ = (0, failS) := by
        unfold numberF; dsimp only; rw [HRD.out]
        cases h : Lib.atoiAll (l.take k) with
        | ok m => exact absurd h (hn m)
        | _ => rfl
      have HF := hid hF; have U := hid (((Upd.refl _ _).drewN _).trans u)
      clear hF hn u
      have HRC := hid (HR.out.upd U.out id)
      go_wp2_with fail
      go_quiet (fail)
      go_wp2_with fail
      refine (fail_any b ⟨l, bad⟩ _ (HRC.out.upd (S := fun _ => False) ((Upd.refl _ _).drewN _) id)).mono ?_
      rintro e1 w4 ⟨rfl, hr, u⟩
      have HQ := hid hr; have UF := hid ((((U.out.drewN _).mono fun _ h => h.elim)).trans u)
      clear hr u
      go_wp2_with fail
      go_ret
      exact ⟨by rw [HF.out]; rfl, by rw [HF.out]; exact HQ.out, UF.out⟩
end Go.Proofs.YtlefilfdomjkeaaGreatDoor
namespace Go.Proofs.YtlefilfdomjkeaaGreatDoor
open Go.RowKit Go.Deep

theorem number_at (b : Nat) (r : RS) (e : UInt8) (least c : Int) (w : World) (hc : (e.toNat : Int) = c) (E : Env w) (h : RdAt w b r) (hb : 6 ≤ b) (hl : r.rest.length ≤ 10000000) (hm : I64 least) :
    Calls Tryz.prog 75 #[.pointer (some ⟨b, 0, none⟩), .int .u8 c, .int .i64 least] w fun en w' => en = .returned (.int .i64 (numberF e least r).1) ∧ RdAt w' b (numberF e least r).2 ∧ Upd (· = b) w w' := by
  subst hc; exact number_any b r e least w E h hb hl hm
theorem numberF_ge (e : UInt8) (r : RS) : 0 ≤ (numberF e 0 r).1 := by
  rcases numberF_cases e 0 r with ⟨n, t, _, h2, _, _, h3⟩ | ⟨_, h2⟩
  · rw [h2]; exact h3
  · rw [h2]; exact Int.le_refl 0

theorem numR_any (b : Nat) (r : RS) (w : World) (E : Env w) (h : RdAt w b r) (hb : 6 ≤ b) (hl : r.rest.length ≤ 10000000) :
    Calls Tryz.prog 60 #[.pointer (some ⟨b, 0, none⟩)] w fun e w' => e = .returned (.int .i64 (numF r).1) ∧ RdAt w' b (numF r).2 ∧ Upd (· = b) w w' := by
  have HR := hid h; have HE := hid E
  clear h E
  go_enter Tryz.func60, Tryz.ntmps60
  go_wp2_with fail
  refine (number_at b r 59 0 59 _ (by decide) HE.out HR.out hb hl (by unfold I64; omega)).mono ?_
  rintro e w1 ⟨rfl, hr, u⟩
  have HQ := hid hr; have U := hid u
  clear hr u
  go_wp2_with fail
  go_ret
  exact ⟨rfl, HQ.out, U.out⟩

def doneF (r : RS) : Bool := !r.bad && r.rest.isEmpty
theorem rest_any (b : Nat) (r : RS) (w : World) (h : RdAt w b r) :
    Calls Tryz.prog 61 #[.pointer (some ⟨b, 0, none⟩)] w fun e w' => e = .returned (.string ⟨r.rest.toArray⟩) ∧ RdAt w' b ⟨[], r.bad⟩ ∧ Upd (· = b) w w' := by
  obtain ⟨c0, c1, hf⟩ := cells2 h
  have hs := hid (store0 (x := .string ⟨#[]⟩) h)
  clear h
  go_enter Tryz.func61, Tryz.ntmps61
  go_wp2_with fail
  go_ret
  exact ⟨rfl, hs.out, (Upd.refl _ _).at_ _ _⟩
end Go.Proofs.YtlefilfdomjkeaaGreatDoor
namespace Go.Proofs.YtlefilfdomjkeaaGreatDoor
open Go.RowKit Go.Deep

theorem elemI : ElemTy Tryz.prog 51 3 1 8 := .mk' Tryz.underlying51 (z := .int .i64 0) (by kernel_rfl) (by rfl) (by decide)
theorem elemS : ElemTy Tryz.prog 50 9 1 16 := .mk' Tryz.underlying50 (z := .string ⟨#[]⟩) (by kernel_rfl) (by rfl) (by decide)
theorem owns_set {P : Nat → Prop} {w w' : World} {base : Nat} {e : TypeId} {v : Value} {n : Nat} {xs : List Value} (h : w.ownsRow base e 1 v n xs) (u : Upd P w w') (hP : ∀ k, P k → k < base) : w'.ownsRow base e 1 v n xs :=
  ownsRow_upd h u fun g hg hp => by have := (h.lt g hg).1; have := hP g hp; omega
theorem textF_vok (r : RS) (h : r.rest.length ≤ 10000000) : (textF r).1.length ≤ 10000000 := Nat.le_trans (textF_vlen r) h
theorem intF_vok (r : RS) (_ : r.rest.length ≤ 10000000) : I64 (intF r).1 := numberF_i64 _ _ _
theorem intF_len (r : RS) : (intF r).2.rest.length ≤ r.rest.length - 1 := numberF_len _ _ _
theorem intF_nil (r : RS) (h : r.rest = []) : (intF r).2.bad = true := by
  unfold intF numberF
  rw [h, numRd_nil]; rfl
theorem textF_nil (r : RS) (h : r.rest = []) : (textF r).2.bad = true := by
  have : numberF 58 0 r = (0, failS) := by unfold numberF; rw [h, numRd_nil]
  unfold textF
  rw [this]; rfl

theorem intRep {A : Nat → Prop} {w : World} (x : Int) (h : I64 x) : (kInt .i64).rep A w [.int .i64 x] x := ⟨rfl, iwf h⟩
def ItemsIntPost (b : Nat) (r : RS) (w : World) (e : Ending) (w' : World) : Prop :=
  ∃ a n c, e = .returned (.slice a n c) ∧ kInts.rep (fun g => w.heap.size ≤ g ∧ g < w'.heap.size) w' [.slice a n c] (itemsF intF r).1 ∧ RdAt w' b (itemsF intF r).2 ∧ Upd (· = b) w w'
theorem itemsInt_fin {b : Nat} {r : RS} {w w' : World} {v : Value} {out : List Int} (hbad : (itemsF intF r).2.bad = false) (ho : (itemsF intF r).1 = out) (h : w'.ownsRow w.heap.size 3 1 v out.length (out.map fun x => .int .i64 x)) (hw : ∀ x ∈ out, I64 x) (hr : RdAt w' b (itemsF intF r).2) (u : Upd (· = b) w w') : ItemsIntPost b r w (.returned v) w' := by
  have hrep := ownsRow_rep1 (K := (kInt .i64)) (A := fun g => w.heap.size ≤ g ∧ g < w'.heap.size) rfl (fun x => .int .i64 x) h (fun x hx => intRep x (hw x hx)) fun g hg => h.lt g hg
  obtain ⟨a, c, e, _⟩ := slice_open hrep
  subst e
  exact ⟨_, _, _, rfl, by rw [ho]; exact hrep, hr, u⟩
theorem itemsInt_nil {b : Nat} {r : RS} {w w' : World} (ho : (itemsF intF r).1 = []) (hr : RdAt w' b (itemsF intF r).2) (u : Upd (· = b) w w') : ItemsIntPost b r w (.returned (.slice none 0 0)) w' :=
  ⟨_, _, _, rfl, by rw [ho]; exact .inl ⟨none, 0, rfl, Nat.zero_le _, rfl⟩, hr, u⟩

theorem strRep {A : Nat → Prop} {w : World} (x : (List UInt8)) (h : x.length ≤ 10000000) : (kMap kStr fun l : List UInt8 => ⟨l.toArray⟩).rep A w [.string ⟨x.toArray⟩] x := ⟨rfl, by show (ByteArray.mk x.toArray).size ≤ maxLen; simp [ByteArray.size]; unfold maxLen; omega⟩
def ItemsTextPost (b : Nat) (r : RS) (w : World) (e : Ending) (w' : World) : Prop :=
  ∃ a n c, e = .returned (.slice a n c) ∧ kStrs.rep (fun g => w.heap.size ≤ g ∧ g < w'.heap.size) w' [.slice a n c] (itemsF textF r).1 ∧ RdAt w' b (itemsF textF r).2 ∧ Upd (· = b) w w'
theorem itemsText_fin {b : Nat} {r : RS} {w w' : World} {v : Value} {out : List (List UInt8)} (hbad : (itemsF textF r).2.bad = false) (ho : (itemsF textF r).1 = out) (h : w'.ownsRow w.heap.size 9 1 v out.length (out.map fun x => .string ⟨x.toArray⟩)) (hw : ∀ x ∈ out, x.length ≤ 10000000) (hr : RdAt w' b (itemsF textF r).2) (u : Upd (· = b) w w') : ItemsTextPost b r w (.returned v) w' := by
  have hrep := ownsRow_rep1 (K := (kMap kStr fun l : List UInt8 => ⟨l.toArray⟩)) (A := fun g => w.heap.size ≤ g ∧ g < w'.heap.size) rfl (fun x => .string ⟨x.toArray⟩) h (fun x hx => strRep x (hw x hx)) fun g hg => h.lt g hg
  obtain ⟨a, c, e, _⟩ := slice_open hrep
  subst e
  exact ⟨_, _, _, rfl, by rw [ho]; exact hrep, hr, u⟩
theorem itemsText_nil {b : Nat} {r : RS} {w w' : World} (ho : (itemsF textF r).1 = []) (hr : RdAt w' b (itemsF textF r).2) (u : Upd (· = b) w w') : ItemsTextPost b r w (.returned (.slice none 0 0)) w' :=
  ⟨_, _, _, rfl, by rw [ho]; exact .inl ⟨none, 0, rfl, Nat.zero_le _, rfl⟩, hr, u⟩

end Go.Proofs.YtlefilfdomjkeaaGreatDoor
