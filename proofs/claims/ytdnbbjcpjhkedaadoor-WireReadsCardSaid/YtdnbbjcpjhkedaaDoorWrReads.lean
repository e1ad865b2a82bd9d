/- The walk of WireReads. -/
import Derived.Test.YtdnbbjcpjhkedaaDoorWrR6
import Derived.Test.YtdnbbjcpjhkedaaDoorWrE1
namespace Go.Proofs.YtdnbbjcpjhkedaaDoor
open Go.RowKit Go.Deep

theorem num_rest (r : RS) : (numF r).2.rest.length ≤ r.rest.length := Nat.le_trans (numberF_len _ _ _) (Nat.sub_le _ _)
theorem int_rest (r : RS) : (intF r).2.rest.length ≤ r.rest.length := Nat.le_trans (numberF_len _ _ _) (Nat.sub_le _ _)
theorem text_rest (r : RS) : (textF r).2.rest.length ≤ r.rest.length := Nat.le_trans (textF_len _) (Nat.sub_le _ _)
theorem itemsL_rest {α : Type} {one : RS → α × RS} (hl : ∀ r : RS, (one r).2.rest.length ≤ r.rest.length) : ∀ (n : Nat) (r : RS) (out : List α), (itemsL one n r out).2.rest.length ≤ r.rest.length
  | 0, _, _ => Nat.le_refl _
  | n + 1, r, out => by
    rw [itemsL]
    split
    · exact Nat.le_refl _
    · exact Nat.le_trans (itemsL_rest hl n _ _) (hl r)
theorem items_rest {α : Type} {one : RS → α × RS} (hl : ∀ r : RS, (one r).2.rest.length ≤ r.rest.length) (r : RS) : (itemsF one r).2.rest.length ≤ r.rest.length := by
  have h1 := itemsL_rest hl (numberF 91 0 r).1.toNat (numberF 91 0 r).2 []
  have h2 := numberF_len 91 0 r
  have h3 := closeF_len 93 (itemsL one (numberF 91 0 r).1.toNat (numberF 91 0 r).2 []).2
  unfold itemsF
  split <;> dsimp only <;> omega
theorem nums_rest (r : RS) : (itemsF intF r).2.rest.length ≤ r.rest.length := items_rest int_rest r
theorem texts_rest (r : RS) : (itemsF textF r).2.rest.length ≤ r.rest.length := items_rest text_rest r

set_option maxRecDepth 100000 in
set_option maxHeartbeats 8000000 in
theorem reads_walk (l : List UInt8) (v : Value) (calls : List Int) (W : World) (E : Env W) (hz : 6 ≤ W.heap.size) (hl : l.length ≤ maxLen) (hc : kInts.rep (· < W.heap.size) W [v] calls) :
    Calls Tryd.prog 7 #[.string ⟨l.toArray⟩, v] W fun e w' => e = .returned (.bool true) ∧ Below W.heap.size W w' := by
  suffices hs : Calls Tryd.prog 7 #[.string ⟨l.toArray⟩, v] W fun e w' => e = .returned (.bool true) ∧ Upd (fun _ => False) W w' from hs.mono fun e w' h => ⟨h.1, h.2.below (Nat.le_refl _) fun _ h => h.elim⟩
  have hl : l.length ≤ 9223372036854775807 := hl
  have HE := hid E; have HZ := hid hz; have HC := hid hc; have CI := hid (ints_i64 hc)
  obtain ⟨a, cap, rfl, h1, h2, _⟩ := slice_open hc
  have h2 : cap ≤ 9223372036854775807 := h2
  clear E hz hc
  by_cases h4 : 400 < l.length
  · have h4i : (400 : Int) < l.length := by omega
    clear h4
    go_enter Tryd.func7, Tryd.ntmps7
    go_wp2_with fail
    refine (small_any _ HE.out HZ.out).mono ?_
    rintro e w1 ⟨rfl, u⟩
    have U := hid u; clear u
    go_wp2_with fail
    go_ret
    exact ⟨rfl, U.out⟩
  have h4i : (l.length : Int) ≤ 400 := by omega
  have h4b : decide (400 < (l.length : Int)) = false := decide_eq_false (by omega)
  have h4n : decide (400 < l.length) = false := decide_eq_false h4
  by_cases h20 : 20 < calls.length
  · have h20i : (20 : Int) < calls.length := by omega
    clear h4 h20
    go_enter Tryd.func7, Tryd.ntmps7
    go_wp2_with fail
    refine (small_any _ HE.out HZ.out).mono ?_
    rintro e w1 ⟨rfl, u⟩
    have U := hid u; clear u
    go_wp2_with fail
    go_ret
    exact ⟨rfl, U.out⟩
  have h20i : (calls.length : Int) ≤ 20 := by omega
  have h20b : decide (20 < (calls.length : Int)) = false := decide_eq_false (by omega)
  have h20n : decide (20 < calls.length) = false := decide_eq_false h20
  have H4 := hid h4
  clear h4 h20
  go_enter Tryd.func7, Tryd.ntmps7
  go_wp2_with fail
  refine (small_any _ HE.out HZ.out).mono ?_
  rintro e w1 ⟨rfl, u⟩
  have U1 := hid u; clear u
  go_wp2_with fail
  refine (open_any l _).mono ?_
  rintro e w2 ⟨rfl, hr, u⟩
  have HB6 := hid (Nat.le_trans HZ.out U1.out.size); have HRB := hid U1.out.size
  have HR1 := hid hr; have U2 := hid (U1.out.trans u)
  have HRW := hid (heap_lt hr)
  clear hr u
  generalize w1.heap.size = rb at *
  clear U1
  go_wp2_with fail
  refine (qopen_any l _).mono ?_
  rintro e w3 ⟨rfl, hr, u⟩
  have HQB := hid U2.out.size
  have HNE := hid (show ¬ rb = w2.heap.size by have := HRW.out; omega)
  have HQ2 := hid hr; have HR2 := hid (HR1.out.upd u id); have U3 := hid (U2.out.trans u)
  clear hr u
  generalize w2.heap.size = qb at *
  clear HR1 U2 HRW
  go_wp2_with fail
  go_loopg [8, 9] calls.length (fun gg s8 s9 wr => ∃ (i : Nat) (rs : RS), i ≤ calls.length ∧ gg = calls.length - i ∧ s8 = .int .i64 i ∧ RdAt wr rb rs ∧ RqAt wr qb rs ∧ rs.Ok ∧ rs.rest.length ≤ 400 ∧ Upd (fun _ => False) W wr)
  case atStart => exact ⟨0, ⟨l, false⟩, Nat.zero_le _, rfl, rfl, HR2.out, HQ2.out, (fun h => by cases h), by have := H4.out; dsimp only; omega, U3.out⟩
  case round =>
    obtain ⟨i, rs, hi, hg, rfl, hr, hq, hok, hle, u⟩ := hrel
    have HG := hid hg; have U := hid u; have HR := hid hr; have HQ := hid hq; have HOK := hid hok; have HLE := hid hle
    have HL7 := hid (show rs.rest.length ≤ 10000000 by omega)
    clear hg u hr hq hok hle HR2 HQ2 U3
    by_cases hlt : i < calls.length
    · have hlti : (i : Int) < calls.length := by omega
      obtain ⟨b, o, ra, hb, hel⟩ := slice_at HC.out (by omega)
      subst ra
      have c0 := cell_kept (int_cells hel hlt) (U.out.block b hb id)
      have hw := CI.out calls[i] (List.getElem_mem hlt)
      have HW := hid (iwf hw)
      clear hel hw
      generalize calls[i] = what at *
      obtain ⟨k, hkk⟩ : ∃ k, what % 5 = k := ⟨_, rfl⟩
      have hkr : 0 ≤ k ∧ k ≤ 4 := by omega
      have HK := hid hkk
      clear hkk
      go_wp2_with fail
      refine (kind_any what 0 [] none none 0 0 0 0 HW.out _).mono ?_
      rintro e w3 ⟨rfl, u⟩
      rw [HK.out]
      have HR3 := hid (HR.out.upd u id); have HQ3 := hid (HQ.out.upd u id); have U3 := hid (U.out.trans u)
      clear u c0 HR HQ U
      by_cases k0 : k = 0
      · subst k0
        obtain ⟨RS2, hRS2⟩ : ∃ x, (numF rs).2 = x := ⟨_, rfl⟩
        have HOK2 := hid (show RS2.Ok from hRS2 ▸ numF_ok HOK.out)
        have HLE2 := hid (show RS2.rest.length ≤ 400 by have h1 := num_rest rs; rw [hRS2] at h1; have h2 := HLE.out; omega)
        have HRS2 := hid hRS2
        clear hRS2
        go_wp2_with fail
        refine (numR_any rb rs _ (HE.out.keep0 U3.out) HR3.out HB6.out HL7.out).mono ?_
        rintro e w4 ⟨rfl, hr, u⟩
        rw [HRS2.out] at hr
        have HA1 := hid hr; have U4 := hid (U3.out.comp u fun g hg e => by have := HRB.out; omega)
        have HB1 := hid (HQ3.out.upd u (fun e => HNE.out e.symm))
        clear hr u
        go_wp2_with fail
        refine (qNumR_any qb rs _ HB1.out HL7.out).mono ?_
        rintro e w5 ⟨rfl, hr, u⟩
        rw [HRS2.out] at hr
        have HB := hid hr; have UF := hid (U4.out.comp u fun g hg e => by have := HQB.out; omega)
        have HA := hid (HA1.out.upd u HNE.out)
        clear hr u HA1 HB1
        have hll : ((RS2.rest.length : Int) != RS2.rest.length) = false := by simp
        have hll2 : (RS2.rest.length != RS2.rest.length) = false := by simp
        go_wp2_with fail
        refine (left_any rb _ _ HA.out).mono ?_
        rintro e wx ⟨rfl, hw⟩
        subst hw
        go_wp2_with fail
        refine (qleft_any qb _ _ HB.out).mono ?_
        rintro e wx ⟨rfl, hw⟩
        subst hw
        go_wp2_with fail
        refine (done_any rb _ _ HA.out).mono ?_
        rintro e wx ⟨rfl, hw⟩
        subst hw
        obtain ⟨dn, hdn⟩ : ∃ d, doneF RS2 = d := ⟨_, rfl⟩
        rw [hdn]
        have HDN := hid hdn
        clear hdn
        have hdd : (dn != dn) = false := by simp
        go_wp2_with fail
        refine (qdone_any qb _ _ HB.out).mono ?_
        rintro e wx ⟨rfl, hw⟩
        subst hw
        rw [HDN.out]
        go_wp2_with fail
        go_roundg (calls.length - (i + 1))
        case measure => have := HG.out; omega
        case rel => exact ⟨i + 1, RS2, by omega, rfl, by go_num, HA.out, HB.out, HOK2.out, HLE2.out, UF.out⟩
      by_cases k1 : k = 1
      · subst k1
        obtain ⟨RS2, hRS2⟩ : ∃ x, (intF rs).2 = x := ⟨_, rfl⟩
        have HOK2 := hid (show RS2.Ok from hRS2 ▸ intF_ok HOK.out)
        have HLE2 := hid (show RS2.rest.length ≤ 400 by have h1 := int_rest rs; rw [hRS2] at h1; have h2 := HLE.out; omega)
        have HRS2 := hid hRS2
        clear hRS2
        go_wp2_with fail
        refine (intR_any rb rs _ (HE.out.keep0 U3.out) HR3.out HB6.out HL7.out).mono ?_
        rintro e w4 ⟨rfl, hr, u⟩
        rw [HRS2.out] at hr
        have HA1 := hid hr; have U4 := hid (U3.out.comp u fun g hg e => by have := HRB.out; omega)
        have HB1 := hid (HQ3.out.upd u (fun e => HNE.out e.symm))
        clear hr u
        go_wp2_with fail
        refine (qIntR_any qb rs _ HB1.out HL7.out).mono ?_
        rintro e w5 ⟨rfl, hr, u⟩
        rw [HRS2.out] at hr
        have HB := hid hr; have UF := hid (U4.out.comp u fun g hg e => by have := HQB.out; omega)
        have HA := hid (HA1.out.upd u HNE.out)
        clear hr u HA1 HB1
        have hll : ((RS2.rest.length : Int) != RS2.rest.length) = false := by simp
        have hll2 : (RS2.rest.length != RS2.rest.length) = false := by simp
        go_wp2_with fail
        refine (left_any rb _ _ HA.out).mono ?_
        rintro e wx ⟨rfl, hw⟩
        subst hw
        go_wp2_with fail
        refine (qleft_any qb _ _ HB.out).mono ?_
        rintro e wx ⟨rfl, hw⟩
        subst hw
        go_wp2_with fail
        refine (done_any rb _ _ HA.out).mono ?_
        rintro e wx ⟨rfl, hw⟩
        subst hw
        obtain ⟨dn, hdn⟩ : ∃ d, doneF RS2 = d := ⟨_, rfl⟩
        rw [hdn]
        have HDN := hid hdn
        clear hdn
        have hdd : (dn != dn) = false := by simp
        go_wp2_with fail
        refine (qdone_any qb _ _ HB.out).mono ?_
        rintro e wx ⟨rfl, hw⟩
        subst hw
        rw [HDN.out]
        go_wp2_with fail
        go_roundg (calls.length - (i + 1))
        case measure => have := HG.out; omega
        case rel => exact ⟨i + 1, RS2, by omega, rfl, by go_num, HA.out, HB.out, HOK2.out, HLE2.out, UF.out⟩
      by_cases k2 : k = 2
      · subst k2
        obtain ⟨RS2, hRS2⟩ : ∃ x, (textF rs).2 = x := ⟨_, rfl⟩
        have HOK2 := hid (show RS2.Ok from hRS2 ▸ textF_ok HOK.out)
        have HLE2 := hid (show RS2.rest.length ≤ 400 by have h1 := text_rest rs; rw [hRS2] at h1; have h2 := HLE.out; omega)
        have HRS2 := hid hRS2
        clear hRS2
        go_wp2_with fail
        refine (textR_any rb rs _ (HE.out.keep0 U3.out) HR3.out HB6.out HL7.out).mono ?_
        rintro e w4 ⟨rfl, hr, u⟩
        rw [HRS2.out] at hr
        have HA1 := hid hr; have U4 := hid (U3.out.comp u fun g hg e => by have := HRB.out; omega)
        have HB1 := hid (HQ3.out.upd u (fun e => HNE.out e.symm))
        clear hr u
        go_wp2_with fail
        refine (qTextR_any qb rs _ HB1.out HL7.out HOK.out).mono ?_
        rintro e w5 ⟨rfl, hr, u⟩
        rw [HRS2.out] at hr
        have HB := hid hr; have UF := hid (U4.out.comp u fun g hg e => by have := HQB.out; omega)
        have HA := hid (HA1.out.upd u HNE.out)
        clear hr u HA1 HB1
        have hll : ((RS2.rest.length : Int) != RS2.rest.length) = false := by simp
        have hll2 : (RS2.rest.length != RS2.rest.length) = false := by simp
        go_wp2_with fail
        refine (left_any rb _ _ HA.out).mono ?_
        rintro e wx ⟨rfl, hw⟩
        subst hw
        go_wp2_with fail
        refine (qleft_any qb _ _ HB.out).mono ?_
        rintro e wx ⟨rfl, hw⟩
        subst hw
        go_wp2_with fail
        refine (done_any rb _ _ HA.out).mono ?_
        rintro e wx ⟨rfl, hw⟩
        subst hw
        obtain ⟨dn, hdn⟩ : ∃ d, doneF RS2 = d := ⟨_, rfl⟩
        rw [hdn]
        have HDN := hid hdn
        clear hdn
        have hdd : (dn != dn) = false := by simp
        go_wp2_with fail
        refine (qdone_any qb _ _ HB.out).mono ?_
        rintro e wx ⟨rfl, hw⟩
        subst hw
        rw [HDN.out]
        go_wp2_with fail
        go_roundg (calls.length - (i + 1))
        case measure => have := HG.out; omega
        case rel => exact ⟨i + 1, RS2, by omega, rfl, by go_num, HA.out, HB.out, HOK2.out, HLE2.out, UF.out⟩
      by_cases k3 : k = 3
      · subst k3
        obtain ⟨RS2, hRS2⟩ : ∃ x, (itemsF intF rs).2 = x := ⟨_, rfl⟩
        have HOK2 := hid (show RS2.Ok from hRS2 ▸ numsF_ok HOK.out)
        have HLE2 := hid (show RS2.rest.length ≤ 400 by have h1 := nums_rest rs; rw [hRS2] at h1; have h2 := HLE.out; omega)
        have HRS2 := hid hRS2
        clear hRS2
        go_wp2_with fail
        refine (numsR_any rb rs _ (HE.out.keep0 U3.out) HR3.out HB6.out HL7.out HOK.out).mono ?_
        rintro e w4 ⟨ax, nx, cx, rfl, hx, hr, u⟩
        rw [HRS2.out] at hr
        have HA1 := hid hr; have U4 := hid (U3.out.comp u fun g hg e => by have := HRB.out; omega)
        have HB1 := hid (HQ3.out.upd u (fun e => HNE.out e.symm))
        have HX := hid hx; have HSZ := hid U3.out.size; have HQW := hid (Nat.lt_of_lt_of_le (heap_lt HQ3.out) (Nat.le_refl _))
        clear hx
        clear hr u
        go_wp2_with fail
        refine (qNumsR_any qb rs _ HB1.out HL7.out HOK.out).mono ?_
        rintro e w5 ⟨ay, ny, cy, rfl, hy, hr, u⟩
        rw [HRS2.out] at hr
        have HB := hid hr; have UF := hid (U4.out.comp u fun g hg e => by have := HQB.out; omega)
        have HA := hid (HA1.out.upd u HNE.out)
        have HX2 := hid (kInts.mono (A' := (· < w5.heap.size)) (kInts.keep HX.out (Same.of_upd u fun g hg e => by have := hg.1; have := HQW.out; omega)) fun g hg => Nat.lt_of_lt_of_le hg.2 u.size)
        have HY2 := hid (kInts.mono (A' := (· < w5.heap.size)) hy fun g hg => hg.2)
        clear hy HX HSZ
        clear hr u HA1 HB1
        go_wp2_with fail
        refine (sameNums_any _ _ (itemsF intF rs).1 (itemsF intF rs).1 _ HX2.out HY2.out).mono ?_
        rintro e w6 ⟨rfl, u⟩
        rw [show ((itemsF intF rs).1 == (itemsF intF rs).1) = true from beq_self_eq_true _]
        have HA := hid (HA.out.upd u id); have HB := hid (HB.out.upd u id); have UF := hid (UF.out.trans u)
        clear u HX2 HY2
        have hll : ((RS2.rest.length : Int) != RS2.rest.length) = false := by simp
        have hll2 : (RS2.rest.length != RS2.rest.length) = false := by simp
        go_wp2_with fail
        refine (left_any rb _ _ HA.out).mono ?_
        rintro e wx ⟨rfl, hw⟩
        subst hw
        go_wp2_with fail
        refine (qleft_any qb _ _ HB.out).mono ?_
        rintro e wx ⟨rfl, hw⟩
        subst hw
        go_wp2_with fail
        refine (done_any rb _ _ HA.out).mono ?_
        rintro e wx ⟨rfl, hw⟩
        subst hw
        obtain ⟨dn, hdn⟩ : ∃ d, doneF RS2 = d := ⟨_, rfl⟩
        rw [hdn]
        have HDN := hid hdn
        clear hdn
        have hdd : (dn != dn) = false := by simp
        go_wp2_with fail
        refine (qdone_any qb _ _ HB.out).mono ?_
        rintro e wx ⟨rfl, hw⟩
        subst hw
        rw [HDN.out]
        go_wp2_with fail
        go_roundg (calls.length - (i + 1))
        case measure => have := HG.out; omega
        case rel => exact ⟨i + 1, RS2, by omega, rfl, by go_num, HA.out, HB.out, HOK2.out, HLE2.out, UF.out⟩
      obtain rfl : k = 4 := by omega
      · skip
        obtain ⟨RS2, hRS2⟩ : ∃ x, (itemsF textF rs).2 = x := ⟨_, rfl⟩
        have HOK2 := hid (show RS2.Ok from hRS2 ▸ textsF_ok HOK.out)
        have HLE2 := hid (show RS2.rest.length ≤ 400 by have h1 := texts_rest rs; rw [hRS2] at h1; have h2 := HLE.out; omega)
        have HRS2 := hid hRS2
        clear hRS2
        go_wp2_with fail
        refine (textsR_any rb rs _ (HE.out.keep0 U3.out) HR3.out HB6.out HL7.out HOK.out).mono ?_
        rintro e w4 ⟨ax, nx, cx, rfl, hx, hr, u⟩
        rw [HRS2.out] at hr
        have HA1 := hid hr; have U4 := hid (U3.out.comp u fun g hg e => by have := HRB.out; omega)
        have HB1 := hid (HQ3.out.upd u (fun e => HNE.out e.symm))
        have HX := hid hx; have HSZ := hid U3.out.size; have HQW := hid (Nat.lt_of_lt_of_le (heap_lt HQ3.out) (Nat.le_refl _))
        clear hx
        clear hr u
        go_wp2_with fail
        refine (qTextsR_any qb rs _ HB1.out HL7.out HOK.out).mono ?_
        rintro e w5 ⟨ay, ny, cy, rfl, hy, hr, u⟩
        rw [HRS2.out] at hr
        have HB := hid hr; have UF := hid (U4.out.comp u fun g hg e => by have := HQB.out; omega)
        have HA := hid (HA1.out.upd u HNE.out)
        have HX2 := hid (kStrs.mono (A' := (· < w5.heap.size)) (kStrs.keep HX.out (Same.of_upd u fun g hg e => by have := hg.1; have := HQW.out; omega)) fun g hg => Nat.lt_of_lt_of_le hg.2 u.size)
        have HY2 := hid (kStrs.mono (A' := (· < w5.heap.size)) hy fun g hg => hg.2)
        clear hy HX HSZ
        clear hr u HA1 HB1
        go_wp2_with fail
        refine (sameTexts_any _ _ (itemsF textF rs).1 (itemsF textF rs).1 _ HX2.out HY2.out).mono ?_
        rintro e w6 ⟨rfl, u⟩
        rw [show ((itemsF textF rs).1 == (itemsF textF rs).1) = true from beq_self_eq_true _]
        have HA := hid (HA.out.upd u id); have HB := hid (HB.out.upd u id); have UF := hid (UF.out.trans u)
        clear u HX2 HY2
        have hll : ((RS2.rest.length : Int) != RS2.rest.length) = false := by simp
        have hll2 : (RS2.rest.length != RS2.rest.length) = false := by simp
        go_wp2_with fail
        refine (left_any rb _ _ HA.out).mono ?_
        rintro e wx ⟨rfl, hw⟩
        subst hw
        go_wp2_with fail
        refine (qleft_any qb _ _ HB.out).mono ?_
        rintro e wx ⟨rfl, hw⟩
        subst hw
        go_wp2_with fail
        refine (done_any rb _ _ HA.out).mono ?_
        rintro e wx ⟨rfl, hw⟩
        subst hw
        obtain ⟨dn, hdn⟩ : ∃ d, doneF RS2 = d := ⟨_, rfl⟩
        rw [hdn]
        have HDN := hid hdn
        clear hdn
        have hdd : (dn != dn) = false := by simp
        go_wp2_with fail
        refine (qdone_any qb _ _ HB.out).mono ?_
        rintro e wx ⟨rfl, hw⟩
        subst hw
        rw [HDN.out]
        go_wp2_with fail
        go_roundg (calls.length - (i + 1))
        case measure => have := HG.out; omega
        case rel => exact ⟨i + 1, RS2, by omega, rfl, by go_num, HA.out, HB.out, HOK2.out, HLE2.out, UF.out⟩
    · obtain rfl : i = calls.length := by omega
      clear h4b h4n h20b h20n
      obtain ⟨rest, bad⟩ := rs
      dsimp only at *
      go_wp2_with fail
      refine (rest_any rb _ _ HR.out).mono ?_
      rintro e w6 ⟨rfl, hr, u⟩
      have HA := hid hr; have UA := hid (U.out.comp u fun g hg e => by have := HRB.out; omega)
      have HB := hid (HQ.out.upd u (fun e => HNE.out e.symm))
      clear hr u
      go_wp2_with fail
      refine (qtail_any qb _ _ HB.out).mono ?_
      rintro e w7 ⟨rfl, hr, u⟩
      have HD := hid hr; have UD := hid (UA.out.comp u fun g hg e => by have := HQB.out; omega)
      have HC2 := hid (HA.out.upd u HNE.out)
      clear hr u
      go_wp2_with fail
      refine (left_any rb _ _ HC2.out).mono ?_
      rintro e wx ⟨rfl, hw⟩
      subst hw
      go_wp2_with fail
      refine (qleft_any qb _ _ HD.out).mono ?_
      rintro e wx ⟨rfl, hw⟩
      subst hw
      go_wp2_with fail
      refine (done_any rb _ _ HC2.out).mono ?_
      rintro e wx ⟨rfl, hw⟩
      subst hw
      obtain ⟨dn, hdn⟩ : ∃ d, doneF ⟨[], bad⟩ = d := ⟨_, rfl⟩
      dsimp only
      rw [hdn]
      have HDN := hid hdn
      clear hdn
      have hdd : (dn == dn) = true := by simp
      go_wp2_with fail
      refine (qdone_any qb _ _ HD.out).mono ?_
      rintro e wx ⟨rfl, hw⟩
      subst hw
      dsimp only
      rw [HDN.out]
      go_wp2_with fail
      go_ret
      exact ⟨rfl, UD.out⟩
end Go.Proofs.YtdnbbjcpjhkedaaDoor
