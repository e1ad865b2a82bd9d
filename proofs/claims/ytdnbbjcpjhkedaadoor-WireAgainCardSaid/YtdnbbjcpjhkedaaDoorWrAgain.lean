/- The walk of WireAgain. -/
import Derived.Test.YtdnbbjcpjhkedaaDoorWrD2
import Derived.Test.YtdnbbjcpjhkedaaDoorWrPlain
namespace Go.Proofs.YtdnbbjcpjhkedaaDoor
open Go.RowKit Go.Deep

theorem str_list (T : List UInt8) : (ByteArray.mk T.toArray).toList = T := by
  simp
theorem ret_bool {b : Bool} (h : b = true) : Ending.returned (.bool b) = .returned (.bool true) := by rw [h]
theorem again_fin {l T : List UInt8} {x : Int} (hx : x = T.length) (h : (ByteArray.mk l.toArray).extract 0 T.length = ⟨T.toArray⟩) : (T == ((ByteArray.mk l.toArray).extract 0 x.toNat).toList) = true := by
  rw [hx, Int.toNat_natCast, h, beq_iff_eq]
  exact (str_list T).symm
theorem again_fin2 {l T : List UInt8} {x : Nat} (hx : x = T.length) (h : (ByteArray.mk l.toArray).extract 0 T.length = ⟨T.toArray⟩) : (T == ((ByteArray.mk l.toArray).extract 0 x).toList) = true := by
  rw [hx, h, beq_iff_eq]
  exact (str_list T).symm

set_option maxRecDepth 100000 in
set_option maxHeartbeats 4000000 in
theorem again_walk (l : List UInt8) (what : Int) (W : World) (E : Env W) (hz : 6 ≤ W.heap.size) (hl : l.length ≤ maxLen) (hk : (Lit.int .i64 what).wf = true) :
    Calls Tryd.prog 4 #[.string ⟨l.toArray⟩, .int .i64 what] W fun e w' => e = .returned (.bool true) ∧ Below W.heap.size W w' := by
  have fin : ∀ w' e, (e = Ending.returned (.bool true) ∧ Upd (fun _ => False) W w') → (e = .returned (.bool true) ∧ Below W.heap.size W w') := fun w' e h => ⟨h.1, h.2.below (Nat.le_refl _) fun _ h => h.elim⟩
  suffices hs : Calls Tryd.prog 4 #[.string ⟨l.toArray⟩, .int .i64 what] W fun e w' => e = .returned (.bool true) ∧ Upd (fun _ => False) W w' from hs.mono fun e w' h => fin w' e h
  clear fin
  have hl : l.length ≤ 9223372036854775807 := hl
  have HE := hid E; have HZ := hid hz
  clear E hz
  by_cases h4 : 400 < l.length
  · have h4i : (400 : Int) < l.length := by omega
    clear h4
    go_enter Tryd.func4, Tryd.ntmps4
    go_wp2_with fail
    refine (small_any _ HE.out HZ.out).mono ?_
    rintro e w1 ⟨rfl, u⟩
    have U := hid u; clear u
    go_wp2_with fail
    go_ret
    exact ⟨rfl, U.out⟩
  have h4i : (l.length : Int) ≤ 400 := by omega
  have H4 := hid h4
  clear h4 hl
  obtain ⟨k, hkk⟩ : ∃ k, what % 5 = k := ⟨_, rfl⟩
  have hkr : 0 ≤ k ∧ k ≤ 4 := by omega
  have HK := hid hkk; have HW := hid hk
  clear hkk hk
  go_enter Tryd.func4, Tryd.ntmps4
  go_wp2_with fail
  refine (small_any _ HE.out HZ.out).mono ?_
  rintro e w1 ⟨rfl, u⟩
  have U1 := hid u; clear u
  go_wp2_with fail
  refine (open_any l _).mono ?_
  rintro e w2 ⟨rfl, hr, u⟩
  have HR := hid hr; have U2 := hid (U1.out.trans u)
  have HB := hid (Nat.le_trans HZ.out U1.out.size); have HBW := hid U1.out.size
  clear hr u
  go_wp2_with fail
  refine (kind_any what 0 [] none none 0 0 0 0 HW.out _).mono ?_
  rintro e w3 ⟨rfl, u⟩
  rw [HK.out]
  have HR3 := hid (HR.out.upd u id); have U3 := hid (U2.out.trans u)
  have HLEN := hid (show (RS.mk l false).rest.length ≤ 10000000 by have := H4.out; dsimp only; omega)
  have HOK := hid (show (RS.mk l false).Ok from fun h => by cases h)
  clear u HR U2
  by_cases k0 : k = 0
  · subst k0
    have HA := hid (show againF 0 ⟨l, false⟩ = (numE (numF ⟨l, false⟩).1, (numF ⟨l, false⟩).2) by unfold againF; rfl)
    go_wp2_with fail
    refine (numR_any w1.heap.size ⟨l, false⟩ _ (HE.out.keep0 U3.out) HR3.out HB.out HLEN.out).mono ?_
    rintro e w4 ⟨rfl, hr, u⟩
    have HR4 := hid hr; have U4 := hid (U3.out.comp u fun i hi e => by have := HBW.out; omega)
    clear hr u
    go_wp2_with fail
    refine (numE_any (numF ⟨l, false⟩).1 (numberF_i64 _ _ _) _ (HE.out.keep0 U4.out)).mono ?_
    rintro e w5 ⟨rfl, u⟩
    have HR5 := hid (HR4.out.upd u id); have UF := hid (U4.out.trans u)
    clear u HR3 HR4
    have HG := hid (fun h => again_good (k := 0) (r := ⟨l, false⟩) h)
    have HO := hid (again_ok (k := 0) HOK.out)
    rw [HA.out] at HG HO
    dsimp only at HG HO
    have HRR := HR5
    generalize (numF ⟨l, false⟩).2 = r2 at *
    generalize (numE (numF ⟨l, false⟩).1) = T at *
    clear HA HOK HLEN HR5
    obtain ⟨R, bad⟩ := r2
    dsimp only at *
    go_wp2_with fail
    refine (left_any w1.heap.size _ _ HRR.out).mono ?_
    rintro e w6 ⟨rfl, hw⟩
    subst hw
    dsimp only
    cases bad
    · have hl := HG.out rfl
      have hx : (ByteArray.mk l.toArray).extract 0 T.length = ⟨T.toArray⟩ := by rw [ext_take, hl, List.take_left]
      have hlen : (l.length : Int) = T.length + R.length := by rw [hl]; simp
      have HLE := hid hlen
      have HX := hid hx
      have hle : (R.length : Int) ≤ l.length := by omega
      clear hl hlen hx
      by_cases hR : R = []
      · subst hR
        clear hle
        go_wp2_with fail
        refine (done_any w1.heap.size _ _ HRR.out).mono ?_
        rintro e w6 ⟨rfl, hw⟩
        subst hw
        rw [show doneF ⟨[], false⟩ = true from rfl]
        go_wp2_with fail
        refine (left_any w1.heap.size _ _ HRR.out).mono ?_
        rintro e w6 ⟨rfl, hw⟩
        subst hw
        go_wp2_with fail
        go_ret
        exact ⟨ret_bool (again_fin2 (by have := HLE.out; simp at this; omega) HX.out), UF.out⟩
      · have hR0 : ((R.length : Int) == 0) = false := beq_eq_false_iff_ne.2 (by have := List.length_pos_iff.2 hR; omega)
        clear hR
        go_wp2_with fail
        refine (left_any w1.heap.size _ _ HRR.out).mono ?_
        rintro e w6 ⟨rfl, hw⟩
        subst hw
        dsimp only
        go_wp2_with fail
        go_ret
        exact ⟨ret_bool (again_fin (by have := HLE.out; omega) HX.out), UF.out⟩
    · obtain rfl : R = [] := HO.out rfl
      go_wp2_with fail
      refine (done_any w1.heap.size _ _ HRR.out).mono ?_
      rintro e w6 ⟨rfl, hw⟩
      subst hw
      rw [show doneF ⟨[], true⟩ = false from rfl]
      go_wp2_with fail
      go_ret
      exact ⟨rfl, UF.out⟩
  by_cases k1 : k = 1
  · subst k1
    have HA := hid (show againF 1 ⟨l, false⟩ = (intE (intF ⟨l, false⟩).1, (intF ⟨l, false⟩).2) by unfold againF; rfl)
    go_wp2_with fail
    refine (intR_any w1.heap.size ⟨l, false⟩ _ (HE.out.keep0 U3.out) HR3.out HB.out HLEN.out).mono ?_
    rintro e w4 ⟨rfl, hr, u⟩
    have HR4 := hid hr; have U4 := hid (U3.out.comp u fun i hi e => by have := HBW.out; omega)
    clear hr u
    go_wp2_with fail
    refine (intE_any (intF ⟨l, false⟩).1 (numberF_i64 _ _ _) _ (HE.out.keep0 U4.out)).mono ?_
    rintro e w5 ⟨rfl, u⟩
    have HR5 := hid (HR4.out.upd u id); have UF := hid (U4.out.trans u)
    clear u HR3 HR4
    have HG := hid (fun h => again_good (k := 1) (r := ⟨l, false⟩) h)
    have HO := hid (again_ok (k := 1) HOK.out)
    rw [HA.out] at HG HO
    dsimp only at HG HO
    have HRR := HR5
    generalize (intF ⟨l, false⟩).2 = r2 at *
    generalize (intE (intF ⟨l, false⟩).1) = T at *
    clear HA HOK HLEN HR5
    obtain ⟨R, bad⟩ := r2
    dsimp only at *
    go_wp2_with fail
    refine (left_any w1.heap.size _ _ HRR.out).mono ?_
    rintro e w6 ⟨rfl, hw⟩
    subst hw
    dsimp only
    cases bad
    · have hl := HG.out rfl
      have hx : (ByteArray.mk l.toArray).extract 0 T.length = ⟨T.toArray⟩ := by rw [ext_take, hl, List.take_left]
      have hlen : (l.length : Int) = T.length + R.length := by rw [hl]; simp
      have HLE := hid hlen
      have HX := hid hx
      have hle : (R.length : Int) ≤ l.length := by omega
      clear hl hlen hx
      by_cases hR : R = []
      · subst hR
        clear hle
        go_wp2_with fail
        refine (done_any w1.heap.size _ _ HRR.out).mono ?_
        rintro e w6 ⟨rfl, hw⟩
        subst hw
        rw [show doneF ⟨[], false⟩ = true from rfl]
        go_wp2_with fail
        refine (left_any w1.heap.size _ _ HRR.out).mono ?_
        rintro e w6 ⟨rfl, hw⟩
        subst hw
        go_wp2_with fail
        go_ret
        exact ⟨ret_bool (again_fin2 (by have := HLE.out; simp at this; omega) HX.out), UF.out⟩
      · have hR0 : ((R.length : Int) == 0) = false := beq_eq_false_iff_ne.2 (by have := List.length_pos_iff.2 hR; omega)
        clear hR
        go_wp2_with fail
        refine (left_any w1.heap.size _ _ HRR.out).mono ?_
        rintro e w6 ⟨rfl, hw⟩
        subst hw
        dsimp only
        go_wp2_with fail
        go_ret
        exact ⟨ret_bool (again_fin (by have := HLE.out; omega) HX.out), UF.out⟩
    · obtain rfl : R = [] := HO.out rfl
      go_wp2_with fail
      refine (done_any w1.heap.size _ _ HRR.out).mono ?_
      rintro e w6 ⟨rfl, hw⟩
      subst hw
      rw [show doneF ⟨[], true⟩ = false from rfl]
      go_wp2_with fail
      go_ret
      exact ⟨rfl, UF.out⟩
  by_cases k2 : k = 2
  · subst k2
    have HA := hid (show againF 2 ⟨l, false⟩ = (textE (textF ⟨l, false⟩).1, (textF ⟨l, false⟩).2) by unfold againF; rfl)
    go_wp2_with fail
    refine (textR_any w1.heap.size ⟨l, false⟩ _ (HE.out.keep0 U3.out) HR3.out HB.out HLEN.out).mono ?_
    rintro e w4 ⟨rfl, hr, u⟩
    have HR4 := hid hr; have U4 := hid (U3.out.comp u fun i hi e => by have := HBW.out; omega)
    clear hr u
    go_wp2_with fail
    refine (textE_any (textF ⟨l, false⟩).1 (Nat.le_trans (textF_vlen _) HLEN.out) _ (HE.out.keep0 U4.out)).mono ?_
    rintro e w5 ⟨rfl, u⟩
    have HR5 := hid (HR4.out.upd u id); have UF := hid (U4.out.trans u)
    clear u HR3 HR4
    have HG := hid (fun h => again_good (k := 2) (r := ⟨l, false⟩) h)
    have HO := hid (again_ok (k := 2) HOK.out)
    rw [HA.out] at HG HO
    dsimp only at HG HO
    have HRR := HR5
    generalize (textF ⟨l, false⟩).2 = r2 at *
    generalize (textE (textF ⟨l, false⟩).1) = T at *
    clear HA HOK HLEN HR5
    obtain ⟨R, bad⟩ := r2
    dsimp only at *
    go_wp2_with fail
    refine (left_any w1.heap.size _ _ HRR.out).mono ?_
    rintro e w6 ⟨rfl, hw⟩
    subst hw
    dsimp only
    cases bad
    · have hl := HG.out rfl
      have hx : (ByteArray.mk l.toArray).extract 0 T.length = ⟨T.toArray⟩ := by rw [ext_take, hl, List.take_left]
      have hlen : (l.length : Int) = T.length + R.length := by rw [hl]; simp
      have HLE := hid hlen
      have HX := hid hx
      have hle : (R.length : Int) ≤ l.length := by omega
      clear hl hlen hx
      by_cases hR : R = []
      · subst hR
        clear hle
        go_wp2_with fail
        refine (done_any w1.heap.size _ _ HRR.out).mono ?_
        rintro e w6 ⟨rfl, hw⟩
        subst hw
        rw [show doneF ⟨[], false⟩ = true from rfl]
        go_wp2_with fail
        refine (left_any w1.heap.size _ _ HRR.out).mono ?_
        rintro e w6 ⟨rfl, hw⟩
        subst hw
        go_wp2_with fail
        go_ret
        exact ⟨ret_bool (again_fin2 (by have := HLE.out; simp at this; omega) HX.out), UF.out⟩
      · have hR0 : ((R.length : Int) == 0) = false := beq_eq_false_iff_ne.2 (by have := List.length_pos_iff.2 hR; omega)
        clear hR
        go_wp2_with fail
        refine (left_any w1.heap.size _ _ HRR.out).mono ?_
        rintro e w6 ⟨rfl, hw⟩
        subst hw
        dsimp only
        go_wp2_with fail
        go_ret
        exact ⟨ret_bool (again_fin (by have := HLE.out; omega) HX.out), UF.out⟩
    · obtain rfl : R = [] := HO.out rfl
      go_wp2_with fail
      refine (done_any w1.heap.size _ _ HRR.out).mono ?_
      rintro e w6 ⟨rfl, hw⟩
      subst hw
      rw [show doneF ⟨[], true⟩ = false from rfl]
      go_wp2_with fail
      go_ret
      exact ⟨rfl, UF.out⟩
  by_cases k3 : k = 3
  · subst k3
    have HA := hid (show againF 3 ⟨l, false⟩ = (numsE (numsF ⟨l, false⟩).1, (itemsF intF ⟨l, false⟩).2) by unfold againF; rfl)
    go_wp2_with fail
    refine (numsR_any w1.heap.size ⟨l, false⟩ _ (HE.out.keep0 U3.out) HR3.out HB.out HLEN.out HOK.out).mono ?_
    rintro e w4 ⟨ax, nx, cx, rfl, hx, hr, u⟩
    have HR4 := hid hr; have U4 := hid (U3.out.comp u fun i hi e => by have := HBW.out; omega)
    have HX := hid hx
    clear hr u hx
    go_wp2_with fail
    refine (numsE_any _ (numsF ⟨l, false⟩).1 _ (HE.out.keep0 U4.out) (kInts.mono HX.out fun g hg => hg.2) nums_elem (by have h1 := nums_len HOK.out; have h2 := H4.out; have h3 := numsE_len (l := (numsF ⟨l, false⟩).1) (by dsimp only at h1; omega) nums_elem; have h4 : (listE intE (numsF ⟨l, false⟩).1) = numsE (numsF ⟨l, false⟩).1 := rfl; rw [h4]; dsimp only at h1; omega)).mono ?_
    rintro e w5 ⟨rfl, u⟩
    have HR5 := hid (HR4.out.upd u id); have UF := hid (U4.out.trans u)
    clear u HR3 HR4 HX
    have HG := hid (fun h => again_good (k := 3) (r := ⟨l, false⟩) h)
    have HO := hid (again_ok (k := 3) HOK.out)
    rw [HA.out] at HG HO
    dsimp only at HG HO
    have HRR := HR5
    generalize (itemsF intF ⟨l, false⟩).2 = r2 at *
    generalize (numsE (numsF ⟨l, false⟩).1) = T at *
    clear HA HOK HLEN HR5
    obtain ⟨R, bad⟩ := r2
    dsimp only at *
    go_wp2_with fail
    refine (left_any w1.heap.size _ _ HRR.out).mono ?_
    rintro e w6 ⟨rfl, hw⟩
    subst hw
    dsimp only
    cases bad
    · have hl := HG.out rfl
      have hx : (ByteArray.mk l.toArray).extract 0 T.length = ⟨T.toArray⟩ := by rw [ext_take, hl, List.take_left]
      have hlen : (l.length : Int) = T.length + R.length := by rw [hl]; simp
      have HLE := hid hlen
      have HX := hid hx
      have hle : (R.length : Int) ≤ l.length := by omega
      clear hl hlen hx
      by_cases hR : R = []
      · subst hR
        clear hle
        go_wp2_with fail
        refine (done_any w1.heap.size _ _ HRR.out).mono ?_
        rintro e w6 ⟨rfl, hw⟩
        subst hw
        rw [show doneF ⟨[], false⟩ = true from rfl]
        go_wp2_with fail
        refine (left_any w1.heap.size _ _ HRR.out).mono ?_
        rintro e w6 ⟨rfl, hw⟩
        subst hw
        go_wp2_with fail
        go_ret
        exact ⟨ret_bool (again_fin2 (by have := HLE.out; simp at this; omega) HX.out), UF.out⟩
      · have hR0 : ((R.length : Int) == 0) = false := beq_eq_false_iff_ne.2 (by have := List.length_pos_iff.2 hR; omega)
        clear hR
        go_wp2_with fail
        refine (left_any w1.heap.size _ _ HRR.out).mono ?_
        rintro e w6 ⟨rfl, hw⟩
        subst hw
        dsimp only
        go_wp2_with fail
        go_ret
        exact ⟨ret_bool (again_fin (by have := HLE.out; omega) HX.out), UF.out⟩
    · obtain rfl : R = [] := HO.out rfl
      go_wp2_with fail
      refine (done_any w1.heap.size _ _ HRR.out).mono ?_
      rintro e w6 ⟨rfl, hw⟩
      subst hw
      rw [show doneF ⟨[], true⟩ = false from rfl]
      go_wp2_with fail
      go_ret
      exact ⟨rfl, UF.out⟩
  obtain rfl : k = 4 := by omega
  have HA := hid (show againF 4 ⟨l, false⟩ = (textsE (textsF ⟨l, false⟩).1, (itemsF textF ⟨l, false⟩).2) by unfold againF; rfl)
  go_wp2_with fail
  refine (textsR_any w1.heap.size ⟨l, false⟩ _ (HE.out.keep0 U3.out) HR3.out HB.out HLEN.out HOK.out).mono ?_
  rintro e w4 ⟨ax, nx, cx, rfl, hx, hr, u⟩
  have HR4 := hid hr; have U4 := hid (U3.out.comp u fun i hi e => by have := HBW.out; omega)
  have HX := hid hx
  clear hr u hx
  go_wp2_with fail
  refine (textsE_any _ (textsF ⟨l, false⟩).1 _ (HE.out.keep0 U4.out) (kStrs.mono HX.out fun g hg => hg.2) (fun x hx => by have h5 := texts_elem x hx; have h2 := H4.out; dsimp only at h5; omega) (by have h1 := texts_len HOK.out; have h2 := H4.out; have h3 := textsE_len (l := (textsF ⟨l, false⟩).1) (c := 400) (by dsimp only at h1; omega) (by omega) (fun x hx => by have h5 := texts_elem x hx; dsimp only at h5; omega); have h4 : (listE textE (textsF ⟨l, false⟩).1) = textsE (textsF ⟨l, false⟩).1 := rfl; rw [h4]; dsimp only at h1; omega)).mono ?_
  rintro e w5 ⟨rfl, u⟩
  have HR5 := hid (HR4.out.upd u id); have UF := hid (U4.out.trans u)
  clear u HR3 HR4 HX
  have HG := hid (fun h => again_good (k := 4) (r := ⟨l, false⟩) h)
  have HO := hid (again_ok (k := 4) HOK.out)
  rw [HA.out] at HG HO
  dsimp only at HG HO
  have HRR := HR5
  generalize (itemsF textF ⟨l, false⟩).2 = r2 at *
  generalize (textsE (textsF ⟨l, false⟩).1) = T at *
  clear HA HOK HLEN HR5
  obtain ⟨R, bad⟩ := r2
  dsimp only at *
  go_wp2_with fail
  refine (left_any w1.heap.size _ _ HRR.out).mono ?_
  rintro e w6 ⟨rfl, hw⟩
  subst hw
  dsimp only
  cases bad
  · have hl := HG.out rfl
    have hx : (ByteArray.mk l.toArray).extract 0 T.length = ⟨T.toArray⟩ := by rw [ext_take, hl, List.take_left]
    have hlen : (l.length : Int) = T.length + R.length := by rw [hl]; simp
    have HLE := hid hlen
    have HX := hid hx
    have hle : (R.length : Int) ≤ l.length := by omega
    clear hl hlen hx
    by_cases hR : R = []
    · subst hR
      clear hle
      go_wp2_with fail
      refine (done_any w1.heap.size _ _ HRR.out).mono ?_
      rintro e w6 ⟨rfl, hw⟩
      subst hw
      rw [show doneF ⟨[], false⟩ = true from rfl]
      go_wp2_with fail
      refine (left_any w1.heap.size _ _ HRR.out).mono ?_
      rintro e w6 ⟨rfl, hw⟩
      subst hw
      go_wp2_with fail
      go_ret
      exact ⟨ret_bool (again_fin2 (by have := HLE.out; simp at this; omega) HX.out), UF.out⟩
    · have hR0 : ((R.length : Int) == 0) = false := beq_eq_false_iff_ne.2 (by have := List.length_pos_iff.2 hR; omega)
      clear hR
      go_wp2_with fail
      refine (left_any w1.heap.size _ _ HRR.out).mono ?_
      rintro e w6 ⟨rfl, hw⟩
      subst hw
      dsimp only
      go_wp2_with fail
      go_ret
      exact ⟨ret_bool (again_fin (by have := HLE.out; omega) HX.out), UF.out⟩
  · obtain rfl : R = [] := HO.out rfl
    go_wp2_with fail
    refine (done_any w1.heap.size _ _ HRR.out).mono ?_
    rintro e w6 ⟨rfl, hw⟩
    subst hw
    rw [show doneF ⟨[], true⟩ = false from rfl]
    go_wp2_with fail
    go_ret
    exact ⟨rfl, UF.out⟩
end Go.Proofs.YtdnbbjcpjhkedaaDoor
