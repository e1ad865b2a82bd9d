/- The statements' helpers: kind, number, small, write, equal. -/
import Derived.Test.YtdnbbjcpjhkedaaDoorWrD1
namespace Go.Proofs.YtdnbbjcpjhkedaaDoor
open Go.RowKit Go.Deep

theorem tmod5 (k : Int) : -4 ≤ k.tmod 5 ∧ k.tmod 5 ≤ 4 ∧ k % 5 = if k.tmod 5 < 0 then k.tmod 5 + 5 else k.tmod 5 := by
  have h := Int.tmod_eq_emod (a := k) (b := 5)
  have h1 : 0 ≤ k % 5 ∧ k % 5 < 5 := by omega
  by_cases hd : 0 ≤ k ∨ (5 : Int) ∣ k
  · rw [if_pos hd] at h
    rw [h]
    refine ⟨by omega, by omega, ?_⟩
    rw [if_neg (by omega)]; omega
  · rw [if_neg hd] at h
    have e : ((5 : Int).natAbs : Int) = 5 := rfl
    rw [e] at h
    have hne : k % 5 ≠ 0 := fun e => hd (.inr (Int.dvd_of_emod_eq_zero e))
    rw [h]
    refine ⟨by omega, by omega, ?_⟩
    rw [if_pos (by omega)]; omega

theorem kind_any (k n : Int) (s : List UInt8) (a1 a2 : Option Addr) (n1 c1 n2 c2 : Nat) (hk : (Lit.int .i64 k).wf = true) (w : World) :
    Calls Tryd.prog 22 #[.agg #[.int .i64 k, .int .i64 n, .string ⟨s.toArray⟩, .slice a1 n1 c1, .slice a2 n2 c2]] w fun e w' => e = .returned (.int .i64 (k % 5)) ∧ Upd (fun _ => False) w w' := by
  obtain ⟨h1, h2, h3⟩ := tmod5 k
  rw [h3]
  obtain ⟨m, HM⟩ : ∃ m : Int, Hid (k.tmod 5 = m) := ⟨_, hid rfl⟩
  have hm := HM.out
  rw [hm] at h1 h2
  rw [hm]
  clear h3
  by_cases h0 : m < 0
  · rw [if_pos h0]
    go_enter Tryd.func22, Tryd.ntmps22
    go_wp2_with fail
    go_ret
    exact ⟨rfl, (Upd.refl _ _).alloc _⟩
  · rw [if_neg h0]
    go_enter Tryd.func22, Tryd.ntmps22
    go_wp2_with fail
    go_ret
    exact ⟨rfl, (Upd.refl _ _).alloc _⟩

def numOf (n : Int) : Int := if n < 0 then -(n + 1) else n
theorem numOf_i64 {n : Int} (h : I64 n) : I64 (numOf n) ∧ 0 ≤ numOf n := by
  obtain ⟨h1, h2⟩ := h
  unfold I64 numOf
  split <;> omega
theorem numV_any (n : Int) (hn : (Lit.int .i64 n).wf = true) (w : World) :
    Calls Tryd.prog 53 #[.int .i64 n] w fun e w' => e = .returned (.int .i64 (numOf n)) ∧ w = w' := by
  have hb := wfi hn
  clear hn
  by_cases h0 : n < 0
  · have hf := hid (show numOf n = -(n + 1) by unfold numOf; rw [if_pos h0])
    have e1 : wrap64 (-(n + 1)) = -(n + 1) := by unfold wrap64; omega
    go_enter Tryd.func53, Tryd.ntmps53
    go_wp2_with fail
    go_ret
    exact ⟨by rw [hf.out]; first | rfl | (simp; omega), rfl⟩
  · have hf := hid (show numOf n = n by unfold numOf; rw [if_neg h0])
    go_enter Tryd.func53, Tryd.ntmps53
    go_wp2_with fail
    go_ret
    exact ⟨by rw [hf.out]; rfl, rfl⟩

theorem num_0 : numE 0 = [48, 59] := by simp [numE, intE, Lib.itoa, Lib.decDigits]
theorem num_300 : numE 300 = [51, 48, 48, 59] := by simp [numE, intE, Lib.itoa, Lib.decDigits]
theorem num_1 : numE (-1) = [] := by simp [numE]
theorem int_7 : intE (-7) = [45, 55, 59] := by simp [intE, Lib.itoa, Lib.decDigits]
theorem int7 : intE 7 = [55, 59] := by simp [intE, Lib.itoa, Lib.decDigits]
theorem text_ab : textE [97, 44, 98] = [51, 58, 97, 44, 98, 44] := by simp [textE, Lib.itoa, Lib.decDigits]
theorem nums_1 : numsE [1, -1] = [50, 91, 49, 59, 45, 49, 59, 93] := by simp [numsE, listE, intE, Lib.itoa, Lib.decDigits]
theorem texts_0 : textsE [] = [48, 91, 93] := by simp [textsE, listE, Lib.itoa, Lib.decDigits]
theorem rd_007 : numF ⟨[48, 48, 55, 59], false⟩ = (0, failS) := by
  unfold numF numberF
  have : numRd 59 0 [48, 48, 55, 59] = none := by
    cases h : numRd 59 0 [48, 48, 55, 59] with
    | none => rfl
    | some x =>
      obtain ⟨n, t⟩ := x
      obtain ⟨h1, h2, h3⟩ := numRd_some h
      exfalso
      obtain ⟨u, rfl⟩ := Int.eq_ofNat_of_zero_le h3
      have hi : Lib.itoa (u : Int) = Lib.decDigits u := by unfold Lib.itoa; rw [if_neg (by omega), Int.toNat_natCast]
      rw [hi] at h1
      by_cases h10 : u < 10
      · rw [Lib.decDigits, dif_pos h10] at h1
        injection h1 with _ h1
        injection h1 with h1 _
        cases h1
      · have hlast : ∀ (l : List UInt8) (r : List UInt8), (48 :: 48 :: 55 :: 59 :: []) = l ++ 59 :: r → 59 ∉ l → l = [48, 48, 55] := by
          intro l r h hn
          match l, h with
          | [], h => injection h with h _; cases h
          | [_], h => injection h with _ h; injection h with h _; cases h
          | [_, _], h => injection h with _ h; injection h with _ h; injection h with h _; cases h
          | [a, b, c], h => injection h with h1 h; injection h with h2 h; injection h with h3 h; rw [← h1, ← h2, ← h3]
          | a :: b :: c :: d :: l, h => injection h with _ h; injection h with _ h; injection h with _ h; injection h with h _; exact absurd (by rw [← h]; simp) hn
        have hl := hlast _ _ h1 fun hm => by have := dec_bytes u 59 hm; revert this; decide
        have hp := parse_dec u (by unfold I64 at h2; omega)
        rw [hl] at hp
        have : Lib.parseUint10 0 [48, 48, 55] = .ok 7 := by decide
        rw [this] at hp
        injection hp with hp
        omega
  rw [this]

set_option maxRecDepth 100000 in
set_option maxHeartbeats 1000000 in
theorem small_any (w : World) (E : Env w) (hz : 6 ≤ w.heap.size) : Calls Tryd.prog 9 #[] w fun e w' => e = .returned (.bool true) ∧ Upd (fun _ => False) w w' := by
  have HE := hid E; have HZ := hid hz
  clear E hz
  go_enter Tryd.func9, Tryd.ntmps9
  go_wp2_with fail
  refine (numE_any 0 (by unfold I64; omega) _ (HE.out.keep0 (Upd.refl (fun _ => False) w))).mono ?_
  rintro e w1 ⟨rfl, u⟩
  rw [num_0]
  have U1 := hid ((Upd.refl (fun _ => False) w).trans u)
  clear u
  go_wp2_with fail
  refine (numE_any 300 (by unfold I64; omega) _ (HE.out.keep0 U1.out)).mono ?_
  rintro e w2 ⟨rfl, u⟩
  rw [num_300]
  have U2 := hid (U1.out.trans u)
  clear u
  go_wp2_with fail
  refine (numE_any (-1) (by unfold I64; omega) _ (HE.out.keep0 U2.out)).mono ?_
  rintro e w3 ⟨rfl, u⟩
  rw [num_1]
  have U3 := hid (U2.out.trans u)
  clear u
  go_wp2_with fail
  refine (intE_any (-7) (by unfold I64; omega) _ (HE.out.keep0 U3.out)).mono ?_
  rintro e w4 ⟨rfl, u⟩
  rw [int_7]
  have U4 := hid (U3.out.trans u)
  clear u
  go_wp2_with fail
  refine (intE_any 7 (by unfold I64; omega) _ (HE.out.keep0 U4.out)).mono ?_
  rintro e w5 ⟨rfl, u⟩
  rw [int7]
  have U5 := hid (U4.out.trans u)
  clear u
  go_wp2_with fail
  refine (textE_any [97, 44, 98] (by decide) _ (HE.out.keep0 U5.out)).mono ?_
  rintro e w6 ⟨rfl, u⟩
  rw [text_ab]
  have U6 := hid (U5.out.trans u)
  clear u
  have hblk : IntsBlk (w6.alloc (.cells #[.int .i64 1, .int .i64 (-1)] 3 (0, 0))) w6.heap.size [1, -1] := heap_alloc_new
  have R1 := hid (hblk.rep (A := (· < (w6.alloc (.cells #[.int .i64 1, .int .i64 (-1)] 3 (0, 0))).heap.size)) (cap := 2) (by decide) (Nat.le_refl _) (by unfold maxLen; decide) hblk.lt)
  have ua := hid ((U6.out).alloc (.cells #[.int .i64 1, .int .i64 (-1)] 3 (0, 0)))
  clear hblk
  go_wp2_with fail
  refine (numsE_any _ [1, -1] _ (HE.out.keep0 ua.out) R1.out (by unfold I64; decide) (by rw [show listE intE [1, -1] = numsE [1, -1] from rfl, nums_1]; decide)).mono ?_
  rintro e w7 ⟨rfl, u⟩
  rw [nums_1]
  have U7 := hid (ua.out.trans u)
  clear u
  go_wp2_with fail
  refine (textsE_any _ [] _ (HE.out.keep0 U7.out) (.inl ⟨none, 0, rfl, Nat.zero_le _, rfl⟩) (fun x hx => (List.not_mem_nil hx).elim) (by rw [show listE textE [] = textsE [] from rfl, texts_0]; decide)).mono ?_
  rintro e w8 ⟨rfl, u⟩
  rw [texts_0]
  have U8 := hid (U7.out.trans u)
  clear u
  go_wp2_with fail
  refine (open_any [48, 48, 55, 59] _).mono ?_
  rintro e w9 ⟨rfl, hr, u⟩
  have HR := hid hr; have U9 := hid (U8.out.trans u)
  have hb6 : 6 ≤ w8.heap.size := Nat.le_trans HZ.out U8.out.size
  have hw8 : w.heap.size ≤ w8.heap.size := U8.out.size
  clear hr u
  go_wp2_with fail
  refine (numR_any w8.heap.size _ _ (HE.out.keep0 U9.out) HR.out hb6 (by decide)).mono ?_
  rw [rd_007]
  rintro e wa ⟨rfl, hr, u⟩
  have HR2 := hid hr; have UA := hid (U9.out.comp u fun i hi e => by omega)
  clear hr u
  go_wp2_with fail
  refine (left_any w8.heap.size failS _ HR2.out).mono ?_
  rintro e wb ⟨rfl, hw⟩
  subst hw
  rw [show ((failS.rest.length : Nat) : Int) = 0 from rfl]
  go_wp2_with fail
  refine (done_any w8.heap.size failS _ HR2.out).mono ?_
  rintro e wc ⟨rfl, hw⟩
  subst hw
  rw [show doneF failS = false from rfl]
  go_wp2_with fail
  go_ret
  exact ⟨rfl, UA.out⟩

/-- The encoding of a value. -/
def writeF (v : Vl) : List UInt8 :=
  if v.kind % 5 = 0 then numE (numOf v.n) else if v.kind % 5 = 1 then intE v.n else if v.kind % 5 = 2 then textE v.s else if v.kind % 5 = 3 then numsE v.l else textsE v.t
/-- Whether what is read next is a value, and the reader behind it. -/
def equalF (r : RS) (v : Vl) : Bool × RS :=
  if v.kind % 5 = 0 then ((numF r).1 == numOf v.n, (numF r).2) else if v.kind % 5 = 1 then ((intF r).1 == v.n, (intF r).2) else if v.kind % 5 = 2 then ((textF r).1 == v.s, (textF r).2)
  else if v.kind % 5 = 3 then ((numsF r).1 == v.l, (numsF r).2) else ((textsF r).1 == v.t, (textsF r).2)
/-- A value whose encoding is short enough. -/
structure VlOk (v : Vl) : Prop where
  kind : (Lit.int .i64 v.kind).wf = true
  n : I64 v.n
  s : v.s.length ≤ 10000000
  l : ∀ x ∈ v.l, I64 x
  lb : (numsE v.l).length ≤ 50000000
  t : ∀ x ∈ v.t, x.length ≤ 10000000
  tb : (textsE v.t).length ≤ 50000000
theorem cells5 {w : World} {p : Nat} {a b c d f : Value} {t : TypeId} (h : w.heap[p]? = some (.cells #[a, b, c, d, f] t (0, 0))) : w.cell? ⟨p, 0, none⟩ = some a ∧ w.cell? ⟨p, 1, none⟩ = some b ∧ w.cell? ⟨p, 2, none⟩ = some c ∧ w.cell? ⟨p, 3, none⟩ = some d ∧ w.cell? ⟨p, 4, none⟩ = some f ∧ ∀ o, w.frozen? ⟨p, o, none⟩ = false :=
  ⟨by rw [cell_of_block h]; rfl, by rw [cell_of_block h]; rfl, by rw [cell_of_block h]; rfl, by rw [cell_of_block h]; rfl, by rw [cell_of_block h]; rfl, fun _ => frozen_of_block h⟩

set_option maxHeartbeats 1000000 in
theorem write_any (v : Vl) (a1 a2 : Option Addr) (c1 c2 : Nat) (w : World) (E : Env w) (hv : VlOk v) (hl : kInts.rep (· < w.heap.size) w [.slice a1 v.l.length c1] v.l) (ht : kStrs.rep (· < w.heap.size) w [.slice a2 v.t.length c2] v.t) :
    Calls Tryd.prog 30 #[.agg #[.int .i64 v.kind, .int .i64 v.n, .string ⟨v.s.toArray⟩, .slice a1 v.l.length c1, .slice a2 v.t.length c2]] w fun e w' => e = .returned (.string ⟨(writeF v).toArray⟩) ∧ Upd (fun _ => False) w w' := by
  have u0 := (Upd.refl (fun _ => False) w).alloc (.cells #[.int .i64 v.kind, .int .i64 v.n, .string ⟨v.s.toArray⟩, .slice a1 v.l.length c1, .slice a2 v.t.length c2] 25 (0, 0))
  have hb0 : (w.alloc (.cells #[.int .i64 v.kind, .int .i64 v.n, .string ⟨v.s.toArray⟩, .slice a1 v.l.length c1, .slice a2 v.t.length c2] 25 (0, 0))).heap[w.heap.size]? = some (.cells #[.int .i64 v.kind, .int .i64 v.n, .string ⟨v.s.toArray⟩, .slice a1 v.l.length c1, .slice a2 v.t.length c2] 25 (0, 0)) := heap_alloc_new
  have HE := hid E; have HV := hid hv; have U0 := hid u0; have HB := hid hb0
  have HL := hid (rep_keep hl u0); have HT := hid (rep_keep ht u0)
  clear hl ht E hv u0 hb0
  obtain ⟨k, hk⟩ : ∃ k, v.kind % 5 = k := ⟨_, rfl⟩
  have hkr : 0 ≤ k ∧ k ≤ 4 := by omega
  have HK := hid hk
  clear hk
  go_enter Tryd.func30, Tryd.ntmps30
  go_wp2_with fail
  refine (kind_any v.kind v.n v.s a1 a2 _ c1 _ c2 HV.out.kind _).mono ?_
  rintro e w1 ⟨rfl, u⟩
  rw [HK.out]
  have U1 := hid (U0.out.trans u)
  have HL1 := hid (rep_keep HL.out u); have HT1 := hid (rep_keep HT.out u)
  obtain ⟨d0, d1, d2, d3, d4, _⟩ := cells5 ((u.block _ (heap_lt HB.out) id).trans HB.out)
  clear u HL HT HB
  by_cases k0 : k = 0
  · subst k0
    have HF := hid (show writeF v = numE (numOf v.n) by unfold writeF; rw [HK.out]; rfl)
    go_wp2_with fail
    refine (numV_any v.n (iwf HV.out.n) _).mono ?_
    rintro e w2 ⟨rfl, hw⟩
    subst hw
    go_wp2_with fail
    refine (numE_any (numOf v.n) (numOf_i64 HV.out.n).1 _ (HE.out.keep0 U1.out)).mono ?_
    rintro e w3 ⟨rfl, u⟩
    have U2 := hid (U1.out.trans u)
    clear u
    go_wp2_with fail
    go_ret
    exact ⟨by rw [HF.out]; rfl, U2.out⟩
  by_cases k1 : k = 1
  · subst k1
    have HF := hid (show writeF v = intE v.n by unfold writeF; rw [HK.out]; rfl)
    go_wp2_with fail
    refine (intE_any v.n HV.out.n _ (HE.out.keep0 U1.out)).mono ?_
    rintro e w3 ⟨rfl, u⟩
    have U2 := hid (U1.out.trans u)
    clear u
    go_wp2_with fail
    go_ret
    exact ⟨by rw [HF.out]; rfl, U2.out⟩
  by_cases k2 : k = 2
  · subst k2
    have HF := hid (show writeF v = textE v.s by unfold writeF; rw [HK.out]; rfl)
    go_wp2_with fail
    refine (textE_any v.s HV.out.s _ (HE.out.keep0 U1.out)).mono ?_
    rintro e w3 ⟨rfl, u⟩
    have U2 := hid (U1.out.trans u)
    clear u
    go_wp2_with fail
    go_ret
    exact ⟨by rw [HF.out]; rfl, U2.out⟩
  by_cases k3 : k = 3
  · subst k3
    have HF := hid (show writeF v = numsE v.l by unfold writeF; rw [HK.out]; rfl)
    go_wp2_with fail
    refine (numsE_any _ v.l _ (HE.out.keep0 U1.out) HL1.out HV.out.l HV.out.lb).mono ?_
    rintro e w3 ⟨rfl, u⟩
    have U2 := hid (U1.out.trans u)
    clear u
    go_wp2_with fail
    go_ret
    exact ⟨by rw [HF.out]; rfl, U2.out⟩
  obtain rfl : k = 4 := by omega
  have HF := hid (show writeF v = textsE v.t by unfold writeF; rw [HK.out]; rfl)
  go_wp2_with fail
  refine (textsE_any _ v.t _ (HE.out.keep0 U1.out) HT1.out HV.out.t HV.out.tb).mono ?_
  rintro e w3 ⟨rfl, u⟩
  have U2 := hid (U1.out.trans u)
  clear u
  go_wp2_with fail
  go_ret
  exact ⟨by rw [HF.out]; rfl, U2.out⟩

set_option maxRecDepth 100000 in
set_option maxHeartbeats 2000000 in
theorem equal_any (b : Nat) (r : RS) (v : Vl) (a1 a2 : Option Addr) (c1 c2 : Nat) (w : World) (E : Env w) (hr : RdAt w b r) (hb : 6 ≤ b) (hlen : r.rest.length ≤ 10000000) (hok : r.Ok) (hv : VlOk v) (hl : kInts.rep (fun g => g < w.heap.size ∧ g ≠ b) w [.slice a1 v.l.length c1] v.l) (ht : kStrs.rep (fun g => g < w.heap.size ∧ g ≠ b) w [.slice a2 v.t.length c2] v.t) :
    Calls Tryd.prog 31 #[.pointer (some ⟨b, 0, none⟩), .agg #[.int .i64 v.kind, .int .i64 v.n, .string ⟨v.s.toArray⟩, .slice a1 v.l.length c1, .slice a2 v.t.length c2]] w fun e w' => e = .returned (.bool (equalF r v).1) ∧ RdAt w' b (equalF r v).2 ∧ Upd (· = b) w w' := by
  have u0 := (Upd.refl (fun _ => False) w).alloc (.cells #[.int .i64 v.kind, .int .i64 v.n, .string ⟨v.s.toArray⟩, .slice a1 v.l.length c1, .slice a2 v.t.length c2] 25 (0, 0))
  have hb0 : (w.alloc (.cells #[.int .i64 v.kind, .int .i64 v.n, .string ⟨v.s.toArray⟩, .slice a1 v.l.length c1, .slice a2 v.t.length c2] 25 (0, 0))).heap[w.heap.size]? = some (.cells #[.int .i64 v.kind, .int .i64 v.n, .string ⟨v.s.toArray⟩, .slice a1 v.l.length c1, .slice a2 v.t.length c2] 25 (0, 0)) := heap_alloc_new
  have HE := hid E; have HV := hid hv; have HR := hid (hr.upd u0 id); have HOK := hid hok
  have hbl := heap_lt hr
  have hbne : w.heap.size ≠ b := by omega
  have HL := hid hl; have HT := hid ht
  have U0 := hid u0; have HB := hid hb0
  clear hl ht E hv u0 hb0 hr hok
  obtain ⟨k, hk⟩ : ∃ k, v.kind % 5 = k := ⟨_, rfl⟩
  have hkr : 0 ≤ k ∧ k ≤ 4 := by omega
  have HK := hid hk
  clear hk
  go_enter Tryd.func31, Tryd.ntmps31
  go_wp2_with fail
  refine (kind_any v.kind v.n v.s a1 a2 _ c1 _ c2 HV.out.kind _).mono ?_
  rintro e w1 ⟨rfl, u⟩
  rw [HK.out]
  have U1 := hid (U0.out.trans u)
  have HR1 := hid (HR.out.upd u id)
  have HB1 := hid ((u.block _ (heap_lt HB.out) id).trans HB.out)
  have HE1 := hid (HE.out.keep0 U1.out)
  have keepL := fun wx (hx : Upd (· = b) w wx) => kInts.mono (A' := (· < wx.heap.size)) (kInts.keep HL.out (Same.of_upd hx fun g hg e => hg.2 e)) fun g hg => Nat.lt_of_lt_of_le hg.1 hx.size
  have keepT := fun wx (hx : Upd (· = b) w wx) => kStrs.mono (A' := (· < wx.heap.size)) (kStrs.keep HT.out (Same.of_upd hx fun g hg e => hg.2 e)) fun g hg => Nat.lt_of_lt_of_le hg.1 hx.size
  have KL := hid keepL; have KT := hid keepT
  have hc := cells5 HB1.out
  obtain ⟨d0, d1, d2, d3, d4, _⟩ := hc
  have U1B := hid (U1.out.mono (T := (· = b)) fun _ h => h.elim)
  clear u HR HB keepL keepT HE
  by_cases k0 : k = 0
  · subst k0
    have HF := hid (show equalF r v = ((numF r).1 == numOf v.n, (numF r).2) by unfold equalF; rw [HK.out]; rfl)
    go_wp2_with fail
    first | (go_region_held3 (fun w' => w'.cell? ⟨w.heap.size, 1, none⟩ = some (.int .i64 v.n)) (first | go_keep | exact cell_kept (w := w1.drew) d1 (Z1.out.block _ (World.block_lt_of_cell? _ _ d1) hbne) | exact cell_kept (cell_kept (w := w1.drew) d1 (Z1.out.block _ (World.block_lt_of_cell? _ _ d1) hbne)) (Z2.out.block _ (Nat.lt_of_lt_of_le (World.block_lt_of_cell? w1.drew _ d1) Z1.out.size) id)) ((first | (go_at_call 23; refine (numR_any b r _ (HE1.out.keep0 (Upd.drew (Upd.refl _ _))) (HR1.out.upd (S := fun _ => False) (Upd.drew (Upd.refl _ _)) id) hb hlen).mono ?_; rintro e w2 ⟨rfl, hr, u⟩; have Z1 := hid u; have ZR := hid hr; clear hr u) | (go_at_call 53; refine (numV_any v.n (iwf HV.out.n) _).mono ?_; rintro e w3 ⟨rfl, hw⟩; subst hw)))) | fail
    all_goals
      go_wp2_with fail
      go_ret
      exact ⟨by rw [HF.out]; rfl, by rw [HF.out]; exact ZR.out, U1B.out.trans ((Upd.refl _ _).drew.trans Z1.out)⟩
  by_cases k1 : k = 1
  · subst k1
    have HF := hid (show equalF r v = ((intF r).1 == v.n, (intF r).2) by unfold equalF; rw [HK.out]; rfl)
    go_wp2_with fail
    first | (go_region_held3 (fun w' => w'.cell? ⟨w.heap.size, 1, none⟩ = some (.int .i64 v.n)) (first | go_keep | exact cell_kept (w := w1.drew) d1 (Z1.out.block _ (World.block_lt_of_cell? _ _ d1) hbne) | exact cell_kept (cell_kept (w := w1.drew) d1 (Z1.out.block _ (World.block_lt_of_cell? _ _ d1) hbne)) (Z2.out.block _ (Nat.lt_of_lt_of_le (World.block_lt_of_cell? w1.drew _ d1) Z1.out.size) id)) ((go_at_call 24; refine (intR_any b r _ (HE1.out.keep0 (Upd.drew (Upd.refl _ _))) (HR1.out.upd (S := fun _ => False) (Upd.drew (Upd.refl _ _)) id) hb hlen).mono ?_; rintro e w2 ⟨rfl, hr, u⟩; have Z1 := hid u; have ZR := hid hr; clear hr u))) | fail
    all_goals
      go_wp2_with fail
      go_ret
      exact ⟨by rw [HF.out]; rfl, by rw [HF.out]; exact ZR.out, U1B.out.trans ((Upd.refl _ _).drew.trans Z1.out)⟩
  by_cases k2 : k = 2
  · subst k2
    have HF := hid (show equalF r v = ((textF r).1 == v.s, (textF r).2) by unfold equalF; rw [HK.out]; rfl)
    go_wp2_with fail
    first | (go_region_held3 (fun w' => w'.cell? ⟨w.heap.size, 2, none⟩ = some (.string ⟨v.s.toArray⟩)) (first | go_keep | exact cell_kept (w := w1.drew) d2 (Z1.out.block _ (World.block_lt_of_cell? _ _ d2) hbne) | exact cell_kept (cell_kept (w := w1.drew) d2 (Z1.out.block _ (World.block_lt_of_cell? _ _ d2) hbne)) (Z2.out.block _ (Nat.lt_of_lt_of_le (World.block_lt_of_cell? w1.drew _ d2) Z1.out.size) id)) ((go_at_call 25; refine (textR_any b r _ (HE1.out.keep0 (Upd.drew (Upd.refl _ _))) (HR1.out.upd (S := fun _ => False) (Upd.drew (Upd.refl _ _)) id) hb hlen).mono ?_; rintro e w2 ⟨rfl, hr, u⟩; have Z1 := hid u; have ZR := hid hr; clear hr u))) | fail
    all_goals
      go_wp2_with fail
      go_ret
      exact ⟨by rw [HF.out]; rfl, by rw [HF.out]; exact ZR.out, U1B.out.trans ((Upd.refl _ _).drew.trans Z1.out)⟩
  by_cases k3 : k = 3
  · subst k3
    have HF := hid (show equalF r v = ((numsF r).1 == v.l, (numsF r).2) by unfold equalF; rw [HK.out]; rfl)
    go_wp2_with fail
    first | (go_region_held3 (fun w' => w'.cell? ⟨w.heap.size, 3, none⟩ = some (.slice a1 v.l.length c1)) (first | go_keep | exact cell_kept (w := w1.drew) d3 (Z1.out.block _ (World.block_lt_of_cell? _ _ d3) hbne) | exact cell_kept (cell_kept (w := w1.drew) d3 (Z1.out.block _ (World.block_lt_of_cell? _ _ d3) hbne)) (Z2.out.block _ (Nat.lt_of_lt_of_le (World.block_lt_of_cell? w1.drew _ d3) Z1.out.size) id)) ((first | (go_at_call 26; refine (numsR_any b r _ (HE1.out.keep0 (Upd.drew (Upd.refl _ _))) (HR1.out.upd (S := fun _ => False) (Upd.drew (Upd.refl _ _)) id) hb hlen HOK.out).mono ?_; rintro e w2 ⟨ax, nx, cx, rfl, hx, hr, u⟩; have Z1 := hid u; have ZR := hid hr; have ZX := hid hx; clear hr u hx) | (go_at_call 36; refine (sameNums_any _ _ (numsF r).1 v.l _ (kInts.mono ZX.out fun g hg => hg.2) (KL.out _ (U1B.out.trans ((Upd.refl _ _).drew.trans Z1.out)))).mono ?_; rintro e w3 ⟨rfl, u⟩; have Z2 := hid u; clear u)))) | fail
    all_goals
      go_wp2_with fail
      go_ret
      exact ⟨by rw [HF.out]; rfl, by rw [HF.out]; exact ZR.out.upd Z2.out id, U1B.out.trans ((Upd.refl _ _).drew.trans (Z1.out.trans (Z2.out.mono fun _ h => h.elim)))⟩
  obtain rfl : k = 4 := by omega
  · skip
    have HF := hid (show equalF r v = ((textsF r).1 == v.t, (textsF r).2) by unfold equalF; rw [HK.out]; rfl)
    go_wp2_with fail
    first | (go_region_held3 (fun w' => w'.cell? ⟨w.heap.size, 4, none⟩ = some (.slice a2 v.t.length c2)) (first | go_keep | exact cell_kept (w := w1.drew) d4 (Z1.out.block _ (World.block_lt_of_cell? _ _ d4) hbne) | exact cell_kept (cell_kept (w := w1.drew) d4 (Z1.out.block _ (World.block_lt_of_cell? _ _ d4) hbne)) (Z2.out.block _ (Nat.lt_of_lt_of_le (World.block_lt_of_cell? w1.drew _ d4) Z1.out.size) id)) ((first | (go_at_call 27; refine (textsR_any b r _ (HE1.out.keep0 (Upd.drew (Upd.refl _ _))) (HR1.out.upd (S := fun _ => False) (Upd.drew (Upd.refl _ _)) id) hb hlen HOK.out).mono ?_; rintro e w2 ⟨ax, nx, cx, rfl, hx, hr, u⟩; have Z1 := hid u; have ZR := hid hr; have ZX := hid hx; clear hr u hx) | (go_at_call 38; refine (sameTexts_any _ _ (textsF r).1 v.t _ (kStrs.mono ZX.out fun g hg => hg.2) (KT.out _ (U1B.out.trans ((Upd.refl _ _).drew.trans Z1.out)))).mono ?_; rintro e w3 ⟨rfl, u⟩; have Z2 := hid u; clear u)))) | fail
    all_goals
      go_wp2_with fail
      go_ret
      exact ⟨by rw [HF.out]; rfl, by rw [HF.out]; exact ZR.out.upd Z2.out id, U1B.out.trans ((Upd.refl _ _).drew.trans (Z1.out.trans (Z2.out.mono fun _ h => h.elim)))⟩
end Go.Proofs.YtdnbbjcpjhkedaaDoor
