/- The reference's reader: an int out of a string. -/
import Derived.Test.YtdcahnkcnbhknaaGreatDoorWrR3
namespace Go.Proofs.YtdcahnkcnbhknaaGreatDoor
open Go.RowKit Go.Deep

theorem wrap64_i64 (n : Int) : I64 (wrap64 n) := bounds_i64 (wrap64_wf n)
def bStep (n : Int) (c : UInt8) : Int := wrap64 (wrap64 (10 * n) - ((c.toNat : Int) - 48))
def bk (l : List UInt8) : Int := l.foldl bStep 0
theorem bk_snoc (l : List UInt8) (c : UInt8) : bk (l ++ [c]) = bStep (bk l) c := by unfold bk; rw [List.foldl_append]; rfl
theorem bk_i64 (l : List UInt8) : I64 (bk l) := by
  rcases List.eq_nil_or_concat l with rfl | ⟨l', c, rfl⟩
  · unfold bk I64; simp
  · rw [List.concat_eq_append, bk_snoc]; exact wrap64_i64 _
theorem bk_dec (u : Nat) : u ≤ 9223372036854775808 → bk (Lib.decDigits u) = -(u : Int) := by
  induction u using Nat.strongRecOn with
  | _ u ih =>
    intro hu
    by_cases h : u < 10
    · rw [dec_small h]
      have h2 := digit_byte u
      rw [show [UInt8.ofNat (48 + u % 10)] = [] ++ [UInt8.ofNat (48 + u % 10)] from rfl, bk_snoc]
      unfold bStep
      rw [show bk [] = 0 from rfl]
      rw [IntWalk.wrap64_in (10 * 0) (by omega), IntWalk.wrap64_in _ (by omega)]
      omega
    · rw [dec_big h, bk_snoc, ih (u / 10) (by omega) (by omega)]
      have h2 := digit_byte u
      unfold bStep
      rw [IntWalk.wrap64_in (10 * -((u / 10 : Nat) : Int)) (by omega), IntWalk.wrap64_in _ (by omega)]
      omega
def sgn (l : List UInt8) : Nat := if l.head? = some 45 then 1 else 0
theorem back_ok {L : List UInt8} {n : Int} (hn : I64 n) (h : Lib.itoa n = L) : (∀ j (hj : j < L.length), sgn L ≤ j → 48 ≤ L[j].toNat ∧ L[j].toNat ≤ 57) ∧ n = (if sgn L = 0 then wrap64 (-(bk (L.drop 0))) else bk (L.drop 1)) := by
  unfold I64 at hn
  unfold Lib.itoa at h
  by_cases h0 : n < 0
  · rw [if_pos h0] at h
    subst h
    have hs : sgn (45 :: Lib.decDigits n.natAbs) = 1 := by unfold sgn; simp
    rw [hs]
    refine ⟨fun j hj h1 => ?_, ?_⟩
    · obtain ⟨i, rfl⟩ : ∃ i, j = i + 1 := ⟨j - 1, by omega⟩
      rw [List.getElem_cons_succ]
      exact dec_bytes _ _ (List.getElem_mem _)
    · rw [if_neg (by decide), List.drop_succ_cons, List.drop_zero, bk_dec _ (by omega)]; omega
  · rw [if_neg h0] at h
    subst h
    have hs : sgn (Lib.decDigits n.toNat) = 0 := by
      unfold sgn
      rw [if_neg]
      intro e
      have : (45 : UInt8) ∈ Lib.decDigits n.toNat := List.mem_of_mem_head? (by rw [e]; rfl)
      have := dec_bytes _ _ this
      revert this; decide
    rw [hs]
    refine ⟨fun j hj _ => dec_bytes _ _ (List.getElem_mem _), ?_⟩
    rw [if_pos rfl, List.drop_zero, bk_dec _ (by omega), Int.neg_neg, IntWalk.wrap64_in _ (by omega)]
    omega
theorem take_drop_snoc (L : List UInt8) (F i : Nat) (h1 : F ≤ i) (h2 : i < L.length) : (L.take (i + 1)).drop F = (L.take i).drop F ++ [L[i]] := by
  rw [List.take_succ_eq_append_getElem h2, List.drop_append_of_le_length (by rw [List.length_take]; omega)]
theorem int_str {m : Int} {L : List UInt8} : (intE m == L ++ [59]) = true ↔ Lib.itoa m = L := by
  rw [beq_iff_eq]
  unfold intE
  constructor
  · intro h
    exact List.append_cancel_right h
  · intro h
    rw [h]

def BackPost (L : List UInt8) (w : World) (e : Ending) (w' : World) : Prop :=
  ∃ m ok, e = .returned (.tuple #[.int .i64 m, .bool ok]) ∧ Upd (fun _ => False) w w' ∧ (ok = true → I64 m ∧ Lib.itoa m = L) ∧ ∀ n, I64 n → Lib.itoa n = L → ok = true ∧ m = n
theorem back_no {L : List UInt8} {w w' : World} (u : Upd (fun _ => False) w w') (h : ∀ n, I64 n → Lib.itoa n = L → False) : BackPost L w (.returned (.tuple #[.int .i64 0, .bool false])) w' :=
  ⟨0, false, rfl, u, (fun h => by cases h), fun n hn hl => (h n hn hl).elim⟩
theorem back_fin {L : List UInt8} {w w' : World} {m : Int} (hm : I64 m) (u : Upd (fun _ => False) w w') (h : ∀ n, I64 n → Lib.itoa n = L → m = n) : BackPost L w (.returned (.tuple #[.int .i64 m, .bool (intE m == L ++ [59])])) w' :=
  ⟨m, _, rfl, u, fun e => ⟨hm, int_str.1 e⟩, fun n hn hl => by
    have := h n hn hl
    subst this
    exact ⟨int_str.2 hl, rfl⟩⟩

set_option maxRecDepth 100000 in
set_option maxHeartbeats 2000000 in
theorem back_any (L : List UInt8) (w : World) (hlen : L.length ≤ 21) :
    Calls Tryz.prog 122 #[.string ⟨L.toArray⟩] w (BackPost L w) := by
  have BO := hid (fun n (hn : I64 n) (h : Lib.itoa n = L) => back_ok hn h)
  have INO := hid (fun n (h : Lib.itoa n = L) (e : L = []) => itoa_ne n (h.trans e))

  have HLEN := hid hlen
  by_cases hL0 : L = []
  · have HF := hid (show sgn L = 0 by rw [hL0]; rfl)
    have HFL := hid (Nat.zero_le L.length)
    have hl0 : L.length = 0 := by rw [hL0]; rfl
    have hz1 : decide (0 < L.length) = false := decide_eq_false (by omega)
    have hz2 : decide (0 < (L.length : Int)) = false := decide_eq_false (by omega)
    clear hL0 hl0
    go_enter Tryz.func122, Tryz.ntmps122
    go_wp2_with fail
    clear hlen hz1 hz2
    go_loopg [5, 6] L.length (fun gg s5 s6 wr => ∃ (i : Nat) (n : Int), 0 ≤ i ∧ i ≤ L.length ∧ gg = L.length - (i - 0) ∧ s5 = .int .i64 n ∧ s6 = .int .i64 i ∧ n = bk ((L.take i).drop 0) ∧ w = wr)
    case atStart => exact ⟨0, 0, Nat.le_refl _, HFL.out, by have := HFL.out; omega, rfl, rfl, by rw [List.drop_of_length_le (by rw [List.length_take]; omega)]; rfl, rfl⟩
    case round =>
      obtain ⟨i, n, hFi, hi, hg, rfl, rfl, hn, rfl⟩ := hrel
      have HG := hid hg; have HN := hid hn
      clear hg hn
      by_cases hlt : i < L.length
      · have hlti : (i : Int) < L.length := by omega
        have hi20 : (i : Int) ≤ 20 := by have := HLEN.out; omega
        have hi20b : decide (20 < (i : Int)) = false := decide_eq_false (by omega)
        have hi20n : decide (20 < i) = false := decide_eq_false (by omega)
        obtain ⟨x, hx⟩ : ∃ x, L[i] = x := ⟨_, rfl⟩
        have hix : ∀ h, (ByteArray.mk L.toArray)[i]'h = x := fun h => (idx L i hlt h).trans hx
        have SN := hid (take_drop_snoc L 0 i hFi hlt)
        have NOD := hid (fun (h : ¬ (48 ≤ L[i].toNat ∧ L[i].toNat ≤ 57)) n hn hl => h ((BO.out n hn hl).1 i hlt (by rw [HF.out]; exact hFi)))
        rw [hx] at SN NOD
        clear hx
        by_cases hx1 : x.toNat < 48
        · have hx1i : (x.toNat : Int) < 48 := by omega
          have NB := hid (NOD.out (by omega))
          clear hx1
          go_wp2_with fail
          go_ret2
          exact back_no (Upd.refl _ _) NB.out
        have hx1i : 48 ≤ (x.toNat : Int) := by omega
        have hx1b : decide ((x.toNat : Int) < 48) = false := decide_eq_false (by omega)
        have hx1n : decide (x.toNat < 48) = false := decide_eq_false hx1
        by_cases hx2 : 57 < x.toNat
        · have hx2i : 57 < (x.toNat : Int) := by omega
          have NB := hid (NOD.out (by omega))
          clear hx1 hx2
          go_wp2_with fail
          go_ret2
          exact back_no (Upd.refl _ _) NB.out
        have hx2i : (x.toNat : Int) ≤ 57 := by omega
        have hx2b : decide (57 < (x.toNat : Int)) = false := decide_eq_false (by omega)
        have hx2n : decide (57 < x.toNat) = false := decide_eq_false hx2
        clear hx1 hx2
        have e1 : ((i : Int) + 1).toNat = i + 1 := by omega
        obtain ⟨p, hp⟩ : ∃ p, wrap64 (10 * n) = p := ⟨_, rfl⟩
        obtain ⟨q, hq⟩ : ∃ q, wrap64 (p - ((x.toNat : Int) - 48)) = q := ⟨_, rfl⟩
        have NEW := hid (show q = bk ((L.take (i + 1)).drop 0) by rw [SN.out, bk_snoc, ← HN.out]; unfold bStep; rw [hp, hq])
        go_wp2_with fail
        go_roundg (L.length - (i + 1 - 0))
        case measure => have := HG.out; clear hp hq; omega
        case rel => exact ⟨i + 1, q, by clear hp hq; omega, by clear hp hq; omega, by clear hp hq; omega, by rw [← hq, ← hp], by go_num, NEW.out, rfl⟩
      · obtain rfl : i = L.length := by omega
        have hn2 := HN.out
        rw [List.take_length] at hn2
        have HN2 := hid hn2
        clear HN hn2 hlt
        obtain ⟨m, hm⟩ : ∃ m, wrap64 (-n) = m := ⟨_, rfl⟩
        have HM := hid (show I64 m from hm ▸ wrap64_i64 _)
        have FIN := hid (fun n' hn' hl => show m = n' by rw [(BO.out n' hn' hl).2, if_pos HF.out, ← HN2.out, hm])
        have a1 := add_lists L [59] (by have := HLEN.out; simp; omega)
        go_wp2_with fail
        refine (qInt_any m HM.out _).mono ?_
        rintro e w1 ⟨rfl, u⟩
        have U := hid u; clear u
        go_wp2_with fail
        go_ret2
        exact back_fin HM.out U.out FIN.out

  obtain ⟨y, t, rfl⟩ : ∃ y t, L = y :: t := by
    cases L with
    | nil => exact absurd rfl hL0
    | cons y t => exact ⟨y, t, rfl⟩
  clear hL0
  have hiy : ∀ h, (ByteArray.mk (y :: t).toArray)[0]'h = y := idx (y :: t) 0 (by simp)
  by_cases hy : y = 45
  · subst hy
    have HF := hid (show sgn (45 :: t) = 1 by unfold sgn; simp)
    have HFL := hid (show 1 ≤ ((45 : UInt8) :: t).length by simp)
    go_enter Tryz.func122, Tryz.ntmps122
    go_wp2_with fail
    clear hiy hlen
    generalize (45 : UInt8) :: t = L at *
    go_loopg [5, 6] L.length (fun gg s5 s6 wr => ∃ (i : Nat) (n : Int), 1 ≤ i ∧ i ≤ L.length ∧ gg = L.length - (i - 1) ∧ s5 = .int .i64 n ∧ s6 = .int .i64 i ∧ n = bk ((L.take i).drop 1) ∧ w = wr)
    case atStart => exact ⟨1, 0, Nat.le_refl _, HFL.out, by have := HFL.out; omega, rfl, rfl, by rw [List.drop_of_length_le (by rw [List.length_take]; omega)]; rfl, rfl⟩
    case round =>
      obtain ⟨i, n, hFi, hi, hg, rfl, rfl, hn, rfl⟩ := hrel
      have HG := hid hg; have HN := hid hn
      clear hg hn
      by_cases hlt : i < L.length
      · have hlti : (i : Int) < L.length := by omega
        have hi20 : (i : Int) ≤ 20 := by have := HLEN.out; omega
        have hi20b : decide (20 < (i : Int)) = false := decide_eq_false (by omega)
        have hi20n : decide (20 < i) = false := decide_eq_false (by omega)
        obtain ⟨x, hx⟩ : ∃ x, L[i] = x := ⟨_, rfl⟩
        have hix : ∀ h, (ByteArray.mk L.toArray)[i]'h = x := fun h => (idx L i hlt h).trans hx
        have SN := hid (take_drop_snoc L 1 i hFi hlt)
        have NOD := hid (fun (h : ¬ (48 ≤ L[i].toNat ∧ L[i].toNat ≤ 57)) n hn hl => h ((BO.out n hn hl).1 i hlt (by rw [HF.out]; exact hFi)))
        rw [hx] at SN NOD
        clear hx
        by_cases hx1 : x.toNat < 48
        · have hx1i : (x.toNat : Int) < 48 := by omega
          have NB := hid (NOD.out (by omega))
          clear hx1
          go_wp2_with fail
          go_ret2
          exact back_no (Upd.refl _ _) NB.out
        have hx1i : 48 ≤ (x.toNat : Int) := by omega
        have hx1b : decide ((x.toNat : Int) < 48) = false := decide_eq_false (by omega)
        have hx1n : decide (x.toNat < 48) = false := decide_eq_false hx1
        by_cases hx2 : 57 < x.toNat
        · have hx2i : 57 < (x.toNat : Int) := by omega
          have NB := hid (NOD.out (by omega))
          clear hx1 hx2
          go_wp2_with fail
          go_ret2
          exact back_no (Upd.refl _ _) NB.out
        have hx2i : (x.toNat : Int) ≤ 57 := by omega
        have hx2b : decide (57 < (x.toNat : Int)) = false := decide_eq_false (by omega)
        have hx2n : decide (57 < x.toNat) = false := decide_eq_false hx2
        clear hx1 hx2
        have e1 : ((i : Int) + 1).toNat = i + 1 := by omega
        obtain ⟨p, hp⟩ : ∃ p, wrap64 (10 * n) = p := ⟨_, rfl⟩
        obtain ⟨q, hq⟩ : ∃ q, wrap64 (p - ((x.toNat : Int) - 48)) = q := ⟨_, rfl⟩
        have NEW := hid (show q = bk ((L.take (i + 1)).drop 1) by rw [SN.out, bk_snoc, ← HN.out]; unfold bStep; rw [hp, hq])
        go_wp2_with fail
        go_roundg (L.length - (i + 1 - 1))
        case measure => have := HG.out; clear hp hq; omega
        case rel => exact ⟨i + 1, q, by clear hp hq; omega, by clear hp hq; omega, by clear hp hq; omega, by rw [← hq, ← hp], by go_num, NEW.out, rfl⟩
      · obtain rfl : i = L.length := by omega
        have hn2 := HN.out
        rw [List.take_length] at hn2
        have HN2 := hid hn2
        clear HN hn2 hlt
        have HM := hid (show I64 n from HN2.out ▸ bk_i64 _)
        have FIN := hid (fun n' hn' hl => show n = n' by rw [(BO.out n' hn' hl).2, if_neg (by rw [HF.out]; decide), ← HN2.out])
        have a1 := add_lists L [59] (by have := HLEN.out; simp; omega)
        go_wp2_with fail
        refine (qInt_any n HM.out _).mono ?_
        rintro e w1 ⟨rfl, u⟩
        have U := hid u; clear u
        go_wp2_with fail
        go_ret2
        exact back_fin HM.out U.out FIN.out

  · have HF := hid (show sgn (y :: t) = 0 by unfold sgn; rw [if_neg]; simpa using hy)
    have HFL := hid (Nat.zero_le (y :: t).length)
    have hyb : ((y.toNat : Int) == 45) = false := beq_eq_false_iff_ne.2 fun e => hy (UInt8.toNat_inj.1 (by show y.toNat = 45; omega))
    clear hy
    go_enter Tryz.func122, Tryz.ntmps122
    go_wp2_with fail
    clear hiy hlen hyb
    generalize y :: t = L at *
    go_loopg [5, 6] L.length (fun gg s5 s6 wr => ∃ (i : Nat) (n : Int), 0 ≤ i ∧ i ≤ L.length ∧ gg = L.length - (i - 0) ∧ s5 = .int .i64 n ∧ s6 = .int .i64 i ∧ n = bk ((L.take i).drop 0) ∧ w = wr)
    case atStart => exact ⟨0, 0, Nat.le_refl _, HFL.out, by have := HFL.out; omega, rfl, rfl, by rw [List.drop_of_length_le (by rw [List.length_take]; omega)]; rfl, rfl⟩
    case round =>
      obtain ⟨i, n, hFi, hi, hg, rfl, rfl, hn, rfl⟩ := hrel
      have HG := hid hg; have HN := hid hn
      clear hg hn
      by_cases hlt : i < L.length
      · have hlti : (i : Int) < L.length := by omega
        have hi20 : (i : Int) ≤ 20 := by have := HLEN.out; omega
        have hi20b : decide (20 < (i : Int)) = false := decide_eq_false (by omega)
        have hi20n : decide (20 < i) = false := decide_eq_false (by omega)
        obtain ⟨x, hx⟩ : ∃ x, L[i] = x := ⟨_, rfl⟩
        have hix : ∀ h, (ByteArray.mk L.toArray)[i]'h = x := fun h => (idx L i hlt h).trans hx
        have SN := hid (take_drop_snoc L 0 i hFi hlt)
        have NOD := hid (fun (h : ¬ (48 ≤ L[i].toNat ∧ L[i].toNat ≤ 57)) n hn hl => h ((BO.out n hn hl).1 i hlt (by rw [HF.out]; exact hFi)))
        rw [hx] at SN NOD
        clear hx
        by_cases hx1 : x.toNat < 48
        · have hx1i : (x.toNat : Int) < 48 := by omega
          have NB := hid (NOD.out (by omega))
          clear hx1
          go_wp2_with fail
          go_ret2
          exact back_no (Upd.refl _ _) NB.out
        have hx1i : 48 ≤ (x.toNat : Int) := by omega
        have hx1b : decide ((x.toNat : Int) < 48) = false := decide_eq_false (by omega)
        have hx1n : decide (x.toNat < 48) = false := decide_eq_false hx1
        by_cases hx2 : 57 < x.toNat
        · have hx2i : 57 < (x.toNat : Int) := by omega
          have NB := hid (NOD.out (by omega))
          clear hx1 hx2
          go_wp2_with fail
          go_ret2
          exact back_no (Upd.refl _ _) NB.out
        have hx2i : (x.toNat : Int) ≤ 57 := by omega
        have hx2b : decide (57 < (x.toNat : Int)) = false := decide_eq_false (by omega)
        have hx2n : decide (57 < x.toNat) = false := decide_eq_false hx2
        clear hx1 hx2
        have e1 : ((i : Int) + 1).toNat = i + 1 := by omega
        obtain ⟨p, hp⟩ : ∃ p, wrap64 (10 * n) = p := ⟨_, rfl⟩
        obtain ⟨q, hq⟩ : ∃ q, wrap64 (p - ((x.toNat : Int) - 48)) = q := ⟨_, rfl⟩
        have NEW := hid (show q = bk ((L.take (i + 1)).drop 0) by rw [SN.out, bk_snoc, ← HN.out]; unfold bStep; rw [hp, hq])
        go_wp2_with fail
        go_roundg (L.length - (i + 1 - 0))
        case measure => have := HG.out; clear hp hq; omega
        case rel => exact ⟨i + 1, q, by clear hp hq; omega, by clear hp hq; omega, by clear hp hq; omega, by rw [← hq, ← hp], by go_num, NEW.out, rfl⟩
      · obtain rfl : i = L.length := by omega
        have hn2 := HN.out
        rw [List.take_length] at hn2
        have HN2 := hid hn2
        clear HN hn2 hlt
        obtain ⟨m, hm⟩ : ∃ m, wrap64 (-n) = m := ⟨_, rfl⟩
        have HM := hid (show I64 m from hm ▸ wrap64_i64 _)
        have FIN := hid (fun n' hn' hl => show m = n' by rw [(BO.out n' hn' hl).2, if_pos HF.out, ← HN2.out, hm])
        have a1 := add_lists L [59] (by have := HLEN.out; simp; omega)
        go_wp2_with fail
        refine (qInt_any m HM.out _).mono ?_
        rintro e w1 ⟨rfl, u⟩
        have U := hid u; clear u
        go_wp2_with fail
        go_ret2
        exact back_fin HM.out U.out FIN.out

end Go.Proofs.YtdcahnkcnbhknaaGreatDoor
