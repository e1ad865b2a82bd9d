/- The reference: what it writes. -/
/- The reference: encodings. -/
/- The reference's reader: small functions. -/
/- The reference's reader: an int out of a string. -/
/- The reference's reader: numbers and strings. -/
import Derived.Test.YtlefilfdomjkeaaGreatDoorWrC3
import Derived.Laws.IdiomStrings
namespace Go.Proofs.YtlefilfdomjkeaaGreatDoor
open Go.RowKit Go.Deep

theorem neg_tmod10 (u : Nat) : (-(u : Int)).tmod 10 = -((u % 10 : Nat) : Int) := by rw [Int.neg_tmod]; rfl
theorem neg_tdiv10 (u : Nat) : (-(u : Int)).tdiv 10 = -((u / 10 : Nat) : Int) := by rw [Int.neg_tdiv]; rfl
theorem conv_one (w : World) (d : Nat) (hd : d ≤ 9) : (convert 153 9 (.slice (some ⟨w.heap.size, 0, none⟩) 1 1)).run Tryz.prog (w.alloc (.cells #[.int .u8 (48 + (d : Int))] 5 (0, 0))) = .ok (.string ⟨#[UInt8.ofNat (48 + d)]⟩) (w.alloc (.cells #[.int .u8 (48 + (d : Int))] 5 (0, 0))) := by
  have h := run_convert_bytes_back (P := Tryz.prog) (w.alloc (.cells #[.int .u8 (48 + (d : Int))] 5 (0, 0))) 153 9 5 ⟨w.heap.size, 0, none⟩ 1 [UInt8.ofNat (48 + d)] Tryz.underlying153 Tryz.underlying5 Tryz.underlying9 (fun j hj => by
    have : j = 0 := by simp at hj; omega
    subst this
    show (w.alloc (.cells #[.int .u8 (48 + (d : Int))] 5 (0, 0))).cell? ⟨w.heap.size, 0, none⟩ = _
    rw [World.cell?_alloc_mark]
    show some (Value.int .u8 (48 + (d : Int))) = _
    have : (UInt8.ofNat (48 + d)).toNat = 48 + d := by rw [UInt8.toNat_ofNat']; omega
    rw [List.getElem_singleton, this]; rfl)
  exact h
theorem dec_small {u : Nat} (h : u < 10) : Lib.decDigits u = [UInt8.ofNat (48 + u % 10)] := by rw [Lib.decDigits, dif_pos h, Nat.mod_eq_of_lt h]
theorem dec_big {u : Nat} (h : ¬ u < 10) : Lib.decDigits u = Lib.decDigits (u / 10) ++ [UInt8.ofNat (48 + u % 10)] := by rw [Lib.decDigits, dif_neg h]

set_option maxRecDepth 100000 in
theorem digits_any : ∀ (k u : Nat), u < 10 ^ (k + 1) → u ≤ 9223372036854775808 → k ≤ 30 → ∀ (w : World), Calls Tryz.prog 115 #[.int .i64 (-(u : Int))] w fun e w' => e = .returned (.string ⟨(Lib.decDigits u).toArray⟩) ∧ Upd (fun _ => False) w w' := by
  intro k
  induction k with
  | zero =>
    intro u hu hu2 _ w
    obtain ⟨n, hn⟩ : ∃ n : Int, -(u : Int) = n := ⟨_, rfl⟩
    obtain ⟨d, hd⟩ : ∃ d : Nat, u % 10 = d := ⟨_, rfl⟩
    have hm := neg_tmod10 u
    rw [hn, hd] at hm
    have h10 : -10 < n := by have : u < 10 := by simpa using hu
                             omega
    have hd9 : d ≤ 9 := by omega
    have hdec := dec_small (u := u) (by simpa using hu)
    have hconv := conv_one w d hd9
    rw [hn]
    rw [hd] at hdec
    generalize UInt8.ofNat (48 + d) = c at *
    have HD := hid hdec
    clear hu hu2 hn hd hdec
    go_enter Tryz.func115, Tryz.ntmps115
    go_wp2_with fail
    go_ret
    exact ⟨by rw [HD.out]; rfl, (Upd.refl _ _).alloc _⟩
  | succ k ih =>
    intro u hu hu2 hk w
    by_cases h10 : u < 10
    · exact ih u (Nat.lt_of_lt_of_le h10 (by have := Nat.pow_le_pow_right (n := 10) (by decide) (show 1 ≤ k + 1 by omega); omega)) hu2 (by omega) w
    obtain ⟨n, hn⟩ : ∃ n : Int, -(u : Int) = n := ⟨_, rfl⟩
    obtain ⟨d, hd⟩ : ∃ d : Nat, u % 10 = d := ⟨_, rfl⟩
    obtain ⟨q, hq⟩ : ∃ q : Nat, u / 10 = q := ⟨_, rfl⟩
    have hm := neg_tmod10 u
    have hqq := neg_tdiv10 u
    rw [hn, hd] at hm
    rw [hn, hq] at hqq
    have hn10 : n ≤ -10 := by omega
    have hd9 : d ≤ 9 := by omega
    have hdec := dec_big (u := u) h10
    have hlen := dec_len k q (by rw [← hq]; rw [Nat.pow_succ] at hu; omega)
    have hadd := add_lists (Lib.decDigits q) [UInt8.ofNat (48 + d)] (by simp; omega)
    have hconv := conv_one w d hd9
    have hm1 : -922337203685477581 ≤ -(q : Int) := by omega
    have hm2 : -(q : Int) ≤ 0 := by omega
    have IH := hid (ih q (by rw [← hq]; rw [Nat.pow_succ] at hu; omega) (by omega) (by omega))
    rw [hn]
    rw [hd, hq] at hdec
    generalize UInt8.ofNat (48 + d) = c at *
    generalize -(q : Int) = m at *
    have HD := hid hdec
    clear hu hu2 hn hd hdec hq hlen ih h10 hk
    have hquo : n.tdiv 10 = m := hqq
    clear hqq
    go_enter Tryz.func115, Tryz.ntmps115
    go_wp2_with fail
    refine (IH.out _).mono ?_
    rintro e w1 ⟨rfl, u1⟩
    have U := hid (((Upd.refl _ _).alloc _).trans u1)
    clear u1
    go_wp2_with fail
    go_ret
    exact ⟨by rw [HD.out]; rfl, U.out⟩
end Go.Proofs.YtlefilfdomjkeaaGreatDoor
namespace Go.Proofs.YtlefilfdomjkeaaGreatDoor
open Go.RowKit Go.Deep

theorem dig_any (u : Nat) (h : u ≤ 9223372036854775808) (w : World) : Calls Tryz.prog 115 #[.int .i64 (-(u : Int))] w fun e w' => e = .returned (.string ⟨(Lib.decDigits u).toArray⟩) ∧ Upd (fun _ => False) w w' :=
  digits_any 18 u (Nat.lt_of_le_of_lt h (by decide)) h (by decide) w
theorem dig_len (u : Nat) (h : u ≤ 9223372036854775808) : (Lib.decDigits u).length ≤ 19 := dec_len 18 u (Nat.lt_of_le_of_lt h (by decide))

set_option maxRecDepth 100000 in
theorem qInt_any (n : Int) (hn : I64 n) (w : World) :
    Calls Tryz.prog 102 #[.int .i64 n] w fun e w' => e = .returned (.string ⟨(intE n).toArray⟩) ∧ Upd (fun _ => False) w w' := by
  by_cases h0 : n < 0
  · have he : intE n = 45 :: (Lib.decDigits n.natAbs ++ [59]) := by unfold intE Lib.itoa; rw [if_pos h0]; rfl
    have hu : n.natAbs ≤ 9223372036854775808 := by unfold I64 at hn; omega
    have hl := dig_len _ hu
    have DG := dig_any _ hu
    have hnn : -(n.natAbs : Int) = n := by omega
    rw [hnn] at DG
    have IH := hid DG; have HE := hid he
    have hn1 := hn.1
    generalize Lib.decDigits n.natAbs = ds at *
    have a1 := add_lists [45] ds (by simp; omega)
    have a2 := add_lists (45 :: ds) [59] (by simp; omega)
    clear hn hu hl DG hnn he
    go_enter Tryz.func102, Tryz.ntmps102
    go_wp2_with fail
    refine (IH.out _).mono ?_
    rintro e w1 ⟨rfl, u⟩
    have U := hid u; clear u
    go_wp2_with fail
    go_ret
    exact ⟨by rw [HE.out]; rfl, U.out⟩
  · have he : intE n = Lib.decDigits n.toNat ++ [59] := by unfold intE Lib.itoa; rw [if_neg h0]
    have hu : n.toNat ≤ 9223372036854775808 := by unfold I64 at hn; omega
    have hl := dig_len _ hu
    have DG := dig_any _ hu
    have hnn : -(n.toNat : Int) = -n := by omega
    rw [hnn] at DG
    have IH := hid DG; have HE := hid he
    have hn2 := hn.2
    have h0' : 0 ≤ n := by omega
    have hnb : decide (n < 0) = false := decide_eq_false h0
    generalize Lib.decDigits n.toNat = ds at *
    have a1 := add_lists ds [59] (by simp; omega)
    clear hn hu hl DG hnn he h0
    go_enter Tryz.func102, Tryz.ntmps102
    go_wp2_with fail
    refine (IH.out _).mono ?_
    rintro e w1 ⟨rfl, u⟩
    have U := hid u; clear u
    go_wp2_with fail
    go_ret
    exact ⟨by rw [HE.out]; rfl, U.out⟩

theorem qNum_any (n : Int) (hn : I64 n) (w : World) :
    Calls Tryz.prog 85 #[.int .i64 n] w fun e w' => e = .returned (.string ⟨(numE n).toArray⟩) ∧ Upd (fun _ => False) w w' := by
  have HN := hid hn
  clear hn
  by_cases h0 : n < 0
  · have he := hid (show numE n = [] by unfold numE; rw [if_pos h0])
    go_enter Tryz.func85, Tryz.ntmps85
    go_wp2_with fail
    go_ret
    exact ⟨by rw [he.out]; rfl, Upd.refl _ _⟩
  · have he := hid (show numE n = intE n by unfold numE; rw [if_neg h0])
    have h0' : 0 ≤ n := by omega
    clear h0
    go_enter Tryz.func85, Tryz.ntmps85
    go_wp2_with fail
    refine (qInt_any n HN.out _).mono ?_
    rintro e w1 ⟨rfl, u⟩
    have U := hid u; clear u
    go_wp2_with fail
    go_ret
    exact ⟨by rw [he.out]; rfl, U.out⟩
theorem itoa_nat (n : Nat) : Lib.itoa (n : Int) = Lib.decDigits n := by unfold Lib.itoa; rw [if_neg (by omega), Int.toNat_natCast]

/-- A list's encoding up to element i. -/
def lp {α : Type} (f : α → List UInt8) (l : List α) (i : Nat) : List UInt8 := Lib.decDigits l.length ++ 91 :: ((l.take i).map f).flatten
theorem lp_zero {α : Type} (f : α → List UInt8) (l : List α) : lp f l 0 = Lib.decDigits l.length ++ [91] := by unfold lp; simp
theorem lp_snoc {α : Type} (f : α → List UInt8) (l : List α) (i : Nat) (h : i < l.length) : lp f l (i + 1) = lp f l i ++ f l[i] := by
  unfold lp
  rw [List.take_succ_eq_append_getElem h, List.map_append, List.flatten_append]
  simp
theorem lp_end {α : Type} (f : α → List UInt8) (l : List α) : listE f l = lp f l l.length ++ [93] := by
  unfold lp listE
  rw [List.take_length, itoa_nat]; simp
theorem lp_len {α : Type} (f : α → List UInt8) (l : List α) (i : Nat) : (lp f l i).length ≤ (listE f l).length := by
  have h : (l.map f).flatten = ((l.take i).map f).flatten ++ ((l.drop i).map f).flatten := by rw [← List.flatten_append, ← List.map_append, List.take_append_drop]
  unfold lp listE
  rw [itoa_nat, h]
  simp

end Go.Proofs.YtlefilfdomjkeaaGreatDoor
namespace Go.Proofs.YtlefilfdomjkeaaGreatDoor
open Go.RowKit Go.Deep

/-- The reference's reader at block b. -/
def RqAt (w : World) (b : Nat) (r : RS) : Prop := w.heap[b]? = some (.cells #[.string ⟨r.rest.toArray⟩, .bool r.bad] 143 (0, 0))
theorem RqAt.upd {S : Nat → Prop} {w w' : World} {b : Nat} {r : RS} (h : RqAt w b r) (u : Upd S w w') (hb : ¬ S b) : RqAt w' b r := (u.block b (heap_lt h) hb).trans h

theorem qopen_any (s : List UInt8) (w : World) :
    Calls Tryz.prog 79 #[.string ⟨s.toArray⟩] w fun e w' => e = .returned (.pointer (some ⟨w.heap.size, 0, none⟩)) ∧ RqAt w' w.heap.size ⟨s, false⟩ ∧ Upd (fun _ => False) w w' := by
  go_enter Tryz.func79, Tryz.ntmps79
  go_wp2_with fail
  go_ret
  exact ⟨rfl, heap_alloc_new, (Upd.refl _ _).alloc _⟩
theorem qfail_any (b : Nat) (r : RS) (w : World) (h : RqAt w b r) :
    Calls Tryz.prog 114 #[.pointer (some ⟨b, 0, none⟩)] w fun e w' => e = .returned (.int .i64 0) ∧ RqAt w' b failS ∧ Upd (· = b) w w' := by
  obtain ⟨c0, c1, hf⟩ := cells2 h
  have hs := hid (store2 (x := .string ⟨#[]⟩) (y := .bool true) h)
  clear h
  go_enter Tryz.func114, Tryz.ntmps114
  go_wp2_with fail
  go_ret
  exact ⟨rfl, hs.out, ((Upd.refl _ _).at_ _ _).at_ _ _⟩
theorem qtail_any (b : Nat) (r : RS) (w : World) (h : RqAt w b r) :
    Calls Tryz.prog 81 #[.pointer (some ⟨b, 0, none⟩)] w fun e w' => e = .returned (.string ⟨r.rest.toArray⟩) ∧ RqAt w' b ⟨[], r.bad⟩ ∧ Upd (· = b) w w' := by
  obtain ⟨c0, c1, hf⟩ := cells2 h
  have hs := hid (store0 (x := .string ⟨#[]⟩) h)
  clear h
  go_enter Tryz.func81, Tryz.ntmps81
  go_wp2_with fail
  go_ret
  exact ⟨rfl, hs.out, (Upd.refl _ _).at_ _ _⟩
theorem idx (l : List UInt8) (k : Nat) (hk : k < l.length) : ∀ h, (ByteArray.mk l.toArray)[k]'h = l[k] := fun _ => rfl
theorem close_bad {c : UInt8} {r : RS} (h : (closeF c r).bad = true) (ho : r.bad = false) : closeF c r = failS := by
  unfold closeF at h ⊢
  cases e : r.rest with
  | nil => rfl
  | cons x t =>
    rw [e] at h
    dsimp only at h ⊢
    by_cases hx : x = c
    · rw [if_pos hx] at h; dsimp only at h; rw [ho] at h; cases h
    · rw [if_neg hx]

end Go.Proofs.YtlefilfdomjkeaaGreatDoor
namespace Go.Proofs.YtlefilfdomjkeaaGreatDoor
open Go.RowKit Go.Deep

theorem wrap64_i64 (n : Int) : I64 (wrap64 n) := bounds_i64 (wrap64_wf n)
def bStep (n : Int) (c : UInt8) : Int := wrap64 (wrap64 (10 * n) - ((c.toNat : Int) - 48))
def bk (l : List UInt8) : Int := l.foldl bStep 0
theorem bk_snoc (l : List UInt8) (c : UInt8) : bk (l ++ [c]) = bStep (bk l) c := by unfold bk; rw [List.foldl_append]; rfl
theorem bk_i64 (l : List UInt8) : I64 (bk l) := by
  rcases List.eq_nil_or_concat l with rfl | ⟨l', c, rfl⟩
  · unfold bk I64; simp
  · rw [List.concat_eq_append, bk_snoc]; exact wrap64_i64 _
theorem bk_dec (u : Nat) : u ≤ 9223372036854775808 → bk (Lib.decDigits u) = -(u : Int) := by
  induction u using Nat.strongRecOn with
  | _ u ih =>
    intro hu
    by_cases h : u < 10
    · rw [dec_small h]
      have h2 := digit_byte u
      rw [show [UInt8.ofNat (48 + u % 10)] = [] ++ [UInt8.ofNat (48 + u % 10)] from rfl, bk_snoc]
      unfold bStep
      rw [show bk [] = 0 from rfl]
      rw [IntWalk.wrap64_in (10 * 0) (by omega), IntWalk.wrap64_in _ (by omega)]
      omega
    · rw [dec_big h, bk_snoc, ih (u / 10) (by omega) (by omega)]
      have h2 := digit_byte u
      unfold bStep
      rw [IntWalk.wrap64_in (10 * -((u / 10 : Nat) : Int)) (by omega), IntWalk.wrap64_in _ (by omega)]
      omega
def sgn (l : List UInt8) : Nat := if l.head? = some 45 then 1 else 0
theorem back_ok {L : List UInt8} {n : Int} (hn : I64 n) (h : Lib.itoa n = L) : (∀ j (hj : j < L.length), sgn L ≤ j → 48 ≤ L[j].toNat ∧ L[j].toNat ≤ 57) ∧ n = (if sgn L = 0 then wrap64 (-(bk (L.drop 0))) else bk (L.drop 1)) := by
  unfold I64 at hn
  unfold Lib.itoa at h
  by_cases h0 : n < 0
  · rw [if_pos h0] at h
    subst h
    have hs : sgn (45 :: Lib.decDigits n.natAbs) = 1 := by unfold sgn; simp
    rw [hs]
    refine ⟨fun j hj h1 => ?_, ?_⟩
    · obtain ⟨i, rfl⟩ : ∃ i, j = i + 1 := ⟨j - 1, by omega⟩
      rw [List.getElem_cons_succ]
      exact dec_bytes _ _ (List.getElem_mem _)
    · rw [if_neg (by decide), List.drop_succ_cons, List.drop_zero, bk_dec _ (by omega)]; omega
  · rw [if_neg h0] at h
    subst h
    have hs : sgn (Lib.decDigits n.toNat) = 0 := by
      unfold sgn
      rw [if_neg]
      intro e
      have : (45 : UInt8) ∈ Lib.decDigits n.toNat := List.mem_of_mem_head? (by rw [e]; rfl)
      have := dec_bytes _ _ this
      revert this; decide
    rw [hs]
    refine ⟨fun j hj _ => dec_bytes _ _ (List.getElem_mem _), ?_⟩
    rw [if_pos rfl, List.drop_zero, bk_dec _ (by omega), Int.neg_neg, IntWalk.wrap64_in _ (by omega)]
    omega
theorem take_drop_snoc (L : List UInt8) (F i : Nat) (h1 : F ≤ i) (h2 : i < L.length) : (L.take (i + 1)).drop F = (L.take i).drop F ++ [L[i]] := by
  rw [List.take_succ_eq_append_getElem h2, List.drop_append_of_le_length (by rw [List.length_take]; omega)]
theorem int_str {m : Int} {L : List UInt8} : (intE m == L ++ [59]) = true ↔ Lib.itoa m = L := by
  rw [beq_iff_eq]
  unfold intE
  constructor
  · intro h
    exact List.append_cancel_right h
  · intro h
    rw [h]

def BackPost (L : List UInt8) (w : World) (e : Ending) (w' : World) : Prop :=
  ∃ m ok, e = .returned (.tuple #[.int .i64 m, .bool ok]) ∧ Upd (fun _ => False) w w' ∧ (ok = true → I64 m ∧ Lib.itoa m = L) ∧ ∀ n, I64 n → Lib.itoa n = L → ok = true ∧ m = n
theorem back_no {L : List UInt8} {w w' : World} (u : Upd (fun _ => False) w w') (h : ∀ n, I64 n → Lib.itoa n = L → False) : BackPost L w (.returned (.tuple #[.int .i64 0, .bool false])) w' :=
  ⟨0, false, rfl, u, (fun h => by cases h), fun n hn hl => (h n hn hl).elim⟩
theorem back_fin {L : List UInt8} {w w' : World} {m : Int} (hm : I64 m) (u : Upd (fun _ => False) w w') (h : ∀ n, I64 n → Lib.itoa n = L → m = n) : BackPost L w (.returned (.tuple #[.int .i64 m, .bool (intE m == L ++ [59])])) w' :=
  ⟨m, _, rfl, u, fun e => ⟨hm, int_str.1 e⟩, fun n hn hl => by
    have := h n hn hl
    subst this
    exact ⟨int_str.2 hl, rfl⟩⟩

set_option maxRecDepth 100000 in
set_option maxHeartbeats 2000000 in
theorem back_any (L : List UInt8) (w : World) (hlen : L.length ≤ 21) :
    Calls Tryz.prog 124 #[.string ⟨L.toArray⟩] w (BackPost L w) := by
  have BO := hid (fun n (hn : I64 n) (h : Lib.itoa n = L) => back_ok hn h)
  have INO := hid (fun n (h : Lib.itoa n = L) (e : L = []) => itoa_ne n (h.trans e))

  have HLEN := hid hlen
  by_cases hL0 : L = []
  · have HF := hid (show sgn L = 0 by rw [hL0]; rfl)
    have HFL := hid (Nat.zero_le L.length)
    have hl0 : L.length = 0 := by rw [hL0]; rfl
    have hz1 : decide (0 < L.length) = false := decide_eq_false (by omega)
    have hz2 : decide (0 < (L.length : Int)) = false := decide_eq_false (by omega)
    clear hL0 hl0
    go_enter Tryz.func124, Tryz.ntmps124
    go_wp2_with fail
    clear hlen hz1 hz2
    go_loopg [5, 6] L.length (fun gg s5 s6 wr => ∃ (i : Nat) (n : Int), 0 ≤ i ∧ i ≤ L.length ∧ gg = L.length - (i - 0) ∧ s5 = .int .i64 n ∧ s6 = .int .i64 i ∧ n = bk ((L.take i).drop 0) ∧ w = wr)
    case atStart => exact ⟨0, 0, Nat.le_refl _, HFL.out, by have := HFL.out; omega, rfl, rfl, by rw [List.drop_of_length_le (by rw [List.length_take]; omega)]; rfl, rfl⟩
    case round =>
      obtain ⟨i, n, hFi, hi, hg, rfl, rfl, hn, rfl⟩ := hrel
      have HG := hid hg; have HN := hid hn
      clear hg hn
      by_cases hlt : i < L.length
      · have hlti : (i : Int) < L.length := by omega
        have hi20 : (i : Int) ≤ 20 := by have := HLEN.out; omega
        have hi20b : decide (20 < (i : Int)) = false := decide_eq_false (by omega)
        have hi20n : decide (20 < i) = false := decide_eq_false (by omega)
        obtain ⟨x, hx⟩ : ∃ x, L[i] = x := ⟨_, rfl⟩
        have hix : ∀ h, (ByteArray.mk L.toArray)[i]'h = x := fun h => (idx L i hlt h).trans hx
        have SN := hid (take_drop_snoc L 0 i hFi hlt)
        have NOD := hid (fun (h : ¬ (48 ≤ L[i].toNat ∧ L[i].toNat ≤ 57)) n hn hl => h ((BO.out n hn hl).1 i hlt (by rw [HF.out]; exact hFi)))
        rw [hx] at SN NOD
        clear hx
        by_cases hx1 : x.toNat < 48
        · have hx1i : (x.toNat : Int) < 48 := by omega
          have NB := hid (NOD.out (by omega))
          clear hx1
          go_wp2_with fail
          go_ret2
          exact back_no (Upd.refl _ _) NB.out
        have hx1i : 48 ≤ (x.toNat : Int) := by omega
        have hx1b : decide ((x.toNat : Int) < 48) = false := decide_eq_false (by omega)
        have hx1n : decide (x.toNat < 48) = false := decide_eq_false hx1
        by_cases hx2 : 57 < x.toNat
        · have hx2i : 57 < (x.toNat : Int) := by omega
          have NB := hid (NOD.out (by omega))
          clear hx1 hx2
          go_wp2_with fail
          go_ret2
          exact back_no (Upd.refl _ _) NB.out
        have hx2i : (x.toNat : Int) ≤ 57 := by omega
        have hx2b : decide (57 < (x.toNat : Int)) = false := decide_eq_false (by omega)
        have hx2n : decide (57 < x.toNat) = false := decide_eq_false hx2
        clear hx1 hx2
        have e1 : ((i : Int) + 1).toNat = i + 1 := by omega
        obtain ⟨p, hp⟩ : ∃ p, wrap64 (10 * n) = p := ⟨_, rfl⟩
        obtain ⟨q, hq⟩ : ∃ q, wrap64 (p - ((x.toNat : Int) - 48)) = q := ⟨_, rfl⟩
        have NEW := hid (show q = bk ((L.take (i + 1)).drop 0) by rw [SN.out, bk_snoc, ← HN.out]; unfold bStep; rw [hp, hq])
        go_wp2_with fail
        go_roundg (L.length - (i + 1 - 0))
        case measure => have := HG.out; clear hp hq; omega
        case rel => exact ⟨i + 1, q, by clear hp hq; omega, by clear hp hq; omega, by clear hp hq; omega, by rw [← hq, ← hp], by go_num, NEW.out, rfl⟩
      · obtain rfl : i = L.length := by omega
        have hn2 := HN.out
        rw [List.take_length] at hn2
        have HN2 := hid hn2
        clear HN hn2 hlt
        obtain ⟨m, hm⟩ : ∃ m, wrap64 (-n) = m := ⟨_, rfl⟩
        have HM := hid (show I64 m from hm ▸ wrap64_i64 _)
        have FIN := hid (fun n' hn' hl => show m = n' by rw [(BO.out n' hn' hl).2, if_pos HF.out, ← HN2.out, hm])
        have a1 := add_lists L [59] (by have := HLEN.out; simp; omega)
        go_wp2_with fail
        refine (qInt_any m HM.out _).mono ?_
        rintro e w1 ⟨rfl, u⟩
        have U := hid u; clear u
        go_wp2_with fail
        go_ret2
        exact back_fin HM.out U.out FIN.out

  obtain ⟨y, t, rfl⟩ : ∃ y t, L = y :: t := by
    cases L with
    | nil => exact absurd rfl hL0
    | cons y t => exact ⟨y, t, rfl⟩
  clear hL0
  have hiy : ∀ h, (ByteArray.mk (y :: t).toArray)[0]'h = y := idx (y :: t) 0 (by simp)
  by_cases hy : y = 45
  · subst hy
    have HF := hid (show sgn (45 :: t) = 1 by unfold sgn; simp)
    have HFL := hid (show 1 ≤ ((45 : UInt8) :: t).length by simp)
    go_enter Tryz.func124, Tryz.ntmps124
    go_wp2_with fail
    clear hiy hlen
    generalize (45 : UInt8) :: t = L at *
    go_loopg [5, 6] L.length (fun gg s5 s6 wr => ∃ (i : Nat) (n : Int), 1 ≤ i ∧ i ≤ L.length ∧ gg = L.length - (i - 1) ∧ s5 = .int .i64 n ∧ s6 = .int .i64 i ∧ n = bk ((L.take i).drop 1) ∧ w = wr)
    case atStart => exact ⟨1, 0, Nat.le_refl _, HFL.out, by have := HFL.out; omega, rfl, rfl, by rw [List.drop_of_length_le (by rw [List.length_take]; omega)]; rfl, rfl⟩
    case round =>
      obtain ⟨i, n, hFi, hi, hg, rfl, rfl, hn, rfl⟩ := hrel
      have HG := hid hg; have HN := hid hn
      clear hg hn
      by_cases hlt : i < L.length
      · have hlti : (i : Int) < L.length := by omega
        have hi20 : (i : Int) ≤ 20 := by have := HLEN.out; omega
        have hi20b : decide (20 < (i : Int)) = false := decide_eq_false (by omega)
        have hi20n : decide (20 < i) = false := decide_eq_false (by omega)
        obtain ⟨x, hx⟩ : ∃ x, L[i] = x := ⟨_, rfl⟩
        have hix : ∀ h, (ByteArray.mk L.toArray)[i]'h = x := fun h => (idx L i hlt h).trans hx
        have SN := hid (take_drop_snoc L 1 i hFi hlt)
        have NOD := hid (fun (h : ¬ (48 ≤ L[i].toNat ∧ L[i].toNat ≤ 57)) n hn hl => h ((BO.out n hn hl).1 i hlt (by rw [HF.out]; exact hFi)))
        rw [hx] at SN NOD
        clear hx
        by_cases hx1 : x.toNat < 48
        · have hx1i : (x.toNat : Int) < 48 := by omega
          have NB := hid (NOD.out (by omega))
          clear hx1
          go_wp2_with fail
          go_ret2
          exact back_no (Upd.refl _ _) NB.out
        have hx1i : 48 ≤ (x.toNat : Int) := by omega
        have hx1b : decide ((x.toNat : Int) < 48) = false := decide_eq_false (by omega)
        have hx1n : decide (x.toNat < 48) = false := decide_eq_false hx1
        by_cases hx2 : 57 < x.toNat
        · have hx2i : 57 < (x.toNat : Int) := by omega
          have NB := hid (NOD.out (by omega))
          clear hx1 hx2
          go_wp2_with fail
          go_ret2
          exact back_no (Upd.refl _ _) NB.out
        have hx2i : (x.toNat : Int) ≤ 57 := by omega
        have hx2b : decide (57 < (x.toNat : Int)) = false := decide_eq_false (by omega)
        have hx2n : decide (57 < x.toNat) = false := decide_eq_false hx2
        clear hx1 hx2
        have e1 : ((i : Int) + 1).toNat = i + 1 := by omega
        obtain ⟨p, hp⟩ : ∃ p, wrap64 (10 * n) = p := ⟨_, rfl⟩
        obtain ⟨q, hq⟩ : ∃ q, wrap64 (p - ((x.toNat : Int) - 48)) = q := ⟨_, rfl⟩
        have NEW := hid (show q = bk ((L.take (i + 1)).drop 1) by rw [SN.out, bk_snoc, ← HN.out]; unfold bStep; rw [hp, hq])
        go_wp2_with fail
        go_roundg (L.length - (i + 1 - 1))
        case measure => have := HG.out; clear hp hq; omega
        case rel => exact ⟨i + 1, q, by clear hp hq; omega, by clear hp hq; omega, by clear hp hq; omega, by rw [← hq, ← hp], by go_num, NEW.out, rfl⟩
      · obtain rfl : i = L.length := by omega
        have hn2 := HN.out
        rw [List.take_length] at hn2
        have HN2 := hid hn2
        clear HN hn2 hlt
        have HM := hid (show I64 n from HN2.out ▸ bk_i64 _)
        have FIN := hid (fun n' hn' hl => show n = n' by rw [(BO.out n' hn' hl).2, if_neg (by rw [HF.out]; decide), ← HN2.out])
        have a1 := add_lists L [59] (by have := HLEN.out; simp; omega)
        go_wp2_with fail
        refine (qInt_any n HM.out _).mono ?_
        rintro e w1 ⟨rfl, u⟩
        have U := hid u; clear u
        go_wp2_with fail
        go_ret2
        exact back_fin HM.out U.out FIN.out

  · have HF := hid (show sgn (y :: t) = 0 by unfold sgn; rw [if_neg]; simpa using hy)
    have HFL := hid (Nat.zero_le (y :: t).length)
    have hyb : ((y.toNat : Int) == 45) = false := beq_eq_false_iff_ne.2 fun e => hy (UInt8.toNat_inj.1 (by show y.toNat = 45; omega))
    clear hy
    go_enter Tryz.func124, Tryz.ntmps124
    go_wp2_with fail
    clear hiy hlen hyb
    generalize y :: t = L at *
    go_loopg [5, 6] L.length (fun gg s5 s6 wr => ∃ (i : Nat) (n : Int), 0 ≤ i ∧ i ≤ L.length ∧ gg = L.length - (i - 0) ∧ s5 = .int .i64 n ∧ s6 = .int .i64 i ∧ n = bk ((L.take i).drop 0) ∧ w = wr)
    case atStart => exact ⟨0, 0, Nat.le_refl _, HFL.out, by have := HFL.out; omega, rfl, rfl, by rw [List.drop_of_length_le (by rw [List.length_take]; omega)]; rfl, rfl⟩
    case round =>
      obtain ⟨i, n, hFi, hi, hg, rfl, rfl, hn, rfl⟩ := hrel
      have HG := hid hg; have HN := hid hn
      clear hg hn
      by_cases hlt : i < L.length
      · have hlti : (i : Int) < L.length := by omega
        have hi20 : (i : Int) ≤ 20 := by have := HLEN.out; omega
        have hi20b : decide (20 < (i : Int)) = false := decide_eq_false (by omega)
        have hi20n : decide (20 < i) = false := decide_eq_false (by omega)
        obtain ⟨x, hx⟩ : ∃ x, L[i] = x := ⟨_, rfl⟩
        have hix : ∀ h, (ByteArray.mk L.toArray)[i]'h = x := fun h => (idx L i hlt h).trans hx
        have SN := hid (take_drop_snoc L 0 i hFi hlt)
        have NOD := hid (fun (h : ¬ (48 ≤ L[i].toNat ∧ L[i].toNat ≤ 57)) n hn hl => h ((BO.out n hn hl).1 i hlt (by rw [HF.out]; exact hFi)))
        rw [hx] at SN NOD
        clear hx
        by_cases hx1 : x.toNat < 48
        · have hx1i : (x.toNat : Int) < 48 := by omega
          have NB := hid (NOD.out (by omega))
          clear hx1
          go_wp2_with fail
          go_ret2
          exact back_no (Upd.refl _ _) NB.out
        have hx1i : 48 ≤ (x.toNat : Int) := by omega
        have hx1b : decide ((x.toNat : Int) < 48) = false := decide_eq_false (by omega)
        have hx1n : decide (x.toNat < 48) = false := decide_eq_false hx1
        by_cases hx2 : 57 < x.toNat
        · have hx2i : 57 < (x.toNat : Int) := by omega
          have NB := hid (NOD.out (by omega))
          clear hx1 hx2
          go_wp2_with fail
          go_ret2
          exact back_no (Upd.refl _ _) NB.out
        have hx2i : (x.toNat : Int) ≤ 57 := by omega
        have hx2b : decide (57 < (x.toNat : Int)) = false := decide_eq_false (by omega)
        have hx2n : decide (57 < x.toNat) = false := decide_eq_false hx2
        clear hx1 hx2
        have e1 : ((i : Int) + 1).toNat = i + 1 := by omega
        obtain ⟨p, hp⟩ : ∃ p, wrap64 (10 * n) = p := ⟨_, rfl⟩
        obtain ⟨q, hq⟩ : ∃ q, wrap64 (p - ((x.toNat : Int) - 48)) = q := ⟨_, rfl⟩
        have NEW := hid (show q = bk ((L.take (i + 1)).drop 0) by rw [SN.out, bk_snoc, ← HN.out]; unfold bStep; rw [hp, hq])
        go_wp2_with fail
        go_roundg (L.length - (i + 1 - 0))
        case measure => have := HG.out; clear hp hq; omega
        case rel => exact ⟨i + 1, q, by clear hp hq; omega, by clear hp hq; omega, by clear hp hq; omega, by rw [← hq, ← hp], by go_num, NEW.out, rfl⟩
      · obtain rfl : i = L.length := by omega
        have hn2 := HN.out
        rw [List.take_length] at hn2
        have HN2 := hid hn2
        clear HN hn2 hlt
        obtain ⟨m, hm⟩ : ∃ m, wrap64 (-n) = m := ⟨_, rfl⟩
        have HM := hid (show I64 m from hm ▸ wrap64_i64 _)
        have FIN := hid (fun n' hn' hl => show m = n' by rw [(BO.out n' hn' hl).2, if_pos HF.out, ← HN2.out, hm])
        have a1 := add_lists L [59] (by have := HLEN.out; simp; omega)
        go_wp2_with fail
        refine (qInt_any m HM.out _).mono ?_
        rintro e w1 ⟨rfl, u⟩
        have U := hid u; clear u
        go_wp2_with fail
        go_ret2
        exact back_fin HM.out U.out FIN.out

end Go.Proofs.YtlefilfdomjkeaaGreatDoor
namespace Go.Proofs.YtlefilfdomjkeaaGreatDoor
open Go.RowKit Go.Deep

theorem first_uniq {e : UInt8} {l p t : List UInt8} {k : Nat} (hk : k < l.length) (hlk : l[k] = e) (hne : ∀ i (h : i < l.length), i < k → l[i] ≠ e) (h : l = p ++ e :: t) (hp : e ∉ p) : p = l.take k ∧ t = l.drop (k + 1) := by
  have hpk : p.length = k := by
    rcases Nat.lt_trichotomy p.length k with h1 | h1 | h1
    · exfalso
      have : l[p.length]'(by omega) = e := by subst h; simp
      exact hne _ (by omega) h1 this
    · exact h1
    · exfalso
      have : l[k] ∈ p := by subst h; rw [List.getElem_append_left h1]; exact List.getElem_mem _
      rw [hlk] at this; exact hp this
  subst hpk
  subst h
  constructor
  · rw [List.take_left]
  · rw [show p.length + 1 = (p ++ [e]).length by simp, show p ++ e :: t = (p ++ [e]) ++ t by simp, List.drop_left]
theorem rd_first {e : UInt8} (he : EndB e) {l : List UInt8} {k : Nat} (hk : k < l.length) (hlk : l[k] = e) (hne : ∀ i (h : i < l.length), i < k → l[i] ≠ e) :
    (∀ n, I64 n → Lib.itoa n = l.take k → numRd e minI l = some (n, l.drop (k + 1))) ∧ ((∀ n, I64 n → Lib.itoa n = l.take k → False) → numRd e minI l = none) := by
  constructor
  · intro n hn hi
    refine (numRd_iff he).2 ⟨?_, hn, hn.1⟩
    rw [hi, ← hlk, ← List.drop_eq_getElem_cons hk, List.take_append_drop]
  · intro h
    cases hr : numRd e minI l with
    | none => rfl
    | some x =>
      obtain ⟨n, t⟩ := x
      obtain ⟨h1, h2, _⟩ := (numRd_iff he).1 hr
      exact (h n h2 (first_uniq hk hlk hne h1 (end_not he n)).1).elim
theorem rd_none {e : UInt8} (he : EndB e) {l : List UInt8} (h : ∀ i (h : i < l.length), i < 21 → l[i] ≠ e) : numRd e minI l = none := by
  cases hr : numRd e minI l with
  | none => rfl
  | some x =>
    obtain ⟨n, t⟩ := x
    obtain ⟨h1, h2, _⟩ := (numRd_iff he).1 hr
    have hl := itoa_len h2
    exfalso
    refine h (Lib.itoa n).length ?_ (by omega) ?_
    · rw [h1]; simp
    · subst h1; simp
theorem number_zero (e : UInt8) (he : EndB e) (r : RS) : numberF e 0 r = if (numberF e minI r).1 < 0 then (0, failS) else numberF e minI r := by
  unfold numberF
  cases hr : numRd e minI r.rest with
  | none =>
    have : numRd e 0 r.rest = none := by
      cases h0 : numRd e 0 r.rest with
      | none => rfl
      | some x =>
        obtain ⟨n, t⟩ := x
        obtain ⟨h1, h2, _⟩ := (numRd_iff he).1 h0
        have := (numRd_iff (least := minI) he).2 ⟨h1, h2, h2.1⟩
        rw [hr] at this; cases this
    rw [this]; rfl
  | some x =>
    obtain ⟨n, t⟩ := x
    obtain ⟨h1, h2, _⟩ := (numRd_iff he).1 hr
    dsimp only
    by_cases hn : n < 0
    · rw [if_pos hn]
      have : numRd e 0 r.rest = none := by
        cases h0 : numRd e 0 r.rest with
        | none => rfl
        | some x =>
          obtain ⟨n', t'⟩ := x
          obtain ⟨g1, g2, g3⟩ := (numRd_iff he).1 h0
          have := (numRd_iff (least := minI) he).2 ⟨g1, g2, g2.1⟩
          rw [hr] at this
          injection this with this
          injection this with this _
          omega
      rw [this]
    · rw [if_neg hn, (numRd_iff he).2 ⟨h1, h2, by omega⟩]

set_option maxRecDepth 100000 in
set_option maxHeartbeats 2000000 in
theorem ahead_any (b : Nat) (r : RS) (e : UInt8) (he : EndB e) (w : World) (h : RqAt w b r) (hl : r.rest.length ≤ 10000000) :
    Calls Tryz.prog 113 #[.pointer (some ⟨b, 0, none⟩), .int .u8 e.toNat] w fun en w' => en = .returned (.int .i64 (numberF e minI r).1) ∧ RqAt w' b (numberF e minI r).2 ∧ Upd (· = b) w w' := by
  obtain ⟨c0, c1, hf⟩ := cells2 h
  have HR := hid h; have HEB := hid he
  obtain ⟨l, bad⟩ := r
  dsimp only at *
  have RF := hid (fun (k : Nat) hk hlk hne => rd_first (l := l) (k := k) he hk hlk hne)
  have RN := hid (fun hne => rd_none (l := l) he hne)
  have NF0 := hid (fun (hx : numRd e minI l = none) => show numberF e minI ⟨l, bad⟩ = (0, failS) by unfold numberF; dsimp only; rw [hx])
  have NF1 := hid (fun (n : Int) (t : List UInt8) (hx : numRd e minI l = some (n, t)) => show numberF e minI ⟨l, bad⟩ = (n, ⟨t, bad⟩) by unfold numberF; dsimp only; rw [hx])
  have HL7 := hid hl
  clear h he
  go_enter Tryz.func113, Tryz.ntmps113
  go_wp2_with fail
  go_loopg [5] 21 (fun gg s5 wr => ∃ (k : Nat), k ≤ 21 ∧ k ≤ l.length ∧ gg = 21 - k ∧ s5 = .int .i64 k ∧ (∀ i (hi : i < l.length), i < k → l[i] ≠ e) ∧ w = wr)
  case atStart => exact ⟨0, by omega, by omega, rfl, rfl, fun i _ h => absurd h (Nat.not_lt_zero _), rfl⟩
  case round =>
    obtain ⟨k, hk21, hkl, hg, rfl, hne, rfl⟩ := hrel
    have HG := hid hg; have NE := hid hne
    clear hg hne
    by_cases hlt : k < l.length
    · have hlti : (k : Int) < l.length := by omega
      have hltb : decide ((l.length : Int) ≤ k) = false := decide_eq_false (by omega)
      have hltn : decide (l.length ≤ k) = false := decide_eq_false (by omega)
      obtain ⟨x, hx⟩ : ∃ x, l[k] = x := ⟨_, rfl⟩
      have hix : ∀ h, (ByteArray.mk l.toArray)[k]'h = x := fun h => (idx l k hlt h).trans hx
      have HX := hid hx
      clear hx
      by_cases hxe : x = e
      · subst hxe
        have hxn : ((x.toNat : Int) != x.toNat) = false := by simp
        have hxn2 : (x.toNat != x.toNat) = false := by simp
        have RF := hid (RF.out k hlt HX.out NE.out)
        by_cases h21 : k < 21
        · have h21i : (k : Int) < 21 := by omega
          have hext : (ByteArray.mk l.toArray).extract 0 k = ⟨(l.take k).toArray⟩ := ext_take l k
          have hL21 : (l.take k).length ≤ 21 := by rw [List.length_take]; omega
          have HL21 := hid hL21
          clear hL21
          generalize l.take k = L0 at *
          go_wp2_with fail
          refine (back_any L0 _ HL21.out).mono ?_
          rintro e1 w1 ⟨m, ok, rfl, u, g1, g2⟩
          have U := hid u
          have HRC := hid (HR.out.upd U.out id)
          clear u c0 c1 hf
          obtain ⟨c0, c1, hf⟩ := cells2 HRC.out
          cases ok
          · have hRN := RF.out.2 fun n hn hi => by have := (g2 n hn hi).1; cases this
            have HF := hid (NF0.out hRN)
            clear g1 g2 hRN
            go_wp2_with fail
            refine (qfail_any b ⟨l, bad⟩ _ HRC.out).mono ?_
            rintro e1 w2 ⟨rfl, hr, u⟩
            have HQ := hid hr; have UF := hid ((U.out.mono (T := (· = b)) fun _ h => h.elim).trans u)
            clear hr u
            go_wp2_with fail
            go_ret
            exact ⟨by rw [HF.out]; rfl, by rw [HF.out]; exact HQ.out, UF.out⟩
          · have hRN := RF.out.1 m (g1 rfl).1 (g1 rfl).2
            have HF := hid (NF1.out _ _ hRN)
            have hs := hid (store0 (x := .string ⟨(l.drop (k + 1)).toArray⟩) HRC.out)
            have hy : (ByteArray.mk l.toArray).extract (k + 1) l.length = ⟨(l.drop (k + 1)).toArray⟩ := ext_drop _ _ _ (Nat.le_refl _)
            have hk1 : (k : Int) + 1 ≤ l.length := by omega
            clear g1 g2 hRN
            go_wp2_with fail
            go_ret
            exact ⟨by rw [HF.out]; rfl, by rw [HF.out]; exact hs.out, (U.out.mono fun _ h => h.elim).at_ _ _⟩
        · have h21i : (21 : Int) ≤ k := by omega
          have h21b : decide ((k : Int) < 21) = false := decide_eq_false (by omega)
          have h21n : decide (k < 21) = false := decide_eq_false h21
          clear h21
          have hext : (ByteArray.mk l.toArray).extract 0 k = ⟨(l.take k).toArray⟩ := ext_take l k
          have hL21 : (l.take k).length ≤ 21 := by rw [List.length_take]; omega
          have HL21 := hid hL21
          clear hL21
          generalize l.take k = L0 at *
          go_wp2_with fail
          refine (back_any L0 _ HL21.out).mono ?_
          rintro e1 w1 ⟨m, ok, rfl, u, g1, g2⟩
          have U := hid u
          have HRC := hid (HR.out.upd U.out id)
          clear u c0 c1 hf
          obtain ⟨c0, c1, hf⟩ := cells2 HRC.out
          cases ok
          · have hRN := RF.out.2 fun n hn hi => by have := (g2 n hn hi).1; cases this
            have HF := hid (NF0.out hRN)
            clear g1 g2 hRN
            go_wp2_with fail
            refine (qfail_any b ⟨l, bad⟩ _ HRC.out).mono ?_
            rintro e1 w2 ⟨rfl, hr, u⟩
            have HQ := hid hr; have UF := hid ((U.out.mono (T := (· = b)) fun _ h => h.elim).trans u)
            clear hr u
            go_wp2_with fail
            go_ret
            exact ⟨by rw [HF.out]; rfl, by rw [HF.out]; exact HQ.out, UF.out⟩
          · have hRN := RF.out.1 m (g1 rfl).1 (g1 rfl).2
            have HF := hid (NF1.out _ _ hRN)
            have hs := hid (store0 (x := .string ⟨(l.drop (k + 1)).toArray⟩) HRC.out)
            have hy : (ByteArray.mk l.toArray).extract (k + 1) l.length = ⟨(l.drop (k + 1)).toArray⟩ := ext_drop _ _ _ (Nat.le_refl _)
            have hk1 : (k : Int) + 1 ≤ l.length := by omega
            clear g1 g2 hRN
            go_wp2_with fail
            go_ret
            exact ⟨by rw [HF.out]; rfl, by rw [HF.out]; exact hs.out, (U.out.mono fun _ h => h.elim).at_ _ _⟩
      · have hxb : ((x.toNat : Int) != e.toNat) = true := by rw [bne_iff_ne]; exact fun h => hxe (UInt8.toNat_inj.1 (by omega))
        have hxb2 : (x.toNat != e.toNat) = true := by rw [bne_iff_ne]; exact fun h => hxe (UInt8.toNat_inj.1 h)
        have HXE := hid hxe
        clear hxe
        by_cases h21 : k < 21
        · have h21i : (k : Int) < 21 := by omega
          go_wp2_with fail
          go_roundg (21 - (k + 1))
          case measure => have := HG.out; omega
          case rel =>
            refine ⟨k + 1, by omega, by omega, rfl, by go_num, fun i hi hik => ?_, rfl⟩
            by_cases e1 : i = k
            · subst e1; rw [HX.out]; exact HXE.out
            · exact NE.out i hi (by omega)
        · have h21i : (21 : Int) ≤ k := by omega
          have h21b : decide ((k : Int) < 21) = false := decide_eq_false (by omega)
          have h21n : decide (k < 21) = false := decide_eq_false h21
          have hRN := RN.out fun i hi h => NE.out i hi (by omega)
          have HF := hid (NF0.out hRN)
          clear h21 hRN
          go_wp2_with fail
          refine (qfail_any b ⟨l, bad⟩ _ HR.out).mono ?_
          rintro e1 w2 ⟨rfl, hr, u⟩
          have HQ := hid hr; have U := hid u
          clear hr u
          go_wp2_with fail
          go_ret
          exact ⟨by rw [HF.out]; rfl, by rw [HF.out]; exact HQ.out, U.out⟩
    · obtain rfl : k = l.length := by omega
      have hRN := RN.out fun i hi _ => NE.out i hi hi
      have HF := hid (NF0.out hRN)
      clear hRN
      go_wp2_with fail
      refine (qfail_any b ⟨l, bad⟩ _ HR.out).mono ?_
      rintro e1 w2 ⟨rfl, hr, u⟩
      have HQ := hid hr; have U := hid u
      clear hr u
      go_wp2_with fail
      go_ret
      exact ⟨by rw [HF.out]; rfl, by rw [HF.out]; exact HQ.out, U.out⟩


theorem qnumber_any (b : Nat) (r : RS) (e : UInt8) (he : EndB e) (w : World) (h : RqAt w b r) (hl : r.rest.length ≤ 10000000) :
    Calls Tryz.prog 101 #[.pointer (some ⟨b, 0, none⟩), .int .u8 e.toNat] w fun en w' => en = .returned (.int .i64 (numberF e 0 r).1) ∧ RqAt w' b (numberF e 0 r).2 ∧ Upd (· = b) w w' := by
  have HR := hid h; have HEB := hid he
  have NZ := hid (number_zero e he r)
  clear h he
  go_enter Tryz.func101, Tryz.ntmps101
  go_wp2_with fail
  refine (ahead_any b r e HEB.out _ HR.out hl).mono ?_
  rintro e1 w1 ⟨rfl, hr, u⟩
  have HQ := hid hr; have U := hid u
  clear hr u
  generalize hR : numberF e minI r = R at *
  obtain ⟨n, r1⟩ := R
  dsimp only at *
  clear hR
  by_cases hn : n < 0
  · have HF := hid (show numberF e 0 r = (0, failS) by rw [NZ.out, if_pos hn])
    go_wp2_with fail
    refine (qfail_any b r1 _ HQ.out).mono ?_
    rintro e1 w2 ⟨rfl, hr, u⟩
    have HQ2 := hid hr; have U2 := hid (U.out.trans u)
    clear hr u
    go_wp2_with fail
    go_ret
    exact ⟨by rw [HF.out]; rfl, by rw [HF.out]; exact HQ2.out, U2.out⟩
  · have HF := hid (show numberF e 0 r = (n, r1) by rw [NZ.out, if_neg hn])
    have hn0 : 0 ≤ n := by omega
    have hnb : decide (n < 0) = false := decide_eq_false hn
    clear hn
    go_wp2_with fail
    go_ret
    exact ⟨by rw [HF.out]; rfl, by rw [HF.out]; exact HQ.out, U.out⟩
theorem ahead_at (b : Nat) (r : RS) (e : UInt8) (c : Int) (hc : (e.toNat : Int) = c) (he : EndB e) (w : World) (h : RqAt w b r) (hl : r.rest.length ≤ 10000000) :
    Calls Tryz.prog 113 #[.pointer (some ⟨b, 0, none⟩), .int .u8 c] w fun en w' => en = .returned (.int .i64 (numberF e minI r).1) ∧ RqAt w' b (numberF e minI r).2 ∧ Upd (· = b) w w' := by
  subst hc; exact ahead_any b r e he w h hl
theorem qnumber_at (b : Nat) (r : RS) (e : UInt8) (c : Int) (hc : (e.toNat : Int) = c) (he : EndB e) (w : World) (h : RqAt w b r) (hl : r.rest.length ≤ 10000000) :
    Calls Tryz.prog 101 #[.pointer (some ⟨b, 0, none⟩), .int .u8 c] w fun en w' => en = .returned (.int .i64 (numberF e 0 r).1) ∧ RqAt w' b (numberF e 0 r).2 ∧ Upd (· = b) w w' := by
  subst hc; exact qnumber_any b r e he w h hl
theorem qNumR_any (b : Nat) (r : RS) (w : World) (h : RqAt w b r) (hl : r.rest.length ≤ 10000000) :
    Calls Tryz.prog 80 #[.pointer (some ⟨b, 0, none⟩)] w fun e w' => e = .returned (.int .i64 (numF r).1) ∧ RqAt w' b (numF r).2 ∧ Upd (· = b) w w' := by
  have HR := hid h
  clear h
  go_enter Tryz.func80, Tryz.ntmps80
  go_wp2_with fail
  refine (qnumber_at b r 59 59 (by decide) end59 _ HR.out hl).mono ?_
  rintro e w1 ⟨rfl, hr, u⟩
  have HQ := hid hr; have U := hid u
  clear hr u
  go_wp2_with fail
  go_ret
  exact ⟨rfl, HQ.out, U.out⟩
end Go.Proofs.YtlefilfdomjkeaaGreatDoor
