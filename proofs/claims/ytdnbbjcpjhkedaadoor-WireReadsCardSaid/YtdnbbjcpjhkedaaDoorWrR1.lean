/- The reference: what it writes. -/
import Derived.Test.YtdnbbjcpjhkedaaDoorWrE2
import Derived.Laws.IdiomStrings
namespace Go.Proofs.YtdnbbjcpjhkedaaDoor
open Go.RowKit Go.Deep

theorem neg_tmod10 (u : Nat) : (-(u : Int)).tmod 10 = -((u % 10 : Nat) : Int) := by rw [Int.neg_tmod]; rfl
theorem neg_tdiv10 (u : Nat) : (-(u : Int)).tdiv 10 = -((u / 10 : Nat) : Int) := by rw [Int.neg_tdiv]; rfl
theorem conv_one (w : World) (d : Nat) (hd : d ≤ 9) : (convert 64 9 (.slice (some ⟨w.heap.size, 0, none⟩) 1 1)).run Tryd.prog (w.alloc (.cells #[.int .u8 (48 + (d : Int))] 5 (0, 0))) = .ok (.string ⟨#[UInt8.ofNat (48 + d)]⟩) (w.alloc (.cells #[.int .u8 (48 + (d : Int))] 5 (0, 0))) := by
  have h := run_convert_bytes_back (P := Tryd.prog) (w.alloc (.cells #[.int .u8 (48 + (d : Int))] 5 (0, 0))) 64 9 5 ⟨w.heap.size, 0, none⟩ 1 [UInt8.ofNat (48 + d)] Tryd.underlying64 Tryd.underlying5 Tryd.underlying9 (fun j hj => by
    have : j = 0 := by simp at hj; omega
    subst this
    show (w.alloc (.cells #[.int .u8 (48 + (d : Int))] 5 (0, 0))).cell? ⟨w.heap.size, 0, none⟩ = _
    rw [World.cell?_alloc_mark]
    show some (Value.int .u8 (48 + (d : Int))) = _
    have : (UInt8.ofNat (48 + d)).toNat = 48 + d := by rw [UInt8.toNat_ofNat']; omega
    rw [List.getElem_singleton, this]; rfl)
  exact h
theorem dec_small {u : Nat} (h : u < 10) : Lib.decDigits u = [UInt8.ofNat (48 + u % 10)] := by rw [Lib.decDigits, dif_pos h, Nat.mod_eq_of_lt h]
theorem dec_big {u : Nat} (h : ¬ u < 10) : Lib.decDigits u = Lib.decDigits (u / 10) ++ [UInt8.ofNat (48 + u % 10)] := by rw [Lib.decDigits, dif_neg h]

set_option maxRecDepth 100000 in
theorem digits_any : ∀ (k u : Nat), u < 10 ^ (k + 1) → u ≤ 9223372036854775808 → k ≤ 30 → ∀ (w : World), Calls Tryd.prog 45 #[.int .i64 (-(u : Int))] w fun e w' => e = .returned (.string ⟨(Lib.decDigits u).toArray⟩) ∧ Upd (fun _ => False) w w' := by
  intro k
  induction k with
  | zero =>
    intro u hu hu2 _ w
    obtain ⟨n, hn⟩ : ∃ n : Int, -(u : Int) = n := ⟨_, rfl⟩
    obtain ⟨d, hd⟩ : ∃ d : Nat, u % 10 = d := ⟨_, rfl⟩
    have hm := neg_tmod10 u
    rw [hn, hd] at hm
    have h10 : -10 < n := by have : u < 10 := by simpa using hu
                             omega
    have hd9 : d ≤ 9 := by omega
    have hdec := dec_small (u := u) (by simpa using hu)
    have hconv := conv_one w d hd9
    rw [hn]
    rw [hd] at hdec
    generalize UInt8.ofNat (48 + d) = c at *
    have HD := hid hdec
    clear hu hu2 hn hd hdec
    go_enter Tryd.func45, Tryd.ntmps45
    go_wp2_with fail
    go_ret
    exact ⟨by rw [HD.out]; rfl, (Upd.refl _ _).alloc _⟩
  | succ k ih =>
    intro u hu hu2 hk w
    by_cases h10 : u < 10
    · exact ih u (Nat.lt_of_lt_of_le h10 (by have := Nat.pow_le_pow_right (n := 10) (by decide) (show 1 ≤ k + 1 by omega); omega)) hu2 (by omega) w
    obtain ⟨n, hn⟩ : ∃ n : Int, -(u : Int) = n := ⟨_, rfl⟩
    obtain ⟨d, hd⟩ : ∃ d : Nat, u % 10 = d := ⟨_, rfl⟩
    obtain ⟨q, hq⟩ : ∃ q : Nat, u / 10 = q := ⟨_, rfl⟩
    have hm := neg_tmod10 u
    have hqq := neg_tdiv10 u
    rw [hn, hd] at hm
    rw [hn, hq] at hqq
    have hn10 : n ≤ -10 := by omega
    have hd9 : d ≤ 9 := by omega
    have hdec := dec_big (u := u) h10
    have hlen := dec_len k q (by rw [← hq]; rw [Nat.pow_succ] at hu; omega)
    have hadd := add_lists (Lib.decDigits q) [UInt8.ofNat (48 + d)] (by simp; omega)
    have hconv := conv_one w d hd9
    have hm1 : -922337203685477581 ≤ -(q : Int) := by omega
    have hm2 : -(q : Int) ≤ 0 := by omega
    have IH := hid (ih q (by rw [← hq]; rw [Nat.pow_succ] at hu; omega) (by omega) (by omega))
    rw [hn]
    rw [hd, hq] at hdec
    generalize UInt8.ofNat (48 + d) = c at *
    generalize -(q : Int) = m at *
    have HD := hid hdec
    clear hu hu2 hn hd hdec hq hlen ih h10 hk
    have hquo : n.tdiv 10 = m := hqq
    clear hqq
    go_enter Tryd.func45, Tryd.ntmps45
    go_wp2_with fail
    refine (IH.out _).mono ?_
    rintro e w1 ⟨rfl, u1⟩
    have U := hid (((Upd.refl _ _).alloc _).trans u1)
    clear u1
    go_wp2_with fail
    go_ret
    exact ⟨by rw [HD.out]; rfl, U.out⟩
end Go.Proofs.YtdnbbjcpjhkedaaDoor
