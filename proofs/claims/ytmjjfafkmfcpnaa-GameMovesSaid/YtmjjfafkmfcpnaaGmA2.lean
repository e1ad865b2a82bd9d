/- Walks: Mul64, Mul, Repeat. -/
import Derived.Test.YtmjjfafkmfcpnaaGmBase
import Derived.Laws.Bits64b
namespace Go.Proofs.Ytmjjfafkmfcpnaa
open Go.RowKit Go.Deep

theorem mask_n (n : Nat) (hn : n ≤ 3000) : bits BinOp.and IntKind.u64 (n : Int) 4294967295 = n := by
  have := bits_and_u64_nat n 4294967295 (by omega) (by omega)
  rw [show ((4294967295 : Nat) : Int) = 4294967295 from rfl] at this
  rw [this, show (4294967295 : Nat) = 2 ^ 32 - 1 from rfl, Nat.and_two_pow_sub_one_eq_mod, Nat.mod_eq_of_lt (by omega)]

set_option maxHeartbeats 1000000 in
theorem mul64_one (n : Nat) (hn : n ≤ 3000) (w : World) :
    Calls Try.prog 36 #[.int .u64 1, .int .u64 n] w fun e w' => e = .returned (.tuple #[.int .u64 0, .int .u64 n]) ∧ w = w' := by
  have e1 := mask_n n hn
  have e2 := mask_n 1 (by omega)
  rw [show ((1 : Nat) : Int) = 1 from rfl] at e2
  have hd : (n : Int) / 4294967296 = 0 := Int.ediv_eq_zero_of_lt (by omega) (by omega)
  have hi : (n : Int) ≤ 3000 := by omega
  go_enter Try.func36, Try.ntmps36
  go_wp2
  go_ret2
  exact ⟨rfl, rfl⟩

theorem mul_one (n : Nat) (hn : n ≤ 3000) (w : World) :
    Calls Try.prog 34 #[.int .u64 1, .int .u64 n] w fun e w' => e = .returned (.tuple #[.int .u64 0, .int .u64 n]) ∧ w = w' := by
  go_enter Try.func34, Try.ntmps34
  go_wp2_with fail
  refine (mul64_one n hn _).mono ?_
  rintro e w' ⟨rfl, rfl⟩
  go_wp2
  go_ret2
  exact ⟨rfl, rfl⟩

/-- The first k of n numbers are -1. -/
def reps (k n : Nat) : List Int := List.replicate k (-1) ++ List.replicate (n - k) 0
theorem reps_len {k n : Nat} (h : k ≤ n) : (reps k n).length = n := by simp [reps]; omega
theorem reps_copy {k n c : Nat} (h : k + c ≤ n) : (reps k n).take k ++ (List.replicate c (-1) ++ (reps k n).drop (k + c)) = reps (k + c) n := by
  unfold reps
  rw [List.take_append_of_le_length (by simp), List.take_of_length_le (by simp), List.drop_append, List.drop_eq_nil_of_le (by simp)]
  simp only [List.length_replicate, List.nil_append, List.drop_replicate, ← List.append_assoc, List.replicate_append_replicate]
  congr 2
  omega
theorem reps_at {k n j : Nat} (h : j < k) (hl : j < (reps k n).length) : (reps k n)[j] = -1 := by
  simp only [reps]
  rw [List.getElem_append_left (by simpa using h)]
  simp

def RepPost (n : Nat) (w : World) (e : Ending) (w' : World) : Prop :=
  ∃ g, e = .returned (.slice (some ⟨g, 0, none⟩) n n) ∧ w.heap.size ≤ g ∧ IntsBlk w' g (List.replicate n (-1)) ∧ Upd (fun _ => False) w w'

set_option maxHeartbeats 400000 in
theorem repeat_any (b n : Nat) (w : World) (hb : w.cell? ⟨b, 0, none⟩ = some (.int .i64 (-1))) (h1 : 1 ≤ n ∧ n ≤ 3000) :
    Calls Try.prog 31 #[.slice (some ⟨b, 0, none⟩) 1 1, .int .i64 n] w (RepPost n w) := by
  obtain ⟨w1, hrun, ib, u1⟩ := make_ints w n (by omega)
  have hbl := World.block_lt_of_cell? _ _ hb
  have hb1 : w1.cell? ⟨b, 0, none⟩ = some (.int .i64 (-1)) := cell_kept hb (u1.block b hbl id)
  have i0 : (1 : Int) ≤ n := by omega
  have i1 : (n : Int) ≤ 3000 := by omega
  have ib0 : IntsBlk w1 w.heap.size (reps 0 n) := by simpa [reps] using ib
  obtain ⟨w2, hr2, ib2, u2⟩ := copy_ints (new := [-1]) ib0 0 ⟨b, 0, none⟩ n n 1 1 (by show 1 = min 1 n; omega) (by rw [reps_len (Nat.zero_le _)]; show 0 + 1 ≤ n; omega) (fun j hj => by
    obtain rfl : j = 0 := by simpa using hj
    exact hb1) 3
  have ib3 : IntsBlk w2 w.heap.size (reps 1 n) := by
    have := reps_copy (k := 0) (c := 1) (n := n) (by omega)
    rw [Nat.zero_add] at this
    rw [← this]; exact ib2
  have u3 := u1.comp u2 (fun i hi e => by omega)
  have IB := hid ib3; have U1 := hid u3; have H1 := hid h1
  clear ib ib0 u1 hbl hb hb1 ib2 ib3 u2 u3 h1
  go_enter Try.func31, Try.ntmps31
  go_wp2_with fail
  refine (mul_one n H1.out.2 _).mono ?_
  rintro e w' ⟨rfl, rfl⟩
  go_wp2_with (refine wpList_copy_run (o := ⟨some 33, _, _, _, _, _⟩) rfl (.tmp 31) (.tmp 32) 23 23 rfl rfl rfl hr2 ?_)
  clear hr2 hrun
  go_loopg [8] (n - 1) (fun gg s8 wr => ∃ k : Nat, 1 ≤ k ∧ k ≤ n ∧ gg = n - k ∧ s8 = .int .i64 k ∧ IntsBlk wr w.heap.size (reps k n) ∧ Upd (fun _ => False) w wr)
  case atStart => exact ⟨1, Nat.le_refl _, H1.out.1, rfl, rfl, IB.out, U1.out⟩
  case round =>
    clear IB U1
    obtain ⟨k, hk0, hk1, hg, rfl, ib, u⟩ := hrel
    have IB := hid ib; have UU := hid u; have HG := hid hg
    clear ib u hg
    by_cases hlt : k < n
    · obtain ⟨w4, hr4, ib4, u4⟩ := copy_ints (w := wr.drew) (new := List.replicate (min (n - k) k) (-1)) IB.out k ⟨w.heap.size, 0, none⟩ (n - k) (n - k) k n (by rw [List.length_replicate]; omega) (by rw [reps_len hk1, List.length_replicate]; omega) (fun j hj => by
        rw [List.length_replicate] at hj
        have e1 : Addr.add ⟨w.heap.size, 0, none⟩ j = ⟨w.heap.size, j, none⟩ := by unfold Addr.add; split <;> simp_all
        rw [e1]; refine (IB.out.cell (by rw [reps_len hk1]; omega)).trans ?_; rw [reps_at (by omega)]
        simp) 3
      rw [List.length_replicate, reps_copy (by omega)] at ib4
      rw [List.length_replicate] at hr4
      have IB4 := hid ib4
      have U4 := hid (UU.out.drew.comp u4 (fun i hi e => by omega))
      have ki : (1 : Int) ≤ k := by omega
      have kn : (k : Int) < n := by omega
      clear ib4 u4
      generalize hm : min (n - k) k = m at *
      have hm1 : 1 ≤ m ∧ k + m ≤ n := by omega
      have hm2 : (1 : Int) ≤ m := by omega
      have hm3 : (k : Int) + m ≤ n := by omega
      clear hm
      have hnk : (n = k) = False := eq_false (by omega)
      go_wp2_with fail
      go_region
      all_goals
        go_wp2_with fail
        go_roundg (n - (k + m) )
        case measure => have := HG.out; omega
        case rel => exact ⟨k + m, by omega, by omega, rfl, by go_num, IB4.out, U4.out⟩
    · obtain rfl : k = n := by omega
      have hr : reps k k = List.replicate k (-1) := by simp [reps]
      have HR := hid hr; clear hr
      go_wp2_with fail
      go_ret
      unfold RepPost
      exact ⟨_, rfl, Nat.le_refl _, HR.out ▸ IB.out, UU.out⟩
end Go.Proofs.Ytmjjfafkmfcpnaa
