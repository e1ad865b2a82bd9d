/- Operations on a flash, as the statements take them, and the walk of Few. -/
import Derived.Test.YtajmhiacmjgffaaFlA5
namespace Go.Proofs.Ytajmhiacmjgffaa
open Go.RowKit

def kOp : Knd OpM := kMap (kPair (kInt .i64) (kPair (kInt .i64) (kPair (kInt .i64) (kPair kStr (kPair (kInt .i64) (kInt .i64)))))) fun o => (o.kind, o.block, o.page, o.s, o.n, o.keep)

theorem reads_op : Reads Try.prog 31 kOp :=
  reads_map (fun x => ⟨x.1, x.2.1, x.2.2.1, x.2.2.2.1, x.2.2.2.2.1, x.2.2.2.2.2⟩) (fun _ => rfl)
    (reads_struct Try.underlying31 (tail_cons rfl rfl (reads_int Try.underlying3 (by kernel_rfl)) (tail_cons rfl rfl (reads_int Try.underlying3 (by kernel_rfl)) (tail_cons rfl rfl (reads_int Try.underlying3 (by kernel_rfl))
      (tail_cons rfl rfl (reads_str Try.underlying9 (by kernel_rfl)) (tail_cons rfl rfl (reads_int Try.underlying3 (by kernel_rfl)) (tail_last rfl rfl (reads_int Try.underlying3 (by kernel_rfl)) (by kernel_rfl))))))))

theorem reads_ops : Reads Try.prog 22 (kSlice kOp) := reads_slice Try.underlying22 (by kernel_rfl) reads_op (by decide)

theorem wf_le {n : Int} (h : (Lit.int .i64 n).wf = true) : -9223372036854775808 ≤ n ∧ n ≤ 9223372036854775807 := bounds_i64 h

theorem op_rep {A : Nat → Prop} {w : World} {cs : List Value} {o : OpM} (h : kOp.rep A w cs o) :
    cs = [.int .i64 o.kind, .int .i64 o.block, .int .i64 o.page, .string o.s, .int .i64 o.n, .int .i64 o.keep] ∧ o.Ok := by
  obtain ⟨_, _, rfl, ⟨rfl, _⟩, _, _, rfl, ⟨rfl, _⟩, _, _, rfl, ⟨rfl, _⟩, _, _, rfl, ⟨rfl, hs⟩, _, _, rfl, ⟨rfl, hn⟩, ⟨rfl, _⟩⟩ := h
  exact ⟨rfl, (wf_le hn).2, hs⟩

/-- The cells of operation i. -/
theorem op_cells {A : Nat → Prop} {w : World} {b o : Nat} {l : List OpM} (h : Elems kOp A w b o l) {i : Nat} (hi : i < l.length) :
    (w.cell? ⟨b, o + i * 6, none⟩ = some (.int .i64 l[i].kind) ∧ w.cell? ⟨b, o + i * 6 + 1, none⟩ = some (.int .i64 l[i].block) ∧ w.cell? ⟨b, o + i * 6 + 2, none⟩ = some (.int .i64 l[i].page) ∧
     w.cell? ⟨b, o + i * 6 + 3, none⟩ = some (.string l[i].s) ∧ w.cell? ⟨b, o + i * 6 + 4, none⟩ = some (.int .i64 l[i].n) ∧ w.cell? ⟨b, o + i * 6 + 5, none⟩ = some (.int .i64 l[i].keep)) ∧ l[i].Ok := by
  obtain ⟨cs, h1, h2⟩ := h.cell hi
  obtain ⟨rfl, ok⟩ := op_rep h1
  exact ⟨⟨h2 0 (by decide), h2 1 (by decide), h2 2 (by decide), h2 3 (by decide), h2 4 (by decide), h2 5 (by decide)⟩, ok⟩

/-- At most n operations, with strings of at most 200 bytes. -/
def few (l : List OpM) (n : Nat) : Bool := decide (l.length ≤ n) && l.all fun o => decide (o.s.size ≤ 200)

def FewPost (l : List OpM) (n : Nat) (w : World) (e : Ending) (w' : World) : Prop := e = .returned (.bool (few l n)) ∧ w = w'

set_option maxHeartbeats 400000 in
theorem few_any (v : Value) (A : Nat → Prop) (l : List OpM) (n : Nat) (w : World) (h : (kSlice kOp).rep A w [v] l) (hn : n < 1000) :
    Calls Try.prog 9 #[v, .int .i64 n] w (FewPost l n w) := by
  rcases h with ⟨a, cap, hv, hcap, rfl⟩ | ⟨b, o, cap, hv, hl, hcap, hA, hE⟩
  · injection hv with hv _
    subst hv
    go_enter Try.func9, Try.ntmps9
    go_wp2
    go_loop [5] (fun i => i = .int .i64 0) (fun _ => 0)
    case atStart => rfl
    case round =>
      subst hrel
      go_wp2
      go_ret
      exact ⟨by simp [few], rfl⟩
  · injection hv with hv _
    subst hv
    have hmx : (l.length : Int) ≤ 9223372036854775807 := by unfold maxLen at hcap; omega
    have HE := hid hE; clear hE
    go_enter Try.func9, Try.ntmps9
    go_wp2
    go_loop [5] (fun i => ∃ k : Nat, k ≤ l.length ∧ k ≤ n + 1 ∧ (∀ j (hj : j < l.length), j < k → l[j].s.size ≤ 200) ∧ i = .int .i64 k) (fun i => l.length - (intOf i).toNat)
    case atStart => exact ⟨0, Nat.zero_le _, Nat.zero_le _, fun j _ hj => absurd hj (Nat.not_lt_zero _), rfl⟩
    case round =>
      obtain ⟨k, hk, hk2, hpre, rfl⟩ := hrel
      have PRE := hid hpre; clear hpre
      by_cases hlt : k < l.length
      · by_cases hlt2 : k ≤ n
        · have hlt2' : (k : Int) ≤ n := by omega
          obtain ⟨⟨e0, e1, e2, e3, e4, e5⟩, hok⟩ := op_cells HE.out hlt
          have OK := hid hok; clear hok
          by_cases hs : l[k].s.size ≤ 200
          · have hs' : (l[k].s.size : Int) ≤ 200 := by omega
            go_wp2
            go_round
            case rel => exact ⟨k + 1, by omega, by omega, fun j hj hjk => by
              rcases Nat.lt_or_ge j k with g | g
              · exact PRE.out j hj g
              · obtain rfl : j = k := by omega
                omega, by go_num⟩
            case measure => simp [intOf]; omega
          · have hs' : (200 : Int) < l[k].s.size := by omega
            have HS := hid hs; clear hs
            go_wp2
            go_ret
            refine ⟨?_, rfl⟩
            have : few l n = false := by
              unfold few
              rw [Bool.and_eq_false_iff]
              refine .inr ?_
              rw [List.all_eq_false]
              exact ⟨l[k], List.getElem_mem _, by simpa using HS.out⟩
            rw [this]; rfl
        · have hlt2' : ¬ (k : Int) ≤ n := by omega
          go_wp2
          go_ret
          refine ⟨?_, rfl⟩
          have : few l n = false := by
            unfold few
            rw [Bool.and_eq_false_iff]
            exact .inl (by simp; omega)
          rw [this]
          simp; omega
      · go_wp2
        go_ret
        refine ⟨?_, rfl⟩
        have : few l n = decide (l.length ≤ n) := by
          unfold few
          have : l.all (fun o => decide (o.s.size ≤ 200)) = true := by
            rw [List.all_eq_true]
            intro x hx
            obtain ⟨i, hi, rfl⟩ := List.getElem_of_mem hx
            simpa using PRE.out i hi (by omega)
          rw [this, Bool.and_true]
        rw [this]
        simp
end Go.Proofs.Ytajmhiacmjgffaa
