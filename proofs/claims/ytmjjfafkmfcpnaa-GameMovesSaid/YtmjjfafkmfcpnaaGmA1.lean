/- Walks: the closures, slices.IndexFunc and ContainsFunc at moves, Right. -/
import Derived.Test.YtmjjfafkmfcpnaaGmBase
namespace Go.Proofs.Ytmjjfafkmfcpnaa
open Go.RowKit Go.Deep

/-- What a predicate on moves must do: answer p, and leave what lay there. -/
def PredM (l : List Mv) (g : Nat) (lb : Array Value) (p : Mv → Bool) (w : World) : Prop :=
  ∀ (W : World) (m : Mv), m ∈ l → Upd (fun _ => False) w W → (Lit.int .i64 m.to).wf = true → (Lit.int .i64 m.gain).wf = true →
    Calls Try.prog g (#[.agg #[.int .i64 m.to, .int .i64 m.gain]] ++ lb) W fun e w' => e = .returned (.bool (p m)) ∧ Upd (fun _ => False) W w'

def idx (p : Mv → Bool) (l : List Mv) : Int := match l.findIdx? p with | none => -1 | some i => i

theorem idx_hit {p : Mv → Bool} {l : List Mv} {k : Nat} (h : k < l.length) (hp : p l[k] = true) (hn : ∀ j, (hj : j < l.length) → j < k → p l[j] = false) : idx p l = k := by
  have : l.findIdx? p = some k := by
    rw [List.findIdx?_eq_some_iff_getElem]
    exact ⟨h, hp, fun j hj => by simpa using hn j (by omega) hj⟩
  unfold idx; rw [this]
theorem idx_miss {p : Mv → Bool} {l : List Mv} (hn : ∀ j, (hj : j < l.length) → p l[j] = false) : idx p l = -1 := by
  have : l.findIdx? p = none := by
    rw [List.findIdx?_eq_none_iff]
    intro x hx
    obtain ⟨j, hj, rfl⟩ := List.mem_iff_getElem.1 hx
    exact hn j hj
  unfold idx; rw [this]
theorem idx_nonneg {p : Mv → Bool} {l : List Mv} : decide (0 ≤ idx p l) = l.any p := by
  unfold idx
  cases h : l.findIdx? p with
  | none =>
    rw [List.findIdx?_eq_none_iff] at h
    have : l.any p = false := by rw [List.any_eq_false]; exact fun x hx => by simp [h x hx]
    rw [this]; rfl
  | some i =>
    rw [List.findIdx?_eq_some_iff_getElem] at h
    obtain ⟨hi, hp, _⟩ := h
    have : l.any p = true := List.any_eq_true.2 ⟨_, List.getElem_mem hi, hp⟩
    rw [this]; simp

set_option maxHeartbeats 1000000 in
theorem indexFunc_any (v : Value) (l : List Mv) (p : Mv → Bool) (g : Nat) (lb : Array Value) (eg : ∀ args w, (callFunc g args).run Try.prog w = .ok (.enter g args) w) (w : World) (hl : (kSlice kMv).rep (· < w.heap.size) w [v] l) (hp : PredM l g lb p w) :
    Calls Try.prog 32 #[v, .func (.func g) #[] lb] w fun e w' => e = .returned (.int .i64 (idx p l)) ∧ Upd (fun _ => False) w w' := by
  obtain ⟨a, cap, rfl, h1, h2, h3⟩ := slice_open hl
  have h2 : cap ≤ 9223372036854775807 := h2
  have HE := hid h3; have HP := hid hp
  clear hl h3 hp
  go_enter Try.func32, Try.ntmps32
  go_wp2
  go_loopg [5, 8] l.length (fun gg _ s8 wr => ∃ k : Nat, k ≤ l.length ∧ gg = l.length - k ∧ s8 = .int .i64 k ∧ Upd (fun _ => False) w wr ∧ ∀ j, (hj : j < l.length) → j < k → p l[j] = false)
  case atStart => exact ⟨0, Nat.zero_le _, by omega, rfl, Upd.refl _ _, fun j _ h => absurd h (Nat.not_lt_zero _)⟩
  case round =>
    obtain ⟨k, hk, hg, rfl, u, hn⟩ := hrel
    have UU := hid u; have NN := hid hn; have HG := hid hg
    clear u hn hg
    by_cases hlt : k < l.length
    · obtain ⟨b, o, rfl, hb, hel⟩ := HE.out (by omega)
      obtain ⟨m0, m1⟩ := mv_cells hel hlt
      have m0 := cell_kept m0 (UU.out.block b hb id)
      have m1 := cell_kept m1 (UU.out.block b hb id)
      obtain ⟨cs, hr, _⟩ := hel.cell hlt
      obtain ⟨_, wf1, wf2⟩ := mv_rep hr
      clear hr hel
      have hcall := HP.out wr l[k] (List.getElem_mem hlt) UU.out wf1 wf2
      clear wf1 wf2
      cases hq : p l[k] with
      | true =>
        rw [hq] at hcall
        have HQ := hid hq; clear hq
        go_wp2_with fail
        refine hcall.mono ?_
        rintro e w' ⟨rfl, hu⟩
        go_wp2_with fail
        go_ret
        exact ⟨by rw [idx_hit hlt HQ.out NN.out]; rfl, UU.out.trans hu⟩
      | false =>
        rw [hq] at hcall
        have HQ := hid hq; clear hq
        go_wp2_with fail
        refine hcall.mono ?_
        rintro e w' ⟨rfl, hu⟩
        go_wp2_with fail
        go_roundg (l.length - (k + 1))
        case measure => have := HG.out; omega
        case rel =>
          refine ⟨k + 1, by omega, rfl, by go_num, UU.out.trans hu, fun j hj hjk => ?_⟩
          by_cases e : j = k
          · subst e; exact HQ.out
          · exact NN.out j hj (by omega)
    · obtain rfl : k = l.length := by omega
      go_wp2
      go_ret
      exact ⟨by rw [idx_miss fun j hj => NN.out j hj hj]; rfl, UU.out⟩

theorem containsFunc_any (v : Value) (l : List Mv) (p : Mv → Bool) (g : Nat) (lb : Array Value) (eg : ∀ args w, (callFunc g args).run Try.prog w = .ok (.enter g args) w) (w : World) (hl : (kSlice kMv).rep (· < w.heap.size) w [v] l) (hp : PredM l g lb p w) :
    Calls Try.prog 28 #[v, .func (.func g) #[] lb] w fun e w' => e = .returned (.bool (l.any p)) ∧ Upd (fun _ => False) w w' := by
  have HL := hid hl; have HP := hid hp
  clear hl hp
  go_enter Try.func28, Try.ntmps28
  go_wp2_with fail
  refine (indexFunc_any _ l p g lb eg _ HL.out HP.out).mono ?_
  rintro e w1 ⟨rfl, u⟩
  have UU := hid u; clear u
  go_wp2_with fail
  go_ret
  refine ⟨?_, UU.out⟩
  rw [← idx_nonneg]
  rfl

set_option maxHeartbeats 1000000 in
theorem wrong_any (m : Mv) (n i : Nat) (bi bn : Nat) (a : Option Addr) (cap : Nat) (w : World) (h1 : w.cell? ⟨bi, 0, none⟩ = some (.int .i64 i)) (h2 : w.cell? ⟨bn, 0, none⟩ = some (.slice a n cap)) :
    Calls Try.prog 27 #[.agg #[.int .i64 m.to, .int .i64 m.gain], .pointer (some ⟨bi, 0, none⟩), .pointer (some ⟨bn, 0, none⟩)] w fun e w' => e = .returned (.bool (!okMove n i m)) ∧ Upd (fun _ => False) w w' := by
  have hb1 := World.block_lt_of_cell? _ _ h1
  have hb2 := World.block_lt_of_cell? _ _ h2
  dsimp only at hb1 hb2
  have ho : okMove n i m = decide ((i : Int) < m.to ∧ m.to < n ∧ -1099511627776 ≤ m.gain ∧ m.gain ≤ 1099511627776) := rfl
  rw [ho]
  obtain ⟨mto, gain⟩ := m
  dsimp only
  clear ho
  by_cases c1 : mto ≤ i
  · rw [decide_eq_false (by omega)]
    go_enter Try.func27, Try.ntmps27
    go_wp2
    go_ret
    exact ⟨rfl, (Upd.refl _ _).alloc _⟩
  by_cases c2 : (n : Int) ≤ mto
  · rw [decide_eq_false (by omega)]
    go_enter Try.func27, Try.ntmps27
    go_wp2
    go_ret
    exact ⟨rfl, (Upd.refl _ _).alloc _⟩
  by_cases c3 : gain < -1099511627776
  · rw [decide_eq_false (by omega)]
    go_enter Try.func27, Try.ntmps27
    go_wp2
    go_ret
    exact ⟨rfl, (Upd.refl _ _).alloc _⟩
  by_cases c4 : 1099511627776 < gain
  · rw [decide_eq_false (by omega)]
    go_enter Try.func27, Try.ntmps27
    go_wp2
    go_ret
    exact ⟨rfl, (Upd.refl _ _).alloc _⟩
  · rw [decide_eq_true (by omega)]
    go_enter Try.func27, Try.ntmps27
    go_wp2
    go_ret
    exact ⟨rfl, (Upd.refl _ _).alloc _⟩
end Go.Proofs.Ytmjjfafkmfcpnaa
