/- Walks: an entry as an argument; few. -/
import Derived.Test.YtdcahnkcnbhknaaGreatDoorEnLaw
namespace Go.Proofs.YtdcahnkcnbhknaaGreatDoor
open Go.RowKit Go.Deep

structure EnOk (e : En) : Prop where
  author : I64 e.author
  seq : I64 e.seq
  day : I64 e.day
  kind : I64 e.kind
  circle : I64 e.circle
  who : I64 e.who
  n : I64 e.n
  m : I64 e.m
  ref : I64 e.ref
  knows : ∀ x ∈ e.knows, I64 x
  keys : ∀ x ∈ e.keys, I64 x
  text : e.text.length ≤ maxLen
theorem ints_wf {A : Nat → Prop} {w : World} {v : Value} {l : List Int} (h : kInts.rep A w [v] l) : ∀ x ∈ l, I64 x := by
  obtain ⟨_, _, _, _, _, h3⟩ := slice_open h
  intro x hx
  obtain ⟨i, hi, rfl⟩ := List.mem_iff_getElem.1 hx
  obtain ⟨b, o, _, _, hel⟩ := h3 (Nat.lt_of_le_of_lt (Nat.zero_le _) hi)
  obtain ⟨cs, ⟨_, hw⟩, _⟩ := hel i hi
  exact wfi hw
theorem en_open {A : Nat → Prop} {w : World} {cs : Array Value} {e : En} (h : kEn.rep A w cs.toList e) : ∃ a1 a2 a3 c1 c2 c3, cs = en13 e a1 a2 a3 c1 c2 c3 ∧ EnRep A w e a1 a2 a3 c1 c2 c3 ∧ EnOk e := by
  obtain ⟨_, _, h0, ⟨rfl, h1⟩, _, _, rfl, ⟨rfl, h2⟩, _, _, rfl, ⟨rfl, h3⟩, _, _, rfl, hk, _, _, rfl, ⟨rfl, h5⟩, _, _, rfl, ⟨rfl, h6⟩, _, _, rfl, ⟨rfl, h7⟩, _, _, rfl, ⟨rfl, h8⟩, _, _, rfl, ⟨rfl, h9⟩, _, _, rfl, ⟨rfl, h10⟩, _, _, rfl, hy, _, _, rfl, hs, rfl, ht⟩ := h
  have l1 := kInts.len hk
  have l2 := kInts.len hy
  have l3 := kSps.len hs
  rename_i k1 k2 k3
  obtain ⟨v1, rfl⟩ := List.length_eq_one_iff.1 l1
  obtain ⟨v2, rfl⟩ := List.length_eq_one_iff.1 l2
  obtain ⟨v3, rfl⟩ := List.length_eq_one_iff.1 l3
  obtain ⟨a1, c1, rfl, _⟩ := slice_open hk
  obtain ⟨a2, c2, rfl, _⟩ := slice_open hy
  obtain ⟨a3, c3, rfl, _⟩ := slice_open hs
  refine ⟨a1, a2, a3, c1, c2, c3, ?_, ⟨hk, hy, hs⟩, ⟨wfi h1, wfi h2, wfi h3, wfi h5, wfi h6, wfi h7, wfi h8, wfi h9, wfi h10, ints_wf hk, ints_wf hy, by simpa [ByteArray.size] using ht⟩⟩
  have : cs = cs.toList.toArray := by simp
  rw [this, h0]
  rfl
def FewE (e : En) : Prop := e.knows.length ≤ 60 ∧ e.keys.length ≤ 70 ∧ e.spans.length ≤ 60 ∧ e.text.length ≤ 2100
instance (e : En) : Decidable (FewE e) := by unfold FewE; exact inferInstance
theorem EnOk.wf {e : En} (h : EnOk e) (hf : FewE e) : EnWf e := ⟨⟨Nat.le_trans hf.1 (by decide), h.knows⟩, ⟨Nat.le_trans hf.2.1 (by decide), h.keys⟩, h.n, h.m, h.ref⟩
set_option maxRecDepth 100000 in
theorem few_any (e : En) (a1 a2 a3 : Option Addr) (c1 c2 c3 : Nat) (w : World) : Calls Tryz.prog 10 #[enV e a1 a2 a3 c1 c2 c3] w fun en w' => en = .returned (.bool (decide (FewE e))) ∧ Upd (fun _ => False) w w' := by
  obtain ⟨W0, hW0⟩ : ∃ W0, W0 = w.alloc (.cells (en13 e a1 a2 a3 c1 c2 c3) 25 (0, 0)) := ⟨_, rfl⟩
  have hb : W0.heap[w.heap.size]? = some (.cells (en13 e a1 a2 a3 c1 c2 c3) 25 (0, 0)) := by rw [hW0]; exact heap_alloc_new
  have U := hid (show Upd (fun _ => False) w W0 by rw [hW0]; exact (Upd.refl _ _).alloc _)
  obtain ⟨d0, d1, d2, d3, d4, d5, d6, d7, d8, d9, d10, d11, d12⟩ := cells13 hb
  have HW0 := hid hW0
  clear hb hW0
  unfold enV
  by_cases h0 : e.knows.length ≤ 60
  case neg =>
    have t0 : decide ((e.knows.length : Int) ≤ 60) = false := decide_eq_false (by omega)
    have HX := hid h0
    clear h0
    go_enter Tryz.func10, Tryz.ntmps10
    go_upto_region 1 with (fail)
    have hW := HW0.out
    unfold en13 at hW
    rw [← hW]
    clear hW HW0
    go_wp2_with fail
    go_ret
    exact ⟨ret_f fun h => HX.out h.1, U.out⟩
  have t0 : decide ((e.knows.length : Int) ≤ 60) = true := decide_eq_true (by omega)
  by_cases h1 : e.keys.length ≤ 70
  case neg =>
    have t1 : decide ((e.keys.length : Int) ≤ 70) = false := decide_eq_false (by omega)
    have HX := hid h1
    clear h1
    go_enter Tryz.func10, Tryz.ntmps10
    go_upto_region 1 with (fail)
    have hW := HW0.out
    unfold en13 at hW
    rw [← hW]
    clear hW HW0
    go_wp2_with fail
    go_ret
    exact ⟨ret_f fun h => HX.out h.2.1, U.out⟩
  have t1 : decide ((e.keys.length : Int) ≤ 70) = true := decide_eq_true (by omega)
  by_cases h2 : e.spans.length ≤ 60
  case neg =>
    have t2 : decide ((e.spans.length : Int) ≤ 60) = false := decide_eq_false (by omega)
    have HX := hid h2
    clear h2
    go_enter Tryz.func10, Tryz.ntmps10
    go_upto_region 1 with (fail)
    have hW := HW0.out
    unfold en13 at hW
    rw [← hW]
    clear hW HW0
    go_wp2_with fail
    go_ret
    exact ⟨ret_f fun h => HX.out h.2.2.1, U.out⟩
  have t2 : decide ((e.spans.length : Int) ≤ 60) = true := decide_eq_true (by omega)
  by_cases h3 : e.text.length ≤ 2100
  case neg =>
    have t3 : decide ((e.text.length : Int) ≤ 2100) = false := decide_eq_false (by omega)
    have HX := hid h3
    clear h3
    go_enter Tryz.func10, Tryz.ntmps10
    go_upto_region 1 with (fail)
    have hW := HW0.out
    unfold en13 at hW
    rw [← hW]
    clear hW HW0
    go_wp2_with fail
    go_ret
    exact ⟨ret_f fun h => HX.out h.2.2.2, U.out⟩
  have t3 : decide ((e.text.length : Int) ≤ 2100) = true := decide_eq_true (by omega)
  have HX := hid (show FewE e from ⟨h0, h1, h2, h3⟩)
  clear h0 h1 h2 h3
  go_enter Tryz.func10, Tryz.ntmps10
  go_upto_region 1 with (fail)
  have hW := HW0.out
  unfold en13 at hW
  rw [← hW]
  clear hW HW0
  go_wp2_with fail
  go_ret
  exact ⟨ret_t HX.out, U.out⟩
theorem read_open {s : List UInt8} {w w' : World} {en : Ending} {x : En} {y : Int} (hx : rdF s = (x, y)) (h : ReadPost s w en w') : ∃ a1 a2 a3 c1 c2 c3, en = .returned (.tuple #[.agg #[.int .i64 x.author, .int .i64 x.seq, .int .i64 x.day, .slice a1 x.knows.length c1, .int .i64 x.kind, .int .i64 x.circle, .int .i64 x.who, .int .i64 x.n, .int .i64 x.m, .int .i64 x.ref, .slice a2 x.keys.length c2, .slice a3 x.spans.length c3, .string ⟨x.text.toArray⟩], .int .i64 y]) ∧ EnRep (· < w'.heap.size) w' x a1 a2 a3 c1 c2 c3 ∧ Upd (fun _ => False) w w' := by
  obtain ⟨a1, a2, a3, c1, c2, c3, he, hr, u⟩ := h
  rw [hx] at he hr
  exact ⟨a1, a2, a3, c1, c2, c3, he, hr.wide fun g hg => hg.2, u⟩
end Go.Proofs.YtdcahnkcnbhknaaGreatDoor
