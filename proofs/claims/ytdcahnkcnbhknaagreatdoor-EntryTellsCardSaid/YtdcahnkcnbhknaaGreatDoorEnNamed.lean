/- Walks: named. -/
import Derived.Test.YtdcahnkcnbhknaaGreatDoorEnBackW
namespace Go.Proofs.YtdcahnkcnbhknaaGreatDoor
open Go.RowKit Go.Deep

set_option maxHeartbeats 1000000 in
theorem named_any (v : Value) (l : List (List UInt8)) (x : List UInt8) (A : Nat → Prop) (w : World) (h : kStrs.rep A w [v] l) (hA : ∀ b, A b → b < w.heap.size) :
    Calls Tryz.prog 22 #[v, .string ⟨x.toArray⟩] w fun e w' => e = .returned (.bool (decide (x ∈ l))) ∧ Upd (fun _ => False) w w' := by
  obtain ⟨a, cap, rfl, p1, p2, p3⟩ := slice_open h
  have p2 : cap ≤ 9223372036854775807 := p2
  have H := hid p3; have HA := hid hA
  clear h p3 hA
  go_enter Tryz.func22, Tryz.ntmps22
  go_wp2_with fail
  go_loopg [5] l.length (fun gg s wr => ∃ k : Nat, k ≤ l.length ∧ gg = l.length - k ∧ s = .int .i64 k ∧ (∀ i (h : i < l.length), i < k → l[i] ≠ x) ∧ Upd (fun _ => False) w wr)
  case atStart => exact ⟨0, Nat.zero_le _, by omega, rfl, fun i _ h => absurd h (Nat.not_lt_zero _), Upd.refl _ _⟩
  case round =>
    obtain ⟨k, hk, hg, rfl, he, u⟩ := hrel
    have UU := hid u; have HG := hid hg; have EQ := hid he
    clear u hg he
    by_cases hlt : k < l.length
    case neg =>
      have hd : ¬ x ∈ l := fun hx => by
        obtain ⟨i, hi, e⟩ := List.mem_iff_getElem.1 hx
        exact EQ.out i hi (by omega) e
      obtain rfl : k = l.length := by omega
      have HD := hid hd
      clear hd hlt
      go_wp2_with fail
      go_ret
      exact ⟨by rw [decide_eq_false HD.out]; rfl, UU.out⟩
    obtain ⟨b, o, rfl, hb, hel⟩ := H.out (by omega)
    have hb := HA.out _ hb
    have m := cell_kept (str_cells hel hlt) (UU.out.block b hb id)
    have hlti : (k : Int) < l.length := by omega
    have hk1 : (k : Int) + 1 ≤ 9223372036854775807 := by omega
    have HM := hid (List.getElem_mem hlt)
    obtain ⟨y, hy⟩ : ∃ y, l[k] = y := ⟨_, rfl⟩
    have HY := hid hy
    rw [hy] at m HM
    clear hel hy
    by_cases hx : y = x
    · have q : (y == x) = true := beq_iff_eq.2 hx
      have HD := hid (show x ∈ l by rw [← hx]; exact HM.out)
      clear hx
      go_wp2_with fail
      go_ret
      exact ⟨by rw [decide_eq_true HD.out]; rfl, UU.out⟩
    · have q : (y == x) = false := beq_eq_false_iff_ne.2 hx
      have HX := hid hx
      clear hx
      go_wp2_with fail
      go_roundg (l.length - (k + 1))
      case measure => have := HG.out; omega
      case rel =>
        refine ⟨k + 1, by omega, rfl, by go_num, fun i h hi => ?_, UU.out⟩
        by_cases e : i = k
        · subst e; rw [HY.out]; exact HX.out
        · exact EQ.out i h (by omega)
theorem upd_fresh {w a b : World} {px : Nat} (h : Upd (fun _ => False) w a) (u : Upd (· = px) a b) (hp : w.heap.size ≤ px) : Upd (fun _ => False) w b :=
  ⟨u.os.trans h.os, u.tape.trans h.tape, u.output.trans h.output, Nat.le_trans h.size u.size, fun k hk _ => (u.block k (Nat.lt_of_lt_of_le hk h.size) (Nat.ne_of_lt (Nat.lt_of_lt_of_le hk hp))).trans (h.block k hk id)⟩
theorem cell_in {w : World} {a : Addr} {v : Value} (h : w.cell? a = some v) : a.block < w.heap.size := by
  refine Classical.byContradiction fun hn => ?_
  have h0 : w.heap[a.block]? = none := Array.getElem?_eq_none (Nat.le_of_not_lt hn)
  unfold World.cell? at h
  simp [h0] at h
theorem cell_upd {w w' : World} {a : Addr} {v : Value} (h : w.cell? a = some v) (u : Upd (fun _ => False) w w') : w'.cell? a = some v := cell_kept h (u.block _ (cell_in h) id)
theorem uses_sp (k : Int) (w : World) (hu : UsesIn w) : Calls Tryz.prog 20 #[.int .i64 k] w fun en w' =>
    ∃ a c, en = .returned (.slice a (usesN k).length c) ∧ kStrs.rep (fun g => w.heap.size ≤ g ∧ g < w'.heap.size) w' [.slice a (usesN k).length c] (usesN k) ∧ Upd (fun _ => False) w w' := usesW_any k w hu
theorem right_agg (e : En) (a1 a2 a3 : Option Addr) (c1 c2 c3 : Nat) (w : World) (hu : UsesIn w) (hr : EnRep (· < w.heap.size) w e a1 a2 a3 c1 c2 c3) :
    Calls Tryz.prog 14 #[.agg #[.int .i64 e.author, .int .i64 e.seq, .int .i64 e.day, .slice a1 e.knows.length c1, .int .i64 e.kind, .int .i64 e.circle, .int .i64 e.who, .int .i64 e.n, .int .i64 e.m, .int .i64 e.ref, .slice a2 e.keys.length c2, .slice a3 e.spans.length c3, .string ⟨e.text.toArray⟩]] w fun en w' => en = .returned (.bool (decide (RightE e))) ∧ Upd (fun _ => False) w w' := right_any e a1 a2 a3 c1 c2 c3 _ w hu hr
theorem copy_set {wc : World} {e e' : En} {a1 a2 a3 : Option Addr} {c1 c2 c3 pa : Nat} (h : EnAt wc pa e a1 a2 a3 c1 c2 c3) (hk : e'.knows = e.knows ∧ e'.keys = e.keys ∧ e'.spans = e.spans) :
    EnAt (wc.alloc (.cells (en13 e' a1 a2 a3 c1 c2 c3) 25 (0, 0))) wc.heap.size e' a1 a2 a3 c1 c2 c3 ∧ Upd (fun _ => False) wc (wc.alloc (.cells (en13 e' a1 a2 a3 c1 c2 c3) 25 (0, 0))) := by
  have u : Upd (fun _ => False) wc (wc.alloc (.cells (en13 e' a1 a2 a3 c1 c2 c3) 25 (0, 0))) := (Upd.refl _ _).alloc _
  have r := (h.rep.keep u).wide (B := (· < (wc.alloc (.cells (en13 e' a1 a2 a3 c1 c2 c3) 25 (0, 0))).heap.size)) fun _ hg => Nat.lt_of_lt_of_le hg u.size
  obtain ⟨k1, k2, k3⟩ := hk
  exact ⟨⟨heap_alloc_new, ⟨by rw [k1]; exact r.knows, by rw [k2]; exact r.keys, by rw [k3]; exact r.spans⟩⟩, u⟩
theorem not_used {e : En} (h : RightE e) {k : Nat} (hk : k < 8) (hn : ((usesT.getD k (0, [])).2) ∉ usesN e.kind) : letters.getD k 0 ∉ useF e.kind := by
  have hkd := h.kind
  intro hc
  apply hn
  unfold usesN
  rw [if_pos ⟨hkd.1, by have := hkd.2; omega⟩]
  refine List.mem_map.2 ⟨usesT.getD k (0, []), List.mem_filter.2 ⟨?_, ?_⟩, rfl⟩
  · have : ∀ i, i < 8 → usesT.getD i (0, []) ∈ usesT := by decide
    exact this k hk
  · have : ∀ i, i < 8 → (usesT.getD i (0, [])).1 = letters.getD i 0 := by decide
    rw [this k hk]
    exact decide_eq_true hc
end Go.Proofs.YtdcahnkcnbhknaaGreatDoor
