/- Walks: Uses. -/
import Derived.Test.YtdcahnkcnbhknaaGreatDoorEnPlain
import Derived.Test.YtdcahnkcnbhknaaGreatDoorEnVals
import Derived.Test.YtdcahnkcnbhknaaGreatDoorWrC3
namespace Go.Proofs.YtdcahnkcnbhknaaGreatDoor
open Go.RowKit Go.Deep

def usesT : List (UInt8 × List UInt8) := [(99, [67, 105, 114, 99, 108, 101]), (119, [87, 104, 111]), (110, [78]), (109, [77]), (114, [82, 101, 102]), (107, [75, 101, 121, 115]), (115, [83, 112, 97, 110, 115]), (116, [84, 101, 120, 116])]
def usesP (k : Int) (n : Nat) : List (List UInt8) := ((usesT.take n).filter fun p => decide (p.1 ∈ useF k)).map (·.2)
theorem usesP_all {k : Int} (h : 0 ≤ k ∧ k < 21) : usesP k 8 = usesN k := by unfold usesP usesN; rw [if_pos h]; rfl
theorem usesP_yes {k : Int} {n : Nat} (hn : n < 8) (h : (usesT[n]'hn).1 ∈ useF k) : usesP k (n + 1) = usesP k n ++ [(usesT[n]'hn).2] := by
  unfold usesP
  rw [List.take_succ_eq_append_getElem hn, List.filter_append, List.map_append]
  simp [h]
theorem usesP_no {k : Int} {n : Nat} (hn : n < 8) (h : (usesT[n]'hn).1 ∉ useF k) : usesP k (n + 1) = usesP k n := by
  unfold usesP
  rw [List.take_succ_eq_append_getElem hn, List.filter_append, List.map_append]
  simp [h]
theorem usesP_len (k : Int) (n : Nat) : (usesP k n).length ≤ 8 := by
  unfold usesP
  rw [List.length_map]
  refine Nat.le_trans (List.length_filter_le _ _) ?_
  rw [List.length_take]
  exact Nat.min_le_right _ _
theorem usesP_short (k : Int) (n : Nat) : ∀ x ∈ usesP k n, x.length ≤ 10000000 := by
  intro x hx
  unfold usesP at hx
  obtain ⟨p, hp, rfl⟩ := List.mem_map.1 hx
  have h1 := List.mem_of_mem_take (List.mem_filter.1 hp).1
  have : ∀ q ∈ usesT, q.2.length ≤ 10000000 := by decide
  exact this p h1
def UsesPost (k : Int) (w : World) (en : Ending) (w' : World) : Prop :=
  ∃ a c, en = .returned (.slice a (usesN k).length c) ∧ kStrs.rep (fun g => w.heap.size ≤ g ∧ g < w'.heap.size) w' [.slice a (usesN k).length c] (usesN k) ∧ Upd (fun _ => False) w w'
theorem uses_nil {k : Int} {w w' : World} (h : ¬ (0 ≤ k ∧ k < 21)) (u : Upd (fun _ => False) w w') : UsesPost k w (.returned (.slice none 0 0)) w' := by
  have e : usesN k = [] := by unfold usesN; rw [if_neg h]
  refine ⟨none, 0, ?_, ?_, u⟩
  · rw [e]; rfl
  · rw [e]; exact .inl ⟨none, 0, rfl, Nat.zero_le _, rfl⟩
set_option maxRecDepth 100000 in
set_option maxHeartbeats 4000000 in
theorem usesW_any (k : Int) (w : World) (hu : UsesIn w) : Calls Tryz.prog 20 #[.int .i64 k] w (UsesPost k w) := by
  by_cases hk : 0 ≤ k ∧ k < 21
  case neg =>
    have HN := hid hk
    clear hu
    by_cases h0 : k < 0
    · have t0 : decide (k < 0) = true := decide_eq_true h0
      clear hk
      go_enter Tryz.func20, Tryz.ntmps20
      go_wp2_with fail
      go_ret
      exact uses_nil HN.out (Upd.refl _ _)
    · have t0 : decide (k < 0) = false := decide_eq_false h0
      have t1 : decide (21 ≤ k) = true := decide_eq_true (by omega)
      clear hk
      go_enter Tryz.func20, Tryz.ntmps20
      go_wp2_with fail
      go_ret
      exact uses_nil HN.out (Upd.refl _ _)
  obtain ⟨kn, rfl⟩ := Int.eq_ofNat_of_zero_le hk.1
  have hk2 : kn < useTab.length := by show kn < 21; omega
  have hki : (kn : Int) < 21 := by omega
  have t0 : decide ((kn : Int) < 0) = false := decide_eq_false (by omega)
  have t1 : decide (21 ≤ (kn : Int)) = false := decide_eq_false (by omega)
  have t2 : decide (21 ≤ kn) = false := decide_eq_false (by omega)
  have m0 := hu kn hk2
  obtain ⟨us, hus⟩ : ∃ us, useTab[kn] = us := ⟨_, rfl⟩
  rw [hus] at m0
  have hz : 0 < w.heap.size := World.block_lt_of_cell? _ _ m0
  have HF := hid (show useF (kn : Int) = us by rw [← hus]; unfold useF; rw [Int.toNat_natCast, List.getD_eq_getElem?_getD, List.getElem?_eq_getElem hk2]; rfl)
  have HK := hid hk
  have M0 := hid m0
  clear hu hk hus
  go_enter Tryz.func20, Tryz.ntmps20
  go_wp2_with fail
  clear t0 t1 t2 m0
  go_loopg [4, 5, 6] 8 (fun gg s4 _ _ wr => ∃ pos : Nat, pos ≤ 8 ∧ gg = 8 - pos ∧ wr.heap[w.heap.size + 1]? = some (.stringIter ⟨#[99, 119, 110, 109, 114, 107, 115, 116]⟩ pos) ∧ wr.heap[w.heap.size]? = some (.cells #[.string ⟨#[67, 105, 114, 99, 108, 101]⟩, .string ⟨#[87, 104, 111]⟩, .string ⟨#[78]⟩, .string ⟨#[77]⟩, .string ⟨#[82, 101, 102]⟩, .string ⟨#[75, 101, 121, 115]⟩, .string ⟨#[83, 112, 97, 110, 115]⟩, .string ⟨#[84, 101, 120, 116]⟩] 78 (0, 0)) ∧ wr.ownsRow (w.heap.size + 2) 9 1 s4 (usesP kn pos).length ((usesP kn pos).map fun x => .string ⟨x.toArray⟩) ∧ Upd (fun _ => False) w wr)
  case atStart =>
    refine ⟨0, Nat.zero_le _, rfl, ?_, ?_, World.ownsRow_nil _ _ _ _, ((Upd.refl _ _).alloc _).trans (upd_iter _ _ _)⟩
    · have := World.iter_heap (w.alloc (.cells #[.string ⟨#[67, 105, 114, 99, 108, 101]⟩, .string ⟨#[87, 104, 111]⟩, .string ⟨#[78]⟩, .string ⟨#[77]⟩, .string ⟨#[82, 101, 102]⟩, .string ⟨#[75, 101, 121, 115]⟩, .string ⟨#[83, 112, 97, 110, 115]⟩, .string ⟨#[84, 101, 120, 116]⟩] 78 (0, 0))) ⟨#[99, 119, 110, 109, 114, 107, 115, 116]⟩ 0
      simpa using this
    · rw [(upd_iter _ _ _).block w.heap.size (by simp) id]
      exact heap_alloc_new
  case round =>
    obtain ⟨pos, hp, hg, hit, hbl, hown, u⟩ := hrel
    have HG := hid hg; have OW := hid hown
    have hsz := heap_lt hit
    clear hg hown
    by_cases hlt : pos < 8
    case neg =>
      have hnx : ∀ ty, (Instr.next (.pointer (some ⟨w.heap.size + 1, 0, none⟩)) true ty).run Tryz.prog wr = _ := fun ty => Lib.run_next_end_at wr (w.heap.size + 1) _ pos ty hit (by simpa [ByteArray.size] using hlt)
      obtain rfl : pos = 8 := by omega
      have own := OW.out
      rw [usesP_all HK.out] at own
      have hrep := ownsRow_rep1 (K := (kMap kStr fun l : List UInt8 => ⟨l.toArray⟩)) (A := fun g => w.heap.size ≤ g ∧ g < wr.heap.size) rfl (fun x => .string ⟨x.toArray⟩) own (fun x hx => strRep x (usesP_short kn 8 x (by rw [usesP_all HK.out]; exact hx))) fun g hg => ⟨by have := (own.lt g hg).1; omega, (own.lt g hg).2⟩
      obtain ⟨a, c, rfl, _⟩ := slice_open hrep
      have REP := hid hrep
      have U := hid u
      clear hit hbl u own hrep OW
      go_wp2_with fail
      go_ret
      exact ⟨a, c, rfl, REP.out, U.out⟩
    obtain ⟨c, hc⟩ : ∃ c, letters[pos]'hlt = c := ⟨_, rfl⟩
    obtain ⟨r, hr⟩ : ∃ r : Int, r = c.toNat := ⟨_, rfl⟩
    have hcs : c.toNat < 128 := by
      have : ∀ x ∈ letters, x.toNat < 128 := by decide
      rw [← hc]; exact this _ (List.getElem_mem _)
    obtain ⟨nm, hnm⟩ : ∃ x, (usesT[pos]'hlt).2 = x := ⟨_, rfl⟩
    have hut : (usesT[pos]'hlt).1 = c := by
      rw [← hc]
      have : ∀ i (h : i < 8), (usesT[i]'h).1 = letters[i]'h := by decide
      exact this pos hlt
    obtain ⟨W1, hW1⟩ : ∃ W1, W1 = wr.iterAt (w.heap.size + 1) ⟨#[99, 119, 110, 109, 114, 107, 115, 116]⟩ (pos + 1) := ⟨_, rfl⟩
    have hnx : ∀ ty, (Instr.next (.pointer (some ⟨w.heap.size + 1, 0, none⟩)) true ty).run Tryz.prog wr = .ok (.tuple #[.bool true, .int .i64 pos, .int .i32 r]) W1 := fun ty => by
      rw [Lib.run_next_ascii_at wr (w.heap.size + 1) _ pos ty hit (by simpa [ByteArray.size] using hlt) (by rw [show (ByteArray.mk #[99, 119, 110, 109, 114, 107, 115, 116])[pos] = c from hc]; exact hcs), hW1, hr]
      rw [show (ByteArray.mk #[99, 119, 110, 109, 114, 107, 115, 116])[pos] = c from hc]
    have hit1 : W1.heap[w.heap.size + 1]? = some (.stringIter ⟨#[99, 119, 110, 109, 114, 107, 115, 116]⟩ (pos + 1)) := by rw [hW1]; exact Lib.iterAt_heap _ _ _ _ _ hit
    have u1 : Upd (· = w.heap.size + 1) wr W1 := by rw [hW1]; exact upd_iterAt _ _ _ _
    have hbl1 := (u1.block w.heap.size (by omega) (by omega)).trans hbl
    have uw : Upd (fun _ => False) w W1 := u.comp u1 fun i hi e => by omega
    have own1 := ownsRow_upd OW.out u1 fun g hg e => by have := (OW.out.lt g hg).1; omega
    have n0 : W1.cell? ⟨w.heap.size, pos, none⟩ = some (.string ⟨nm.toArray⟩) := by
      rw [cell_of_block hbl1, ← hnm]
      have : ∀ i (h : i < 8), (#[.string ⟨#[67, 105, 114, 99, 108, 101]⟩, .string ⟨#[87, 104, 111]⟩, .string ⟨#[78]⟩, .string ⟨#[77]⟩, .string ⟨#[82, 101, 102]⟩, .string ⟨#[75, 101, 121, 115]⟩, .string ⟨#[83, 112, 97, 110, 115]⟩, .string ⟨#[84, 101, 120, 116]⟩] : Array Value)[i]? = some (.string ⟨((usesT[i]'h).2).toArray⟩) := by
        intro i h
        have : i = 0 ∨ i = 1 ∨ i = 2 ∨ i = 3 ∨ i = 4 ∨ i = 5 ∨ i = 6 ∨ i = 7 := by omega
        rcases this with rfl | rfl | rfl | rfl | rfl | rfl | rfl | rfl <;> rfl
      exact this pos hlt
    have m1 : W1.cell? ⟨0, kn, none⟩ = some (.string ⟨us.toArray⟩) := cell_kept M0.out (uw.block _ (World.block_lt_of_cell? _ _ M0.out) id)
    have hpi : (pos : Int) < 8 := by omega
    have UW1 := hid uw; have IT := hid hit1; have BL := hid hbl1; have HR := hid hr; have HCS := hid hcs; have OW1 := hid own1
    have hul := usesP_len kn pos
    have hlt1 := heap_lt hit1
    by_cases hin : c ∈ us
    case neg =>
      have HIN := hid hin
      have HNX := hid (usesP_no (k := kn) hlt (by rw [hut, HF.out]; exact hin))
      clear hit hbl u hW1 hit1 u1 hbl1 uw hc hr hcs hin hut hnm own1 OW n0
      go_wp2_with (go_at_call 86; refine (contains_any us c r HR.out HCS.out _).mono ?_; rintro ex wx ⟨rfl, rfl⟩; rw [decide_eq_false HIN.out])
      go_roundg (8 - (pos + 1))
      case measure => have := HG.out; omega
      case rel => exact ⟨pos + 1, by omega, rfl, IT.out, BL.out, by rw [HNX.out]; exact OW1.out, UW1.out⟩
    have HIN := hid hin
    have HNX := hid (usesP_yes (k := kn) hlt (by rw [hut, HF.out]; exact hin))
    rw [hnm] at HNX
    obtain ⟨v', w5, r5, o5, u5, n5⟩ := append_one elemS own1 #[.string ⟨nm.toArray⟩] rfl (by simp [Value.oneCell']) (by unfold maxLen; omega) (by omega) (by omega) 34 (0, 0)
    have O5 := hid o5
    have IT5 := hid ((u5.block _ hlt1 (fun e => by have := (own1.lt _ e).1; omega)).trans hit1)
    have BL5 := hid ((u5.block _ (heap_lt hbl1) (fun e => by have := (own1.lt _ e).1; omega)).trans hbl1)
    have U5 := hid (uw.comp u5 fun i hi e => by have := (own1.lt i e).1; omega)
    clear hit hbl u hW1 hit1 u1 hbl1 uw hc hr hcs hin hut hnm own1 OW o5 u5 n5
    go_wp2_with (first | (go_at_call 86; refine (contains_any us c r HR.out HCS.out _).mono ?_; rintro ex wx ⟨rfl, rfl⟩; rw [decide_eq_true HIN.out]) | (at_builtin; refine wpList_append_run rfl _ _ _ _ rfl rfl rfl r5 ?_))
    go_roundg (8 - (pos + 1))
    case measure => have := HG.out; omega
    case rel => exact ⟨pos + 1, by omega, rfl, IT5.out, BL5.out, by rw [HNX.out, List.length_append, List.map_append]; exact O5.out, U5.out⟩
end Go.Proofs.YtdcahnkcnbhknaaGreatDoor
