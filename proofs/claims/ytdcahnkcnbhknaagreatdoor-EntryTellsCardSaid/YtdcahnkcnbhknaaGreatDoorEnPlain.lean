/- Walks: plain. -/
import Derived.Test.YtdcahnkcnbhknaaGreatDoorEnEq
import Derived.Test.YtdcahnkcnbhknaaGreatDoorWrBase
import Derived.Test.YtdcahnkcnbhknaaGreatDoorEnVals
import Derived.Lib.OthersKept
namespace Go.Proofs.YtdcahnkcnbhknaaGreatDoor
open Go.RowKit Go.Deep

/-- The program's table of fields lies in memory. -/
def UsesIn (w : World) : Prop := ∀ k (h : k < useTab.length), w.cell? ⟨0, k, none⟩ = some (.string ⟨(useTab[k]).toArray⟩)
theorem UsesIn.keep {w w' : World} (h : UsesIn w) (u : Upd (fun _ => False) w w') : UsesIn w' := fun k hk => cell_kept (h k hk) (u.block _ (World.block_lt_of_cell? _ _ (h k hk)) id)
theorem contains_any (l : List UInt8) (c : UInt8) (r : Int) (hr : r = c.toNat) (hc : c.toNat < 128) (w : World) :
    Calls Tryz.prog 86 #[.string ⟨l.toArray⟩, .int .i32 r] w fun e w' => e = .returned (.bool (decide (c ∈ l))) ∧ w = w' := by
  refine (Tryz.strings_ContainsRune_ascii ⟨l.toArray⟩ r w (by omega) (by omega)).mono fun e w' h => ⟨?_, h.2.symm⟩
  rw [h.1]
  congr 2
  rw [decide_eq_decide]
  have e1 : r.toNat.toUInt8 = c := by subst hr; simp
  rw [e1]
  show 0 ≤ Lib.indexByte l c ↔ c ∈ l
  constructor
  · intro h
    obtain ⟨p, t, rfl, _, _⟩ := index_some h
    simp
  · intro h
    obtain ⟨p, t, rfl, hp⟩ := List.eq_append_cons_of_mem h
    rw [index_at t hp]; omega
def emptyL (e : En) : List Bool := [e.circle == 0, e.who == 0, e.n == 0, e.m == 0, e.ref == -1, ((e.keys.length : Int) == 0), ((e.spans.length : Int) == 0), e.text.isEmpty]
theorem plain_iff (e : En) : plainP e ↔ ∀ i (h : i < 8), letters[i]'h ∉ useF e.kind → (emptyL e)[i]'h = true := by
  unfold plainP
  constructor
  · rintro ⟨h0, h1, h2, h3, h4, h5, h6, h7⟩ i hi
    have : i = 0 ∨ i = 1 ∨ i = 2 ∨ i = 3 ∨ i = 4 ∨ i = 5 ∨ i = 6 ∨ i = 7 := by omega
    rcases this with rfl | rfl | rfl | rfl | rfl | rfl | rfl | rfl
    · intro h; exact beq_iff_eq.2 (h0 h)
    · intro h; exact beq_iff_eq.2 (h1 h)
    · intro h; exact beq_iff_eq.2 (h2 h)
    · intro h; exact beq_iff_eq.2 (h3 h)
    · intro h; exact beq_iff_eq.2 (h4 h)
    · intro h; show ((e.keys.length : Int) == 0) = true; rw [h5 h]; rfl
    · intro h; show ((e.spans.length : Int) == 0) = true; rw [h6 h]; rfl
    · intro h; exact List.isEmpty_iff.2 (h7 h)
  · intro h
    refine ⟨fun g => ?_, fun g => ?_, fun g => ?_, fun g => ?_, fun g => ?_, fun g => ?_, fun g => ?_, fun g => ?_⟩
    · exact beq_iff_eq.1 (h 0 (by decide) g)
    · exact beq_iff_eq.1 (h 1 (by decide) g)
    · exact beq_iff_eq.1 (h 2 (by decide) g)
    · exact beq_iff_eq.1 (h 3 (by decide) g)
    · exact beq_iff_eq.1 (h 4 (by decide) g)
    · have h' : ((e.keys.length : Int) == 0) = true := h 5 (by decide) g
      have := beq_iff_eq.1 h'; exact List.length_eq_zero_iff.1 (by omega)
    · have h' : ((e.spans.length : Int) == 0) = true := h 6 (by decide) g
      have := beq_iff_eq.1 h'; exact List.length_eq_zero_iff.1 (by omega)
    · exact List.isEmpty_iff.1 (h 7 (by decide) g)
theorem upd_iter (w : World) (s : ByteArray) (p : Nat) : Upd (fun _ => False) w (w.iter s p) := (Upd.refl _ w).alloc (.stringIter s p)
theorem upd_iterAt (w : World) (s : ByteArray) (k p : Nat) : Upd (· = k) w (w.iterAt k s p) := ⟨rfl, rfl, rfl, by simp [World.iterAt], fun j hj hn => by simp only [World.iterAt]; rw [Array.getElem?_setIfInBounds_ne (Ne.symm hn)]⟩
set_option maxRecDepth 100000 in
set_option maxHeartbeats 4000000 in
theorem plain_any (e : En) (a1 a2 a3 : Option Addr) (c1 c2 c3 : Nat) (w : World) (hk : 0 ≤ e.kind ∧ e.kind < 21) (hu : UsesIn w) :
    Calls Tryz.prog 60 #[enV e a1 a2 a3 c1 c2 c3] w fun en w' => en = .returned (.bool (decide (plainP e))) ∧ Upd (fun _ => False) w w' := by
  obtain ⟨k, hkk⟩ := Int.eq_ofNat_of_zero_le hk.1
  have hk2 : k < useTab.length := by show k < 21; omega
  have hki : (k : Int) < 21 := by omega
  have m0 := hu k hk2
  obtain ⟨us, hus⟩ : ∃ us, useTab[k] = us := ⟨_, rfl⟩
  rw [hus] at m0
  have HU := hid hu
  have hz : 0 < w.heap.size := World.block_lt_of_cell? _ _ m0
  have HUS := hid hus
  unfold enV
  rw [hkk]
  have HK := hid hkk
  clear hu hk hus hkk
  go_enter Tryz.func60, Tryz.ntmps60
  go_wp2_with fail
  have HE := hid (show useF (k : Int) = us by rw [← HUS.out]; unfold useF; rw [Int.toNat_natCast, List.getD_eq_getElem?_getD, List.getElem?_eq_getElem hk2]; rfl)
  have fin : ∀ {b : Bool}, (b = true ↔ ∀ i (h : i < 8), letters[i]'h ∉ us → (emptyL e)[i]'h = true) → Ending.returned (.bool b) = .returned (.bool (decide (plainP e))) := fun h => ret_b (h.trans (by rw [plain_iff, HK.out, HE.out]))
  have FIN : Hid (∀ {b : Bool}, (b = true ↔ ∀ i (h : i < 8), letters[i]'h ∉ us → (emptyL e)[i]'h = true) → Ending.returned (.bool b) = .returned (.bool (decide (plainP e)))) := hid fin
  clear fin
  go_loopg [5] 8 (fun gg _ wr => ∃ pos : Nat, pos ≤ 8 ∧ gg = 8 - pos ∧ wr.heap[w.heap.size + 1 + 1]? = some (.stringIter ⟨#[99, 119, 110, 109, 114, 107, 115, 116]⟩ pos) ∧ wr.heap[w.heap.size + 1]? = some (.cells ((emptyL e).map Value.bool).toArray 99 (0, 0)) ∧ (∀ i (h : i < 8), i < pos → letters[i]'h ∉ us → (emptyL e)[i]'h = true) ∧ Upd (fun _ => False) w wr)
  case atStart =>
    refine ⟨0, Nat.zero_le _, rfl, ?_, ?_, fun i _ h => absurd h (Nat.not_lt_zero _), (((Upd.refl _ _).alloc _).alloc _).trans (upd_iter _ _ _)⟩
    · have := World.iter_heap ((w.alloc (.cells #[.int .i64 e.author, .int .i64 e.seq, .int .i64 e.day, .slice a1 e.knows.length c1, .int .i64 k, .int .i64 e.circle, .int .i64 e.who, .int .i64 e.n, .int .i64 e.m, .int .i64 e.ref, .slice a2 e.keys.length c2, .slice a3 e.spans.length c3, .string ⟨e.text.toArray⟩] 25 (0, 0))).alloc (.cells #[.bool (e.circle == 0), .bool (e.who == 0), .bool (e.n == 0), .bool (e.m == 0), .bool (e.ref == -1), .bool ((e.keys.length : Int) == 0), .bool ((e.spans.length : Int) == 0), .bool e.text.isEmpty] 99 (0, 0))) ⟨#[99, 119, 110, 109, 114, 107, 115, 116]⟩ 0
      simpa using this
    · rw [(upd_iter _ _ _).block (w.heap.size + 1) (by simp) id]
      have : ((w.alloc (.cells #[.int .i64 e.author, .int .i64 e.seq, .int .i64 e.day, .slice a1 e.knows.length c1, .int .i64 k, .int .i64 e.circle, .int .i64 e.who, .int .i64 e.n, .int .i64 e.m, .int .i64 e.ref, .slice a2 e.keys.length c2, .slice a3 e.spans.length c3, .string ⟨e.text.toArray⟩] 25 (0, 0)))).heap.size = w.heap.size + 1 := by simp
      rw [← this]
      exact heap_alloc_new
  case round =>
    obtain ⟨pos, hp, hg, hit, hbl, hinv, u⟩ := hrel
    have HG := hid hg; have INV := hid hinv
    have hsz := heap_lt hit
    clear hg hinv
    by_cases hlt : pos < 8
    case neg =>
      have hnx : ∀ ty, (Instr.next (.pointer (some ⟨w.heap.size + 1 + 1, 0, none⟩)) true ty).run Tryz.prog wr = _ := fun ty => Lib.run_next_end_at wr (w.heap.size + 1 + 1) _ pos ty hit (by simpa [ByteArray.size] using hlt)
      have HB := hid (FIN.out (b := true) ⟨fun _ i h => INV.out i h (by omega), fun _ => rfl⟩)
      have U := hid u
      clear hit hbl u
      go_wp2_with fail
      go_ret
      exact ⟨HB.out, U.out⟩
    obtain ⟨c, hc⟩ : ∃ c, letters[pos]'hlt = c := ⟨_, rfl⟩
    obtain ⟨r, hr⟩ : ∃ r : Int, r = c.toNat := ⟨_, rfl⟩
    have hcs : c.toNat < 128 := by
      have : ∀ x ∈ letters, x.toNat < 128 := by decide
      rw [← hc]; exact this _ (List.getElem_mem _)
    obtain ⟨W1, hW1⟩ : ∃ W1, W1 = wr.iterAt (w.heap.size + 1 + 1) ⟨#[99, 119, 110, 109, 114, 107, 115, 116]⟩ (pos + 1) := ⟨_, rfl⟩
    have hnx : ∀ ty, (Instr.next (.pointer (some ⟨w.heap.size + 1 + 1, 0, none⟩)) true ty).run Tryz.prog wr = .ok (.tuple #[.bool true, .int .i64 pos, .int .i32 r]) W1 := fun ty => by
      rw [Lib.run_next_ascii_at wr (w.heap.size + 1 + 1) _ pos ty hit (by simpa [ByteArray.size] using hlt) (by rw [show (ByteArray.mk #[99, 119, 110, 109, 114, 107, 115, 116])[pos] = c from hc]; exact hcs), hW1, hr]
      rw [show (ByteArray.mk #[99, 119, 110, 109, 114, 107, 115, 116])[pos] = c from hc]
    have hit1 : W1.heap[w.heap.size + 1 + 1]? = some (.stringIter ⟨#[99, 119, 110, 109, 114, 107, 115, 116]⟩ (pos + 1)) := by rw [hW1]; exact Lib.iterAt_heap _ _ _ _ _ hit
    have u1 : Upd (· = w.heap.size + 1 + 1) wr W1 := by rw [hW1]; exact upd_iterAt _ _ _ _
    have hbl1 := (u1.block (w.heap.size + 1) (by omega) (by omega)).trans hbl
    have uw : Upd (fun _ => False) w W1 := u.comp u1 fun i hi e => by omega
    obtain ⟨bx, hbx⟩ : ∃ b, (emptyL e)[pos]'hlt = b := ⟨_, rfl⟩
    have n0 : W1.cell? ⟨w.heap.size + 1, pos, none⟩ = some (.bool bx) := by rw [cell_of_block hbl1, ← hbx]; simp [hlt, show (emptyL e).length = 8 from rfl]; rfl
    have hpi : (pos : Int) < 8 := by omega
    have step : (letters[pos]'hlt ∉ us → bx = true) → ∀ i (h : i < 8), i < pos + 1 → letters[i]'h ∉ us → (emptyL e)[i]'h = true := fun hs i h hi hn => by
      by_cases e1 : i = pos
      · subst e1; rw [hbx]; exact hs hn
      · exact INV.out i h (by omega) hn
    have STEP := hid step; have UW1 := hid uw; have IT := hid hit1; have BL := hid hbl1; have HC := hid hc; have HR := hid hr; have HCS := hid hcs; have HBX := hid hbx
    clear hit hbl u hW1 hit1 u1 hbl1 uw step hc hr hcs hbx
    cases bx with
    | true =>
      go_wp2_with fail
      go_roundg (8 - (pos + 1))
      case measure => have := HG.out; omega
      case rel => exact ⟨pos + 1, by omega, rfl, IT.out, BL.out, STEP.out fun _ => by trivial, UW1.out⟩
    | false =>
      by_cases hin : c ∈ us
      · have HIN := hid hin
        clear hin
        go_wp2_with (go_at_call 86; refine (contains_any us c r HR.out HCS.out _).mono ?_; rintro ex wx ⟨rfl, rfl⟩; rw [decide_eq_true HIN.out])
        go_roundg (8 - (pos + 1))
        case measure => have := HG.out; omega
        case rel => exact ⟨pos + 1, by omega, rfl, IT.out, BL.out, STEP.out fun h => absurd (by rw [HC.out]; exact HIN.out) h, UW1.out⟩
      · have HIN := hid hin
        have HB := hid (FIN.out (b := false) ⟨fun h => (by cases h), fun h => (by have := h pos hlt (by rw [HC.out]; exact hin); rw [HBX.out] at this; cases this)⟩)
        clear hin
        go_wp2_with (go_at_call 86; refine (contains_any us c r HR.out HCS.out _).mono ?_; rintro ex wx ⟨rfl, rfl⟩; rw [decide_eq_false HIN.out])
        go_ret
        exact ⟨HB.out, UW1.out⟩
end Go.Proofs.YtdcahnkcnbhknaaGreatDoor
