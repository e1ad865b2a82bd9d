/- Boxes: where they lie; New, Missing, Done. -/
import Derived.Test.YtabnniabofhihaaDoorSmPart
import Derived.Deep.RegionHeld3
namespace Go.Proofs.YtabnniabofhihaaDoor
open Go.RowKit Go.Deep

theorem lookup_map {α β : Type} (f : α → β) (l : List (Int × α)) (x : Int) : (l.map fun p => (p.1, f p.2)).lookup x = (l.lookup x).map f := by
  induction l with
  | nil => rfl
  | cons p r ih =>
    obtain ⟨a, b⟩ := p
    rw [List.map_cons, List.lookup_cons, List.lookup_cons, ih]
    cases (x == a) <;> rfl
/-- An entry of a box: its message's id; its block, that of its parts; the message. -/
abbrev En := Int × Nat × Nat × Ms
def bxOf (L : List En) : Bx := L.map fun e => (e.1, e.2.2.2)
def ptrs (L : List En) : List (Int × Value) := L.map fun e => (e.1, .pointer (some ⟨e.2.1, 0, none⟩))
def strs (l : List (Int × Bs)) : List (Int × Value) := l.map fun p => (p.1, .string ⟨p.2.toArray⟩)
theorem bx_look (L : List En) (x : Int) : (bxOf L).lookup x = (L.lookup x).map fun e => e.2.2 := lookup_map (fun e : Nat × Nat × Ms => e.2.2) L x
theorem ptr_look (L : List En) (x : Int) : (ptrs L).lookup x = (L.lookup x).map fun e => .pointer (some ⟨e.1, 0, none⟩) := lookup_map (fun e : Nat × Nat × Ms => Value.pointer (some ⟨e.1, 0, none⟩)) L x
theorem str_look (l : List (Int × Bs)) (x : Int) : (strs l).lookup x = (l.lookup x).map fun b => .string ⟨b.toArray⟩ := lookup_map (fun b : Bs => Value.string ⟨b.toArray⟩) l x

structure MsAt (w : World) (p q : Nat) (m : Ms) : Prop where
  head : w.heap[p]? = some (.cells #[.int .i64 m.count, .map (some q)] 67 (0, 0))
  map : MapIs Tryd.prog 3 w q (strs m.parts)
structure BoxAt (w : World) (O : Nat → Prop) (b bm : Nat) (L : List En) : Prop where
  ok : BxOk (bxOf L)
  head : w.heap[b]? = some (.cells #[.map (some bm)] 63 (0, 0))
  map : MapIs Tryd.prog 3 w bm (ptrs L)
  ms : ∀ e ∈ L, MsAt w e.2.1 e.2.2.1 e.2.2.2
  own : O b ∧ O bm ∧ ∀ e ∈ L, O e.2.1 ∧ O e.2.2.1
  lt : ∀ k, O k → 6 ≤ k ∧ k < w.heap.size
  apart : (bm :: L.map fun e => e.2.2.1).Nodup
/-- Block b is a box that reads as bx; its blocks are those of O. -/
def IsBox (w : World) (O : Nat → Prop) (b : Nat) (bx : Bx) : Prop := ∃ bm L, BoxAt w O b bm L ∧ bxOf L = bx
theorem MsAt.upd {S : Nat → Prop} {w w' : World} {p q : Nat} {m : Ms} (h : MsAt w p q m) (u : Upd S w w') (hp : ¬ S p) (hq : ¬ S q) : MsAt w' p q m :=
  ⟨(u.block p (heap_lt h.head) hp).trans h.head, h.map.upd u hq⟩
theorem BoxAt.upd {S O : Nat → Prop} {w w' : World} {b bm : Nat} {L : List En} (h : BoxAt w O b bm L) (u : Upd S w w') (hS : ∀ k, O k → ¬ S k) : BoxAt w' O b bm L :=
  ⟨h.ok, (u.block b (heap_lt h.head) (hS _ h.own.1)).trans h.head, h.map.upd u (hS _ h.own.2.1), fun e he => (h.ms e he).upd u (hS _ (h.own.2.2 e he).1) (hS _ (h.own.2.2 e he).2), h.own, fun k hk => ⟨(h.lt k hk).1, Nat.lt_of_lt_of_le (h.lt k hk).2 u.size⟩, h.apart⟩
theorem IsBox.upd {S O : Nat → Prop} {w w' : World} {b : Nat} {bx : Bx} (h : IsBox w O b bx) (u : Upd S w w') (hS : ∀ k, O k → ¬ S k) : IsBox w' O b bx :=
  let ⟨bm, L, h1, h2⟩ := h; ⟨bm, L, h1.upd u hS, h2⟩
theorem IsBox.keep {O : Nat → Prop} {w w' : World} {b : Nat} {bx : Bx} (h : IsBox w O b bx) (u : Upd (fun _ => False) w w') : IsBox w' O b bx := h.upd u fun _ _ => id
theorem IsBox.lt {O : Nat → Prop} {w : World} {b : Nat} {bx : Bx} (h : IsBox w O b bx) : ∀ k, O k → 6 ≤ k ∧ k < w.heap.size := let ⟨_, _, h1, _⟩ := h; h1.lt
theorem IsBox.ok {O : Nat → Prop} {w : World} {b : Nat} {bx : Bx} (h : IsBox w O b bx) : BxOk bx := let ⟨_, _, h1, h2⟩ := h; h2 ▸ h1.ok
theorem zeroP (w : World) : (zeroValue 64).run Tryd.prog w = .ok (.pointer none) w := by kernel_rfl
theorem zeroS (w : World) : (zeroValue 9).run Tryd.prog w = .ok (.string ⟨#[]⟩) w := by kernel_rfl

theorem new_any (w : World) (hz : 6 ≤ w.heap.size) :
    Calls Tryd.prog 11 #[] w fun e w' => e = .returned (.pointer (some ⟨w.heap.size + 1, 0, none⟩)) ∧ IsBox w' (fun k => w.heap.size ≤ k ∧ k < w'.heap.size) (w.heap.size + 1) [] ∧ Upd (fun _ => False) w w' := by
  have HZ := hid hz; clear hz
  have hmk : ∀ w, (Instr.makeMap 61 none).run Tryd.prog w = .ok (.map (some w.heap.size)) (w.alloc (.map #[] 0)) := fun w => run_makeMap _ w
  go_enter Tryd.func11, Tryd.ntmps11
  go_wp2_with fail
  go_ret
  have u1 := (Upd.refl (fun _ => False) w).alloc (.map #[] 0)
  have h1 : ((w.alloc (.map #[] 0)).alloc (.cells #[.map (some w.heap.size)] 63 (0, 0))).heap[w.heap.size + 1]? = some (.cells #[.map (some w.heap.size)] 63 (0, 0)) := by
    have := heap_alloc_new (w := w.alloc (.map #[] 0)) (o := .cells #[.map (some w.heap.size)] 63 (0, 0))
    rw [World.size_alloc] at this
    exact this
  have hz := HZ.out
  refine ⟨rfl, ⟨w.heap.size, [], ⟨boxOk_nil, h1, (MapIs.made w).upd ((Upd.refl (fun _ => False) _).alloc _) id, fun e h => (nomatch h), ⟨⟨by omega, ?_⟩, ⟨by omega, ?_⟩, fun e h => (nomatch h)⟩, fun k hk => ⟨by omega, hk.2⟩, by simp⟩, rfl⟩, u1.alloc _⟩
  · simp <;> omega
  · simp <;> omega

/-! ## Missing -/

def missTo (m : Ms) (k : Nat) : List Int := ((List.range k).map fun i : Nat => (i : Int)).filter fun i => (m.parts.lookup i).isNone
theorem missTo_all (m : Ms) : missTo m m.count = missL m := rfl
theorem missTo_yes (m : Ms) (k : Nat) (h : (m.parts.lookup (k : Int)).isSome = true) : missTo m (k + 1) = missTo m k := by
  unfold missTo
  rw [List.range_succ, List.map_append, List.filter_append]
  have : (m.parts.lookup (k : Int)).isNone = false := by rw [Option.isNone_eq_false_iff]; exact h
  simp [this]
theorem missTo_no (m : Ms) (k : Nat) (h : (m.parts.lookup (k : Int)).isSome = false) : missTo m (k + 1) = missTo m k ++ [(k : Int)] := by
  unfold missTo
  rw [List.range_succ, List.map_append, List.filter_append]
  have : (m.parts.lookup (k : Int)).isNone = true := by
    cases hl : m.parts.lookup (k : Int) with
    | none => rfl
    | some y => rw [hl] at h; cases h
  simp [this]
theorem missTo_len (m : Ms) (k : Nat) : (missTo m k).length ≤ k := by
  unfold missTo
  exact Nat.le_trans (List.length_filter_le _ _) (by simp)
theorem missTo_mem {m : Ms} {k : Nat} {x : Int} (h : x ∈ missTo m k) : 0 ≤ x ∧ x < k := by
  obtain ⟨h1, _⟩ := List.mem_filter.1 h
  obtain ⟨i, hi, rfl⟩ := List.mem_map.1 h1
  have := List.mem_range.1 hi
  omega
def Fresh (w w' : World) : Nat → Prop := fun g => w.heap.size ≤ g ∧ g < w'.heap.size
def MissPost (bx : Bx) (id : Int) (w : World) (e : Ending) (w' : World) : Prop :=
  ∃ v, e = .returned (.tuple #[v, .int .i64 (missF bx id).2]) ∧ kInts.rep (Fresh w w') w' [v] (missF bx id).1 ∧ Upd (fun _ => False) w w'
theorem nil_ints {A : Nat → Prop} {w : World} : kInts.rep A w [.slice none 0 0] ([] : List Int) := .inl ⟨none, 0, rfl, Nat.zero_le _, rfl⟩
theorem cells1 {w : World} {p : Nat} {a : Value} {t : TypeId} (h : w.heap[p]? = some (.cells #[a] t (0, 0))) : w.cell? ⟨p, 0, none⟩ = some a ∧ ∀ o, w.frozen? ⟨p, o, none⟩ = false :=
  ⟨by rw [cell_of_block h]; rfl, fun _ => frozen_of_block h⟩
theorem missing_any (b : Nat) (O : Nat → Prop) (bx : Bx) (n : Int) (w : World) (h : IsBox w O b bx) (hid0 : (Lit.int .i64 n).wf = true) :
    Calls Tryd.prog 14 #[.pointer (some ⟨b, 0, none⟩), .int .i64 n] w (MissPost bx n w) := by
  obtain ⟨bm, L, B, rfl⟩ := h
  obtain ⟨c0, cf⟩ := cells1 B.head
  have hget := B.map.get Tryd.underlying3 Tryd.underlying61 (zeroP w) hid0
  rw [ptr_look] at hget
  have hlk := bx_look L n
  cases hL : L.lookup n with
  | none =>
    rw [hL] at hget hlk
    have HF := hid (show missF (bxOf L) n = ([], 4) by unfold missF; rw [hlk]; rfl)
    dsimp only [Option.map_none, Option.getD_none] at hget
    clear hlk B hL hid0
    go_enter Tryd.func14, Tryd.ntmps14
    go_wp2_with fail
    go_ret2
    exact ⟨_, by rw [HF.out]; rfl, by rw [HF.out]; exact nil_ints, Upd.refl _ _⟩
  | some e =>
    obtain ⟨p, q, m⟩ := e
    rw [hL] at hget hlk
    dsimp only [Option.map_some, Option.getD_some] at hget hlk
    have hM := B.ms _ (lookup_mem hL)
    have hok := ms_of B.ok hlk
    have HF := hid (show missF (bxOf L) n = (missL m, 0) by unfold missF; rw [hlk])
    obtain ⟨m0, m1, mf⟩ := cells2 hM.head
    dsimp only at m0 m1
    have HM := hid hM; have HOK := hid hok
    have hcnt := hok.few
    have hplt := heap_lt hM.head
    clear hlk B hL hid0 hM hok
    go_enter Tryd.func14, Tryd.ntmps14
    go_wp2_with fail
    go_loopg [7, 23] m.count (fun gg s7 s23 wr => ∃ k : Nat, k ≤ m.count ∧ gg = m.count - k ∧ s23 = .int .i64 k ∧ wr.ownsRow w.heap.size 3 1 s7 (missTo m k).length ((missTo m k).map fun x => .int .i64 x) ∧ Upd (fun _ => False) w wr)
    case atStart => exact ⟨0, Nat.zero_le _, rfl, rfl, World.ownsRow_nil _ _ _ _, Upd.refl _ _⟩
    case round =>
      obtain ⟨k, hk, hg, rfl, hown, u⟩ := hrel
      have HG := hid hg; have OWN := hid hown; have U := hid u
      clear hg hown u
      have n0 := cell_kept m0 (U.out.block p hplt id)
      have n1 := cell_kept m1 (U.out.block p hplt id)
      by_cases hlt : k < m.count
      · have hlti : (k : Int) < m.count := by omega
        have hok := (HM.out.map.upd U.out id).getOk Tryd.underlying3 Tryd.underlying65 (zeroS wr) (x := (k : Int)) (iwf (by omega))
        rw [str_look] at hok
        cases hx : m.parts.lookup (k : Int) with
        | some y =>
          rw [hx] at hok
          dsimp only [Option.map_some, Option.getD_some, Option.isSome_some] at hok
          have HS := hid (missTo_yes m k (by rw [hx]; rfl))
          clear hx
          go_wp2_with fail
          go_roundg (m.count - (k + 1))
          case measure => have := HG.out; omega
          case rel => exact ⟨k + 1, by omega, rfl, by go_num, by rw [HS.out]; exact OWN.out, U.out⟩
        | none =>
          rw [hx] at hok
          dsimp only [Option.map_none, Option.getD_none, Option.isSome_none] at hok
          have HS := hid (missTo_no m k (by rw [hx]; rfl))
          have hml := missTo_len m k
          obtain ⟨v', w4, r4, o4, u4, n4⟩ := append_one elemI OWN.out #[.int .i64 k] rfl (by simp [Value.oneCell']) (by unfold maxLen; omega) (by omega) U.out.size 41 (0, 0)
          have U4 := hid (U.out.comp u4 fun i hi e => by have := (OWN.out.lt i e).1; omega)
          have O4 := hid o4
          clear hx o4 u4 n4
          go_wp2_with (at_builtin; refine wpList_append_run rfl _ _ _ _ rfl rfl rfl r4 ?_)
          go_roundg (m.count - (k + 1))
          case measure => have := HG.out; omega
          case rel => exact ⟨k + 1, by omega, rfl, by go_num, by rw [HS.out, List.length_append, List.map_append]; exact O4.out, U4.out⟩
      · obtain rfl : k = m.count := by omega
        go_wp2_with fail
        go_ret2
        refine ⟨_, by rw [HF.out]; rfl, ?_, U.out⟩
        rw [HF.out, ← missTo_all]
        refine ownsRow_rep1 (K := kInt .i64) rfl (fun x => Value.int .i64 x) OWN.out (fun x hx => intRep x (by have := missTo_mem hx; unfold I64; omega)) fun g hg => OWN.out.lt g hg
end Go.Proofs.YtabnniabofhihaaDoor
