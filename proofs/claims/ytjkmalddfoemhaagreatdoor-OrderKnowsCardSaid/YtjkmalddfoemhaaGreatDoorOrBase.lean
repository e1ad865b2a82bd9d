/- Setups, and rows of proposals and voices, in memory. -/
import Derived.Test.YtjkmalddfoemhaaGreatDoorRm
import Derived.Test.YtjkmalddfoemhaaGreatDoorOrModel
namespace Go.Proofs.YtjkmalddfoemhaaGreatDoor
open Go.RowKit Go.Deep

def kStp : Knd Stp := kMap (kPair kInts (kPair (kInt .i64) (kInt .i64))) fun s => (s.keys, s.liars, s.seed)
theorem reads_stp : Reads Tryz.prog 60 kStp :=
  reads_map (fun x => ⟨x.1, x.2.1, x.2.2⟩) (fun _ => rfl) (reads_struct Tryz.underlying60
    (tail_cons rfl rfl reads_ints (tail_cons rfl rfl (reads_int Tryz.underlying3 (by kernel_rfl)) (tail_last rfl rfl (reads_int Tryz.underlying3 (by kernel_rfl)) (by kernel_rfl)))))
structure StpAt (w : World) (A : Nat → Prop) (s : Stp) (ak : Option Addr) (ck : Nat) : Prop where
  keys : kInts.rep A w [.slice ak s.keys.length ck] s.keys
  cap : s.keys.length ≤ ck ∧ ck ≤ 9223372036854775807
  liars : I64 s.liars
  seed : I64 s.seed
theorem i64_wf {x : Int} (h : (Lit.int .i64 x).wf = true) : I64 x := by
  simp [Lit.wf, IntKind.min, IntKind.max, IntKind.signed, IntKind.bits] at h
  unfold I64; omega
theorem stp_open {A : Nat → Prop} {w : World} {cs : List Value} {s : Stp} (h : kStp.rep A w cs s) : ∃ ak ck, cs = [.slice ak s.keys.length ck, .int .i64 s.liars, .int .i64 s.seed] ∧ StpAt w A s ak ck := by
  obtain ⟨c1, _, rfl, h1, _, _, rfl, ⟨rfl, h2⟩, rfl, h3⟩ := h
  have hk : ∃ v, c1 = [v] := by
    rcases h1 with ⟨a, c, rfl, _⟩ | ⟨b, o, c, rfl, _⟩
    · exact ⟨_, rfl⟩
    · exact ⟨_, rfl⟩
  obtain ⟨v, rfl⟩ := hk
  obtain ⟨a, c, rfl, h4, h5, _⟩ := slice_open h1
  exact ⟨a, c, rfl, h1, ⟨h4, h5⟩, i64_wf h2, i64_wf h3⟩
theorem StpAt.upd {A S : Nat → Prop} {w w' : World} {s : Stp} {ak : Option Addr} {ck : Nat} (h : StpAt w A s ak ck) (u : Upd S w w') (hA : ∀ g, A g → ¬ S g) : StpAt w' A s ak ck :=
  ⟨kInts.keep h.keys (Same.of_upd u hA), h.cap, h.liars, h.seed⟩
theorem StpAt.keep {A : Nat → Prop} {w w' : World} {s : Stp} {ak : Option Addr} {ck : Nat} (h : StpAt w A s ak ck) (u : Upd (fun _ => False) w w') : StpAt w' A s ak ck := h.upd u fun _ _ => id
def stpV (s : Stp) (ak : Option Addr) (ck : Nat) : Value := .agg #[.slice ak s.keys.length ck, .int .i64 s.liars, .int .i64 s.seed]

structure AcC where
  a : ActP
  a1 : Option Addr
  a2 : Option Addr
  a3 : Option Addr
  c1 : Nat
  c2 : Nat
  c3 : Nat
def AcC.cells (c : AcC) : List Value := .int .i64 c.a.mark :: ((en13 c.a.en c.a1 c.a2 c.a3 c.c1 c.c2 c.c3).toList ++ [.int .i64 c.a.value])
def acFlat (L : List AcC) : List Value := (L.map AcC.cells).flatten
theorem acFlat_snoc (L : List AcC) (c : AcC) : acFlat (L ++ [c]) = acFlat L ++ c.cells := by unfold acFlat; simp
theorem acFlat_get (L : List AcC) (i : Nat) (h : i < L.length) (j : Nat) (hj : j < 15) : (acFlat L)[i * 15 + j]? = L[i].cells[j]? := flat_get (f := AcC.cells) (n := 15) (fun _ => rfl) L i h j hj
def actsOf (L : List AcC) : List ActP := L.map AcC.a
def ActsAt (w : World) (B : Nat) (v : Value) (L : List AcC) : Prop := w.ownsRow B 184 15 v L.length (acFlat L)
theorem ActsAt.nil {w : World} {B : Nat} : ActsAt w B (.slice none 0 0) [] := World.ownsRow_nil _ _ _ _
theorem ActsAt.get {w : World} {B : Nat} {v : Value} {L : List AcC} (h : ActsAt w B v L) (hp : 0 < L.length) : ∃ g cap, v = .slice (some ⟨g, 0, none⟩) L.length cap ∧ L.length ≤ cap ∧ cap ≤ maxLen ∧ B ≤ g ∧ g < w.heap.size ∧
    ∀ i (hi : i < L.length) j, j < 15 → w.cell? ⟨g, i * 15 + j, none⟩ = L[i].cells[j]? := by
  obtain ⟨h1, ⟨h2, h3⟩ | ⟨g, cap, cur, hv, hb, hg, hn, hc, hs, ht⟩⟩ := h
  · omega
  · refine ⟨g, cap, hv, hn, hc, hb, heap_lt hg, fun i hi j hj => ?_⟩
    rw [cell_of_block hg, ← acFlat_get L i hi j hj, ← ht, List.getElem?_take, if_pos, Array.getElem?_toList]
    calc i * 15 + j < i * 15 + 15 := by omega
      _ = (i + 1) * 15 := by omega
      _ ≤ L.length * 15 := Nat.mul_le_mul_right _ hi
def actZero : Array Value := #[.int .i64 0, .int .i64 0, .int .i64 0, .int .i64 0, .slice none 0 0, .int .i64 0, .int .i64 0, .int .i64 0, .int .i64 0, .int .i64 0, .int .i64 0, .slice none 0 0, .slice none 0 0, .string ⟨#[]⟩, .int .i64 0]
theorem elemAc : ElemTy Tryz.prog 165 184 15 176 := ElemTy.mk' (z := .agg actZero) Tryz.underlying165 (by kernel_rfl) (by rfl) (by decide)
theorem act_index {g cap n k : Nat} (hk : k < n) (_ : n ≤ cap) (_ : cap ≤ 9223372036854775807) (w : World) : (Instr.indexAt 165 (.slice (some ⟨g, 0, none⟩) n cap) (.int .i64 k)).run Tryz.prog w = .ok (.pointer (some ⟨g, k * 15, none⟩)) w := by
  have hki : (k : Int) < n := by omega
  unfold Instr.indexAt
  go_simp
structure ActCs (w : World) (g o : Nat) (c : AcC) : Prop where
  cells : ∀ j, j < 15 → w.cell? ⟨g, o + j, none⟩ = c.cells[j]?
theorem act_load {w : World} {g o : Nat} {c : AcC} (h : ActCs w g o c) : (Instr.loadAt 184 (.pointer (some ⟨g, o, none⟩))).run Tryz.prog w = .ok (.agg c.cells.toArray) w := by
  have k := h.cells
  have n0 : w.cell? ⟨g, o, none⟩ = some (.int .i64 c.a.mark) := k 0 (by decide)
  have n1 : w.cell? ⟨g, o + 1, none⟩ = some (.int .i64 c.a.en.author) := k 1 (by decide)
  have n2 : w.cell? ⟨g, o + 2, none⟩ = some (.int .i64 c.a.en.seq) := k 2 (by decide)
  have n3 : w.cell? ⟨g, o + 3, none⟩ = some (.int .i64 c.a.en.day) := k 3 (by decide)
  have n4 : w.cell? ⟨g, o + 4, none⟩ = some (.slice c.a1 c.a.en.knows.length c.c1) := k 4 (by decide)
  have n5 : w.cell? ⟨g, o + 5, none⟩ = some (.int .i64 c.a.en.kind) := k 5 (by decide)
  have n6 : w.cell? ⟨g, o + 6, none⟩ = some (.int .i64 c.a.en.circle) := k 6 (by decide)
  have n7 : w.cell? ⟨g, o + 7, none⟩ = some (.int .i64 c.a.en.who) := k 7 (by decide)
  have n8 : w.cell? ⟨g, o + 8, none⟩ = some (.int .i64 c.a.en.n) := k 8 (by decide)
  have n9 : w.cell? ⟨g, o + 9, none⟩ = some (.int .i64 c.a.en.m) := k 9 (by decide)
  have n10 : w.cell? ⟨g, o + 10, none⟩ = some (.int .i64 c.a.en.ref) := k 10 (by decide)
  have n11 : w.cell? ⟨g, o + 11, none⟩ = some (.slice c.a2 c.a.en.keys.length c.c2) := k 11 (by decide)
  have n12 : w.cell? ⟨g, o + 12, none⟩ = some (.slice c.a3 c.a.en.spans.length c.c3) := k 12 (by decide)
  have n13 : w.cell? ⟨g, o + 13, none⟩ = some (.string ⟨c.a.en.text.toArray⟩) := k 13 (by decide)
  have n14 : w.cell? ⟨g, o + 14, none⟩ = some (.int .i64 c.a.value) := k 14 (by decide)
  clear k h
  unfold AcC.cells en13
  unfold Instr.loadAt
  go_simp
theorem act_alloc (w : World) : (Instr.alloc 184 true (.tuple #[])).run Tryz.prog w = .ok (.pointer (some ⟨w.heap.size, 0, none⟩)) (w.alloc (.cells actZero 184 (0, 0))) := by
  unfold Instr.alloc actZero
  go_simp
theorem act_store (c : AcC) (w : World) : (Instr.storeAt 184 (.pointer (some ⟨w.heap.size, 0, none⟩)) (.agg c.cells.toArray)).run Tryz.prog (w.alloc (.cells actZero 184 (0, 0))) = .ok () (w.alloc (.cells c.cells.toArray 184 (0, 0))) := by
  unfold AcC.cells en13 actZero
  unfold Instr.storeAt
  go_simp
theorem act_cells {w : World} {b : Nat} {c : AcC} (h : w.heap[b]? = some (.cells c.cells.toArray 184 (0, 0))) : w.cell? ⟨b, 0, none⟩ = some (.int .i64 c.a.mark) ∧ w.cell? ⟨b, 1, none⟩ = some (.int .i64 c.a.en.author) ∧ w.cell? ⟨b, 5, none⟩ = some (.int .i64 c.a.en.kind) ∧
    w.cell? ⟨b, 8, none⟩ = some (.int .i64 c.a.en.n) ∧ w.cell? ⟨b, 9, none⟩ = some (.int .i64 c.a.en.m) ∧ w.cell? ⟨b, 10, none⟩ = some (.int .i64 c.a.en.ref) ∧ w.cell? ⟨b, 14, none⟩ = some (.int .i64 c.a.value) := by
  refine ⟨?_, ?_, ?_, ?_, ?_, ?_, ?_⟩ <;> (rw [cell_of_block h]; rfl)
end Go.Proofs.YtjkmalddfoemhaaGreatDoor
