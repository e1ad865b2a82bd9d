/- More tools: runs of the builtin copy, blocks of numbers, new slices of numbers. -/
import Derived.Test.YtlefilfdomjkeaaGreatDoorFx
import Derived.Deep.LoopGhost
import Derived.Deep.QuietTactic
import Derived.BigQuiet
import Derived.Deep.RegionWith
import Derived.Deep.RegionLaw
import Derived.Deep.Cut
import Derived.Deep.CutRange
import Derived.Deep.DeepCutAuto
import Derived.Lib.SliceRun
import Derived.Laws.OwnMore
import Derived.Laws.IdiomCopy
import Derived.Shelf.Abstract
namespace Go.Proofs.YtlefilfdomjkeaaGreatDoor
open Go.RowKit Go.Deep

/-- A copy of which the run is known. -/
theorem wpList_copy_run {P : Program} {w w' : World} {ops : Array Oper} {rest : List Oper} {o : Oper} {a : Act} {Q : Exit → Act → World → Prop} (hg : o.guard = none) (s x : Operand) (t t' : TypeId)
    (ho : o.op = .call { callee := .builtin .copy, args := #[s, x], argTypes := #[t, t'] }) {v0 v1 v' : Value} (hs : a.eval s = v0) (hx : a.eval x = v1)
    (hrun : (Builtin.copy_ #[t, t'] o.type #[v0, v1]).run P w = .ok v' w') (h : wpList P ops Q rest (a.put o.dst v') w') : wpList P ops Q (o :: rest) a w := by
  refine wpList_plain hg fun K hK' => ?_
  unfold Oper.wp execOp
  simp only [ho, resolve, invoke, builtin, Sem.run_bind, Sem.run_pure, Result.andThen_ok, List.map_toArray, List.map_cons, List.map_nil, hs, hx, hrun]
  exact hK' _ _ h
theorem step_copy_run {P : Program} {ops : Array Oper} {o : Oper} {a : Act} {w w' : World} {K : Act → World → Prop} {Q : Exit → Act → World → Prop} {E : Prop}
    (hg : o.guard = none) (s x : Operand) (t t' : TypeId) (hop : o.op = Op.call { callee := Callee.builtin Builtin.copy, args := #[s, x], argTypes := #[t, t'] })
    {v0 v1 v' : Value} (hs : a.eval s = v0) (hx : a.eval x = v1) (hrun : (Builtin.copy_ #[t, t'] o.type #[v0, v1]).run P w = .ok v' w') (hK : K (a.put o.dst v') w') :
    if Region.wanted o (yielded ops a.tmps) = true then Oper.wp P o a w K Q else E := by
  have hw : Region.wanted o (yielded ops a.tmps) = true := by simp [Region.wanted, hg]
  rw [if_pos hw]
  unfold Oper.wp execOp
  simp only [hop, resolve, invoke, builtin, Sem.run_bind, Sem.run_pure, Result.andThen_ok, List.map_toArray, List.map_cons, List.map_nil, hs, hx, hrun]
  exact hK
theorem step_append_run {P : Program} {ops : Array Oper} {o : Oper} {a : Act} {w w' : World} {K : Act → World → Prop} {Q : Exit → Act → World → Prop} {E : Prop}
    (hg : o.guard = none) (s x : Operand) (t t' : TypeId) (hop : o.op = Op.call { callee := Callee.builtin Builtin.append, args := #[s, x], argTypes := #[t, t'] })
    {v0 v1 v' : Value} (hs : a.eval s = v0) (hx : a.eval x = v1) (hrun : (Builtin.append_ #[t, t'] o.type #[v0, v1]).run P w = .ok v' w') (hK : K (a.put o.dst v') w') :
    if Region.wanted o (yielded ops a.tmps) = true then Oper.wp P o a w K Q else E := by
  have hw : Region.wanted o (yielded ops a.tmps) = true := by simp [Region.wanted, hg]
  rw [if_pos hw]
  unfold Oper.wp execOp
  simp only [hop, resolve, invoke, builtin, Sem.run_bind, Sem.run_pure, Result.andThen_ok, List.map_toArray, List.map_cons, List.map_nil, hs, hx, hrun]
  exact hK

/-- Where the elements of a slice lie that is not empty. -/
theorem slice_at {α : Type} {K : Knd α} {A : Nat → Prop} {w : World} {a : Option Addr} {n cap : Nat} {l : List α} (h : (kSlice K).rep A w [.slice a n cap] l) (hpos : 0 < l.length) :
    ∃ b o, a = some ⟨b, o, none⟩ ∧ A b ∧ Elems K A w b o l := by
  obtain ⟨a', cap', e, _, _, h3⟩ := slice_open h
  injection e with e1 _ _
  subst e1
  exact h3 hpos

/-- What was new may be written. -/
theorem Upd.comp {S T : Nat → Prop} {a b c : World} (h : Upd S a b) (k : Upd T b c) (hT : ∀ i, i < a.heap.size → T i → S i) : Upd S a c :=
  ⟨k.os.trans h.os, k.tape.trans h.tape, k.output.trans h.output, Nat.le_trans h.size k.size, fun i hi hs => (k.block i (Nat.lt_of_lt_of_le hi h.size) fun ht => hs (hT i hi ht)).trans (h.block i hi hs)⟩
theorem Upd.belowN {a b c : World} (h : Upd (fun _ => False) a b) (k : Below a.heap.size b c) : Upd (fun _ => False) a c :=
  h.comp (T := (a.heap.size ≤ ·)) (Upd.of_below k fun i _ hi => by omega) fun i hi ht => by omega

theorem heap_setCells (b : Nat) (t : TypeId) (fr : Nat × Nat) : ∀ (vs : List Value) (o : Nat) (w : World) (cs : List Value), w.heap[b]? = some (.cells cs.toArray t fr) → o + vs.length ≤ cs.length →
    (w.setCells b o vs).heap[b]? = some (.cells (cs.take o ++ (vs ++ cs.drop (o + vs.length))).toArray t fr)
  | [], o, w, cs, h, _ => by
    rw [World.setCells, h]; simp
  | v :: vs, o, w, cs, h, hs => by
    have h1 : (w.setCell ⟨b, o, none⟩ v).heap[b]? = some (.cells (cs.set o v).toArray t fr) := by
      have := heap_setCell_same (p := ⟨b, o, none⟩) (u := v) rfl h
      simpa using this
    have := heap_setCells b t fr vs (o + 1) (w.setCell ⟨b, o, none⟩ v) (cs.set o v) h1 (by simp at hs ⊢; omega)
    rw [World.setCells, this]
    simp only [List.length_cons] at hs ⊢
    congr 3
    rw [List.take_add_one, List.getElem?_set_self (by omega), List.take_set_of_le (Nat.le_refl o), List.drop_set_of_lt (by omega)]
    simp
    rw [show o + 1 + vs.length = o + (vs.length + 1) by omega]
theorem upd_setCells' {S : Nat → Prop} {a : World} (b : Nat) (hb : S b ∨ a.heap.size ≤ b) : ∀ (vs : List Value) (o : Nat) (w : World), Upd S a w → Upd S a (w.setCells b o vs)
  | [], _, _, h => h
  | v :: vs, o, w, h => upd_setCells' b hb vs (o + 1) (w.setCell ⟨b, o, none⟩ v) (h.setCell _ v hb)

theorem wfi {x : Int} (h : (Lit.int .i64 x).wf = true) : -9223372036854775808 ≤ x ∧ x ≤ 9223372036854775807 := bounds_i64 h
theorem iwf {x : Int} (h : -9223372036854775808 ≤ x ∧ x ≤ 9223372036854775807) : (Lit.int .i64 x).wf = true := by simp [Lit.wf, IntKind.min, IntKind.max, IntKind.signed, IntKind.bits]; omega

def kInts : Knd (List Int) := kSlice (kInt .i64)
theorem reads_ints : Reads Tryz.prog 51 kInts := reads_slice Tryz.underlying51 (by kernel_rfl) (reads_int Tryz.underlying3 (by kernel_rfl)) (by decide)
theorem int_cells {k : IntKind} {A : Nat → Prop} {w : World} {b o : Nat} {l : List Int} (h : Elems (kInt k) A w b o l) {j : Nat} (hk : j < l.length) :
    w.cell? ⟨b, o + j, none⟩ = some (.int k l[j]) := by
  obtain ⟨cs, h1, h2⟩ := h.cell hk
  obtain ⟨rfl, _⟩ := h1
  have := h2 0 (Nat.lt_succ_self 0)
  rw [show (kInt k).size = 1 from rfl, Nat.mul_one] at this
  exact this

/-- Block b holds these numbers. -/
def IntsBlk (w : World) (b : Nat) (l : List Int) : Prop := w.heap[b]? = some (.cells (l.map (Value.int .i64)).toArray 3 (0, 0))
theorem IntsBlk.lt {w : World} {b : Nat} {l : List Int} (h : IntsBlk w b l) : b < w.heap.size := heap_lt h
theorem IntsBlk.cell {w : World} {b : Nat} {l : List Int} (h : IntsBlk w b l) {k : Nat} (hk : k < l.length) : w.cell? ⟨b, k, none⟩ = some (.int .i64 l[k]) := by
  rw [cell_of_block h]; simp [hk]
theorem IntsBlk.frozen {w : World} {b : Nat} {l : List Int} (h : IntsBlk w b l) (k : Nat) : w.frozen? ⟨b, k, none⟩ = false := frozen_of_block h
theorem IntsBlk.set {w : World} {b : Nat} {l : List Int} (h : IntsBlk w b l) (k : Nat) (x : Int) : IntsBlk (w.setCell ⟨b, k, none⟩ (.int .i64 x)) b (l.set k x) := by
  have := heap_setCell_same (p := ⟨b, k, none⟩) (u := .int .i64 x) rfl h
  unfold IntsBlk
  rw [this]
  simp [List.map_set]
theorem IntsBlk.upd {S : Nat → Prop} {w w' : World} {b : Nat} {l : List Int} (h : IntsBlk w b l) (u : Upd S w w') (hb : ¬ S b) : IntsBlk w' b l := by
  unfold IntsBlk; rw [u.block b h.lt hb]; exact h
theorem IntsBlk.rep {A : Nat → Prop} {w : World} {b cap : Nat} {l : List Int} (h : IntsBlk w b l) (hwf : ∀ x ∈ l, (Lit.int .i64 x).wf = true) (hc : l.length ≤ cap) (hm : cap ≤ maxLen) (hA : A b) : kInts.rep A w [.slice (some ⟨b, 0, none⟩) l.length cap] l := by
  refine .inr ⟨b, 0, cap, rfl, hc, hm, hA, fun i hi => ⟨_, ⟨rfl, hwf _ (List.getElem_mem hi)⟩, fun j hj => ?_⟩⟩
  have : j = 0 := by simpa using hj
  subst this
  show w.cell? ⟨b, 0 + i * 1 + 0, none⟩ = _
  rw [show 0 + i * 1 + 0 = i by omega, h.cell hi]; rfl

theorem infoI : (Tryz.prog.info? 3).map (fun i => (i.zero, i.size, i.bytes)) = some (some (.int .i64 0), 1, 8) := by kernel_rfl
theorem size1 : (Tryz.prog.info? 3).map (·.size) = some 1 := by kernel_rfl

/-- A new slice of n numbers 0. -/
theorem make_ints (w : World) (n : Nat) (h : n ≤ 100000) : ∃ w1, (Instr.makeSlice 51 (.int .i64 n) (.int .i64 n)).run Tryz.prog w = .ok (.slice (some ⟨w.heap.size, 0, none⟩) n n) w1 ∧ IntsBlk w1 w.heap.size (List.replicate n 0) ∧ Upd (fun _ => False) w w1 := by
  obtain ⟨i0, hi, hz0, hz1, hz2⟩ := info_parts infoI
  obtain ⟨w1, hrun, hown, hgr⟩ := run_make_full (P := Tryz.prog) w w.heap.size 51 3 i0 _ 1 Tryz.underlying51 hi hz0 hz1 .i64 .i64 n (by rw [hz2]; omega) (by unfold maxLen; omega) (Nat.le_refl _)
  obtain ⟨hlen, ⟨he, _⟩ | ⟨g, cap, cur, hv, hg, hcur, hc1, hc2, hc3, hc4⟩⟩ := hown
  · cases he
  injection hv with e1 e2 e3
  injection e1 with e1
  injection e1 with e1 _ _
  subst e1 e3
  have u1 : Upd (fun _ => False) w w1 := ⟨hgr.os, hgr.tape, hgr.output, hgr.size, fun k hk _ => hgr.block k hk (by simp)⟩
  refine ⟨w1, hrun, ?_, u1⟩
  unfold IntsBlk
  rw [hcur]
  have hcu : cur.toList = List.replicate n (.int .i64 0) := by
    have h4 := hc4
    rw [List.take_of_length_le (by simp; omega)] at h4
    rw [h4, Nat.mul_one]
    exact toList_madeCells_one _ n
  have : cur = (List.replicate n (Value.int .i64 0)).toArray := by rw [← hcu]
  rw [this, List.map_replicate]

/-- A copy of numbers into a block of numbers. -/
theorem copy_ints {w : World} {g : Nat} {l new : List Int} (hb : IntsBlk w g l) (o : Nat) (a : Addr) (dLen dCap sLen sCap : Nat) (hn : new.length = min sLen dLen) (ho : o + new.length ≤ l.length)
    (hs : ∀ j (h : j < new.length), w.cell? (a.add j) = some (.int .i64 new[j])) (ty : TypeId) :
    ∃ w', (Builtin.copy_ #[51, 51] ty #[.slice (some ⟨g, o, none⟩) dLen dCap, .slice (some a) sLen sCap]).run Tryz.prog w = .ok (.int .i64 new.length) w' ∧ IntsBlk w' g (l.take o ++ (new ++ l.drop (o + new.length))) ∧ Upd (· = g) w w' := by
  have hr := run_copy_cells (P := Tryz.prog) w 51 51 ty 3 g o dLen dCap a sLen sCap (new.map (.int .i64)) Tryz.underlying51 size1 (by rw [List.length_map]; exact hn) (fun j v hj => by
      rw [List.getElem?_map] at hj
      cases h : new[j]? with
      | none => rw [h] at hj; cases hj
      | some x =>
        rw [h] at hj; injection hj with hj; subst hj
        obtain ⟨hlt, rfl⟩ := List.getElem?_eq_some_iff.1 h
        exact hs j hlt)
    (fun j hj => by rw [List.length_map] at hj; rw [hb.cell (by omega)]; rfl) (fun j _ => hb.frozen _) (fun v hv => by obtain ⟨x, _, rfl⟩ := List.mem_map.1 hv; rfl)
  rw [List.length_map] at hr
  refine ⟨_, hr, ?_, upd_setCells' (S := (· = g)) g (.inl rfl) _ _ _ (Upd.refl _ _)⟩
  have := heap_setCells g 3 (0, 0) (new.map (Value.int .i64)) o w (l.map (.int .i64)) hb (by simpa using ho)
  unfold IntsBlk
  rw [this]
  simp [List.map_take, List.map_drop]
end Go.Proofs.YtlefilfdomjkeaaGreatDoor
