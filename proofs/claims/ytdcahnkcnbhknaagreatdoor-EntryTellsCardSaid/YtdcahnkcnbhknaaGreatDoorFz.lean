/- Appending to a slice that the call owns, one element at a time, and what such a slice reads as. -/
/- More tools: runs of the builtin copy, blocks of numbers, new slices of numbers. -/
/- A region that draws its order, whose operations read and whose callees may draw and lay blocks of their own: walked once, in the text's order. -/
/- A region that draws its order, whose loads all come ahead of what writes their cells: what yields in every world that meets S is taken first, S is shown behind each operation up to operation k alone, for k waits for those loads; what is left comes one after the other. -/
import Derived.Test.YtdcahnkcnbhknaaGreatDoorFw
import Derived.Deep.LoopGhost
import Derived.Deep.QuietTactic
import Derived.BigQuiet
import Derived.Deep.RegionWith
import Derived.Deep.RegionLaw
import Derived.Deep.Cut
import Derived.Deep.CutRange
import Derived.Deep.DeepCutAuto
import Derived.Lib.SliceRun
import Derived.Laws.OwnMore
import Derived.Laws.IdiomCopy
import Derived.Shelf.Abstract
import Derived.OrdersHeld
import Derived.Deep.RegionHeld
namespace Go.Proofs.YtdcahnkcnbhknaaGreatDoor
open Go.RowKit Go.ChangeShapes Go.WideShapes Go.Deep

/-- A string, whatever its length. -/
def kBytes : Knd ByteArray where
  size := 1
  rep _ _ cs x := cs = [.string x]
  len h := by rw [h]; rfl
  keep h _ := h
  mono h _ := h

/-- A slice type and its element type. -/
structure ElemTy (P : Program) (t e : TypeId) (size bytes : Nat) : Prop where
  ht : P.underlying t = some (.slice e)
  hi : ∃ i z, P.info? e = some i ∧ i.zero = some z ∧ i.size = size ∧ i.bytes = bytes ∧ z.cells.size = size
  pos : 0 < size

theorem ElemTy.mk' {P : Program} {t e : TypeId} {size bytes : Nat} {z : Value} (ht : P.underlying t = some (.slice e)) (h : (P.info? e).map (fun i => (i.zero, i.size, i.bytes)) = some (some z, size, bytes)) (hz : z.cells.size = size) (pos : 0 < size) :
    ElemTy P t e size bytes := by
  obtain ⟨i0, hi, hz0, hz1, hz2⟩ := info_parts h
  exact ⟨ht, ⟨i0, z, hi, hz0, hz1, hz2, hz⟩, pos⟩

section
variable {P : Program}

/-- An append to an owned slice: the row stays where it was, or is new. -/
theorem append_own2 {t e : TypeId} {size bytes : Nat} (T : ElemTy P t e size bytes) {w : World} {base : Nat} {v : Value} {n : Nat} {xs : List Value} (hown : w.ownsRow base e size v n xs)
    (ad : Addr) (m c : Nat) (news : List Value) (hl : news.length = m * size) (hnews : ∀ j u, news[j]? = some u → w.cell? (ad.add j) = some u) (h1 : ∀ u ∈ news, u.oneCell' = true)
    (h63 : n + m ≤ maxLen) (hbytes : (n + m) * bytes ≤ 140737488355328) (hbase : base ≤ w.heap.size) (ty : TypeId) :
    ∃ v' w', (Builtin.append_ #[t, t] ty #[v, .slice (some ad) m c]).run P w = .ok v' w' ∧ w'.ownsRow base e size v' (n + m) (xs ++ news) ∧ w.grownBy w' v.ownBlock ∧
      (v'.ownBlock = v.ownBlock ∨ ∃ g, v'.ownBlock = some g ∧ w.heap.size ≤ g) := by
  obtain ⟨ht, ⟨i, z, hi, hz, hsz, hby, hzs⟩, hpos⟩ := T
  obtain ⟨v', w', hr, h2, h3, h4⟩ := run_append_own (P := P) w base t ty e i z size bytes ht hi hz hsz hby hzs hpos v n xs hown ad m c news hl hnews h1 h63 hbytes hbase
  refine ⟨v', w', hr, h2, h3, ?_⟩
  rcases hown.2 with ⟨rfl, rfl⟩ | ⟨g, cap, cur, rfl, hbg, hg, hnc, hcm, hcs, htake⟩
  · by_cases hm : m = 0
    · exact .inl (by rw [h4.2 ⟨rfl, hm⟩])
    · have hr2 := run_append_nil (P := P) w t ty e i z ht hi hz ad m c news (by rw [hsz]; exact hl) hnews (by omega) (by unfold maxLen at h63; omega) (by rw [hby]; simp only [Nat.zero_add] at hbytes; omega)
      rw [hr2] at hr
      injection hr with hv _
      exact .inr ⟨_, by rw [← hv]; rfl, Nat.le_refl _⟩
  · by_cases hroom : n + m ≤ cap
    · have hfit : n * i.size + news.length ≤ cur.size := by rw [hl, hcs, hsz, ← Nat.add_mul]; exact Nat.mul_le_mul_right _ hroom
      have hr2 := run_append_room (P := P) w t ty e i ht hi g n cap cur hg ad m c news (by rw [hsz]; exact hl) hnews h1 hroom hfit
      rw [hr2] at hr
      injection hr with hv _
      exact .inl (by rw [← hv]; rfl)
    · have holds : ∀ j u, xs[j]? = some u → w.cell? ((⟨g, 0, none⟩ : Addr).add j) = some u := hown.cells (g := g) rfl
      have hr2 := run_append_grow (P := P) w t ty e i z ht hi hz ⟨g, 0, none⟩ n cap xs (by rw [hsz]; exact hown.1) holds ad m c news (by rw [hsz]; exact hl) hnews (by omega) (by unfold maxLen at h63; omega) (growslice_fits (by omega) (by rw [hby]; exact hbytes))
      rw [hr2] at hr
      injection hr with hv _
      exact .inr ⟨_, by rw [← hv]; rfl, Nat.le_refl _⟩

/-- An append of one element, whose cells the statement has just laid in a new block. -/
theorem append_one {t e : TypeId} {size bytes : Nat} (T : ElemTy P t e size bytes) {w : World} {base : Nat} {v : Value} {n : Nat} {xs : List Value} (hown : w.ownsRow base e size v n xs)
    (cells : Array Value) (hc : cells.size = size) (h1 : ∀ u ∈ cells, u.oneCell' = true) (h63 : n + 1 ≤ maxLen) (hbytes : (n + 1) * bytes ≤ 140737488355328) (hbase : base ≤ w.heap.size) (ty : TypeId) (fr : Nat × Nat) :
    ∃ v' w', (Builtin.append_ #[t, t] ty #[v, .slice (some ⟨w.heap.size, 0, none⟩) 1 1]).run P (w.alloc (.cells cells e fr)) = .ok v' w' ∧ w'.ownsRow base e size v' (n + 1) (xs ++ cells.toList) ∧
      Upd (fun k => v.ownBlock = some k) w w' ∧ (v'.ownBlock = v.ownBlock ∨ ∃ g, v'.ownBlock = some g ∧ w.heap.size < g) := by
  obtain ⟨v', w', hr, h2, h3, h4⟩ := append_own2 T (hown.alloc (.cells cells e fr)) ⟨w.heap.size, 0, none⟩ 1 1 cells.toList (by simp [hc]) (fun j u hu => by
    have e1 : Addr.add ⟨w.heap.size, 0, none⟩ j = ⟨w.heap.size, j, none⟩ := by unfold Addr.add; split <;> simp_all
    rw [e1, cell_of_block heap_alloc_new]
    simpa using hu) (by simpa using h1) h63 hbytes (by simp; omega) ty
  refine ⟨v', w', hr, h2, ((Upd.refl _ w).alloc _).grown h3 (fun k hk => .inl hk), ?_⟩
  rcases h4 with h4 | ⟨g, hg, hs⟩
  · exact .inl h4
  · exact .inr ⟨g, hg, by simp at hs; omega⟩

theorem ownsRow_upd {S : Nat → Prop} {w w' : World} {base : Nat} {e : TypeId} {size : Nat} {v : Value} {n : Nat} {xs : List Value} (h : w.ownsRow base e size v n xs) (u : Upd S w w') (hS : ∀ g, v.ownBlock = some g → ¬ S g) :
    w'.ownsRow base e size v n xs := by
  obtain ⟨h1, h2⟩ := h
  refine ⟨h1, ?_⟩
  rcases h2 with h2 | ⟨g, cap, cur, rfl, hb, hg, r⟩
  · exact .inl h2
  · exact .inr ⟨g, cap, cur, rfl, hb, by rw [u.block g (heap_lt hg) (hS g rfl)]; exact hg, r⟩

theorem ownsRow_fits {w : World} {base : Nat} {e : TypeId} {size : Nat} {v : Value} {n : Nat} {xs : List Value} (h : w.ownsRow base e size v n xs) : (v = .slice none 0 0 ∧ n = 0) ∨ ∃ g cap, v = .slice (some ⟨g, 0, none⟩) n cap ∧ base ≤ g ∧ g < w.heap.size ∧ n ≤ cap ∧ cap ≤ maxLen := by
  rcases h.2 with h2 | ⟨g, cap, cur, rfl, hb, hg, h3, h4, _⟩
  · exact .inl h2
  · exact .inr ⟨g, cap, rfl, hb, heap_lt hg, h3, h4⟩

/-- An owned slice reads as its elements. -/
theorem ownsRow_rep {α : Type} {K : Knd α} {A : Nat → Prop} {w : World} {base : Nat} {e : TypeId} {v : Value} {l : List α} {xs : List Value} (h : w.ownsRow base e K.size v l.length xs)
    (hx : ∀ i (hi : i < l.length), ∃ cs, K.rep A w cs l[i] ∧ ∀ j, j < K.size → xs[i * K.size + j]? = cs[j]?) (hA : ∀ g, v.ownBlock = some g → A g) : (kSlice K).rep A w [v] l := by
  obtain ⟨h1, ⟨rfl, h0⟩ | ⟨g, cap, cur, rfl, hb, hg, hn, hc, hs, ht⟩⟩ := h
  · exact .inl ⟨none, 0, rfl, Nat.zero_le _, List.length_eq_zero_iff.1 h0⟩
  · refine .inr ⟨g, 0, cap, rfl, hn, hc, hA g rfl, fun i hi => ?_⟩
    obtain ⟨cs, r, hcs⟩ := hx i hi
    refine ⟨cs, r, fun j hj => ?_⟩
    rw [K.len r] at hj
    rw [← hcs j hj, cell_of_block hg, ← ht, List.getElem?_take, if_pos, Nat.zero_add, Array.getElem?_toList]
    calc i * K.size + j < i * K.size + K.size := by omega
      _ = (i + 1) * K.size := by rw [Nat.add_mul, Nat.one_mul]
      _ ≤ l.length * K.size := Nat.mul_le_mul_right _ hi

theorem ownsRow_rep1 {α : Type} {K : Knd α} (h1 : K.size = 1) {A : Nat → Prop} {w : World} {base : Nat} {e : TypeId} {v : Value} {l : List α} (f : α → Value) (h : w.ownsRow base e 1 v l.length (l.map f))
    (hx : ∀ x ∈ l, K.rep A w [f x] x) (hA : ∀ g, v.ownBlock = some g → A g) : (kSlice K).rep A w [v] l := by
  refine ownsRow_rep (e := e) (xs := l.map f) (by rw [h1]; exact h) (fun i hi => ⟨_, hx _ (List.getElem_mem hi), fun j hj => ?_⟩) hA
  rw [h1] at hj ⊢
  obtain rfl : j = 0 := by omega
  simp [hi]
end
end Go.Proofs.YtdcahnkcnbhknaaGreatDoor
namespace Go.Proofs.YtdcahnkcnbhknaaGreatDoor
open Go.RowKit Go.Deep

/-- A copy of which the run is known. -/
theorem wpList_copy_run {P : Program} {w w' : World} {ops : Array Oper} {rest : List Oper} {o : Oper} {a : Act} {Q : Exit → Act → World → Prop} (hg : o.guard = none) (s x : Operand) (t t' : TypeId)
    (ho : o.op = .call { callee := .builtin .copy, args := #[s, x], argTypes := #[t, t'] }) {v0 v1 v' : Value} (hs : a.eval s = v0) (hx : a.eval x = v1)
    (hrun : (Builtin.copy_ #[t, t'] o.type #[v0, v1]).run P w = .ok v' w') (h : wpList P ops Q rest (a.put o.dst v') w') : wpList P ops Q (o :: rest) a w := by
  refine wpList_plain hg fun K hK' => ?_
  unfold Oper.wp execOp
  simp only [ho, resolve, invoke, builtin, Sem.run_bind, Sem.run_pure, Result.andThen_ok, List.map_toArray, List.map_cons, List.map_nil, hs, hx, hrun]
  exact hK' _ _ h
theorem step_copy_run {P : Program} {ops : Array Oper} {o : Oper} {a : Act} {w w' : World} {K : Act → World → Prop} {Q : Exit → Act → World → Prop} {E : Prop}
    (hg : o.guard = none) (s x : Operand) (t t' : TypeId) (hop : o.op = Op.call { callee := Callee.builtin Builtin.copy, args := #[s, x], argTypes := #[t, t'] })
    {v0 v1 v' : Value} (hs : a.eval s = v0) (hx : a.eval x = v1) (hrun : (Builtin.copy_ #[t, t'] o.type #[v0, v1]).run P w = .ok v' w') (hK : K (a.put o.dst v') w') :
    if Region.wanted o (yielded ops a.tmps) = true then Oper.wp P o a w K Q else E := by
  have hw : Region.wanted o (yielded ops a.tmps) = true := by simp [Region.wanted, hg]
  rw [if_pos hw]
  unfold Oper.wp execOp
  simp only [hop, resolve, invoke, builtin, Sem.run_bind, Sem.run_pure, Result.andThen_ok, List.map_toArray, List.map_cons, List.map_nil, hs, hx, hrun]
  exact hK
theorem step_append_run {P : Program} {ops : Array Oper} {o : Oper} {a : Act} {w w' : World} {K : Act → World → Prop} {Q : Exit → Act → World → Prop} {E : Prop}
    (hg : o.guard = none) (s x : Operand) (t t' : TypeId) (hop : o.op = Op.call { callee := Callee.builtin Builtin.append, args := #[s, x], argTypes := #[t, t'] })
    {v0 v1 v' : Value} (hs : a.eval s = v0) (hx : a.eval x = v1) (hrun : (Builtin.append_ #[t, t'] o.type #[v0, v1]).run P w = .ok v' w') (hK : K (a.put o.dst v') w') :
    if Region.wanted o (yielded ops a.tmps) = true then Oper.wp P o a w K Q else E := by
  have hw : Region.wanted o (yielded ops a.tmps) = true := by simp [Region.wanted, hg]
  rw [if_pos hw]
  unfold Oper.wp execOp
  simp only [hop, resolve, invoke, builtin, Sem.run_bind, Sem.run_pure, Result.andThen_ok, List.map_toArray, List.map_cons, List.map_nil, hs, hx, hrun]
  exact hK

/-- Where the elements of a slice lie that is not empty. -/
theorem slice_at {α : Type} {K : Knd α} {A : Nat → Prop} {w : World} {a : Option Addr} {n cap : Nat} {l : List α} (h : (kSlice K).rep A w [.slice a n cap] l) (hpos : 0 < l.length) :
    ∃ b o, a = some ⟨b, o, none⟩ ∧ A b ∧ Elems K A w b o l := by
  obtain ⟨a', cap', e, _, _, h3⟩ := slice_open h
  injection e with e1 _ _
  subst e1
  exact h3 hpos

/-- What was new may be written. -/
theorem Upd.comp {S T : Nat → Prop} {a b c : World} (h : Upd S a b) (k : Upd T b c) (hT : ∀ i, i < a.heap.size → T i → S i) : Upd S a c :=
  ⟨k.os.trans h.os, k.tape.trans h.tape, k.output.trans h.output, Nat.le_trans h.size k.size, fun i hi hs => (k.block i (Nat.lt_of_lt_of_le hi h.size) fun ht => hs (hT i hi ht)).trans (h.block i hi hs)⟩
theorem Upd.belowN {a b c : World} (h : Upd (fun _ => False) a b) (k : Below a.heap.size b c) : Upd (fun _ => False) a c :=
  h.comp (T := (a.heap.size ≤ ·)) (Upd.of_below k fun i _ hi => by omega) fun i hi ht => by omega

theorem heap_setCells (b : Nat) (t : TypeId) (fr : Nat × Nat) : ∀ (vs : List Value) (o : Nat) (w : World) (cs : List Value), w.heap[b]? = some (.cells cs.toArray t fr) → o + vs.length ≤ cs.length →
    (w.setCells b o vs).heap[b]? = some (.cells (cs.take o ++ (vs ++ cs.drop (o + vs.length))).toArray t fr)
  | [], o, w, cs, h, _ => by
    rw [World.setCells, h]; simp
  | v :: vs, o, w, cs, h, hs => by
    have h1 : (w.setCell ⟨b, o, none⟩ v).heap[b]? = some (.cells (cs.set o v).toArray t fr) := by
      have := heap_setCell_same (p := ⟨b, o, none⟩) (u := v) rfl h
      simpa using this
    have := heap_setCells b t fr vs (o + 1) (w.setCell ⟨b, o, none⟩ v) (cs.set o v) h1 (by simp at hs ⊢; omega)
    rw [World.setCells, this]
    simp only [List.length_cons] at hs ⊢
    congr 3
    rw [List.take_add_one, List.getElem?_set_self (by omega), List.take_set_of_le (Nat.le_refl o), List.drop_set_of_lt (by omega)]
    simp
    rw [show o + 1 + vs.length = o + (vs.length + 1) by omega]
theorem upd_setCells' {S : Nat → Prop} {a : World} (b : Nat) (hb : S b ∨ a.heap.size ≤ b) : ∀ (vs : List Value) (o : Nat) (w : World), Upd S a w → Upd S a (w.setCells b o vs)
  | [], _, _, h => h
  | v :: vs, o, w, h => upd_setCells' b hb vs (o + 1) (w.setCell ⟨b, o, none⟩ v) (h.setCell _ v hb)

theorem wfi {x : Int} (h : (Lit.int .i64 x).wf = true) : -9223372036854775808 ≤ x ∧ x ≤ 9223372036854775807 := bounds_i64 h
theorem iwf {x : Int} (h : -9223372036854775808 ≤ x ∧ x ≤ 9223372036854775807) : (Lit.int .i64 x).wf = true := by simp [Lit.wf, IntKind.min, IntKind.max, IntKind.signed, IntKind.bits]; omega

def kInts : Knd (List Int) := kSlice (kInt .i64)
theorem reads_ints : Reads Tryz.prog 22 kInts := reads_slice Tryz.underlying22 (by kernel_rfl) (reads_int Tryz.underlying3 (by kernel_rfl)) (by decide)
theorem int_cells {k : IntKind} {A : Nat → Prop} {w : World} {b o : Nat} {l : List Int} (h : Elems (kInt k) A w b o l) {j : Nat} (hk : j < l.length) :
    w.cell? ⟨b, o + j, none⟩ = some (.int k l[j]) := by
  obtain ⟨cs, h1, h2⟩ := h.cell hk
  obtain ⟨rfl, _⟩ := h1
  have := h2 0 (Nat.lt_succ_self 0)
  rw [show (kInt k).size = 1 from rfl, Nat.mul_one] at this
  exact this

/-- Block b holds these numbers. -/
def IntsBlk (w : World) (b : Nat) (l : List Int) : Prop := w.heap[b]? = some (.cells (l.map (Value.int .i64)).toArray 3 (0, 0))
theorem IntsBlk.lt {w : World} {b : Nat} {l : List Int} (h : IntsBlk w b l) : b < w.heap.size := heap_lt h
theorem IntsBlk.cell {w : World} {b : Nat} {l : List Int} (h : IntsBlk w b l) {k : Nat} (hk : k < l.length) : w.cell? ⟨b, k, none⟩ = some (.int .i64 l[k]) := by
  rw [cell_of_block h]; simp [hk]
theorem IntsBlk.frozen {w : World} {b : Nat} {l : List Int} (h : IntsBlk w b l) (k : Nat) : w.frozen? ⟨b, k, none⟩ = false := frozen_of_block h
theorem IntsBlk.set {w : World} {b : Nat} {l : List Int} (h : IntsBlk w b l) (k : Nat) (x : Int) : IntsBlk (w.setCell ⟨b, k, none⟩ (.int .i64 x)) b (l.set k x) := by
  have := heap_setCell_same (p := ⟨b, k, none⟩) (u := .int .i64 x) rfl h
  unfold IntsBlk
  rw [this]
  simp [List.map_set]
theorem IntsBlk.upd {S : Nat → Prop} {w w' : World} {b : Nat} {l : List Int} (h : IntsBlk w b l) (u : Upd S w w') (hb : ¬ S b) : IntsBlk w' b l := by
  unfold IntsBlk; rw [u.block b h.lt hb]; exact h
theorem IntsBlk.rep {A : Nat → Prop} {w : World} {b cap : Nat} {l : List Int} (h : IntsBlk w b l) (hwf : ∀ x ∈ l, (Lit.int .i64 x).wf = true) (hc : l.length ≤ cap) (hm : cap ≤ maxLen) (hA : A b) : kInts.rep A w [.slice (some ⟨b, 0, none⟩) l.length cap] l := by
  refine .inr ⟨b, 0, cap, rfl, hc, hm, hA, fun i hi => ⟨_, ⟨rfl, hwf _ (List.getElem_mem hi)⟩, fun j hj => ?_⟩⟩
  have : j = 0 := by simpa using hj
  subst this
  show w.cell? ⟨b, 0 + i * 1 + 0, none⟩ = _
  rw [show 0 + i * 1 + 0 = i by omega, h.cell hi]; rfl

theorem infoI : (Tryz.prog.info? 3).map (fun i => (i.zero, i.size, i.bytes)) = some (some (.int .i64 0), 1, 8) := by kernel_rfl
theorem size1 : (Tryz.prog.info? 3).map (·.size) = some 1 := by kernel_rfl

/-- A new slice of n numbers 0. -/
theorem make_ints (w : World) (n : Nat) (h : n ≤ 100000) : ∃ w1, (Instr.makeSlice 22 (.int .i64 n) (.int .i64 n)).run Tryz.prog w = .ok (.slice (some ⟨w.heap.size, 0, none⟩) n n) w1 ∧ IntsBlk w1 w.heap.size (List.replicate n 0) ∧ Upd (fun _ => False) w w1 := by
  obtain ⟨i0, hi, hz0, hz1, hz2⟩ := info_parts infoI
  obtain ⟨w1, hrun, hown, hgr⟩ := run_make_full (P := Tryz.prog) w w.heap.size 22 3 i0 _ 1 Tryz.underlying22 hi hz0 hz1 .i64 .i64 n (by rw [hz2]; omega) (by unfold maxLen; omega) (Nat.le_refl _)
  obtain ⟨hlen, ⟨he, _⟩ | ⟨g, cap, cur, hv, hg, hcur, hc1, hc2, hc3, hc4⟩⟩ := hown
  · cases he
  injection hv with e1 e2 e3
  injection e1 with e1
  injection e1 with e1 _ _
  subst e1 e3
  have u1 : Upd (fun _ => False) w w1 := ⟨hgr.os, hgr.tape, hgr.output, hgr.size, fun k hk _ => hgr.block k hk (by simp)⟩
  refine ⟨w1, hrun, ?_, u1⟩
  unfold IntsBlk
  rw [hcur]
  have hcu : cur.toList = List.replicate n (.int .i64 0) := by
    have h4 := hc4
    rw [List.take_of_length_le (by simp; omega)] at h4
    rw [h4, Nat.mul_one]
    exact toList_madeCells_one _ n
  have : cur = (List.replicate n (Value.int .i64 0)).toArray := by rw [← hcu]
  rw [this, List.map_replicate]

/-- A copy of numbers into a block of numbers. -/
theorem copy_ints {w : World} {g : Nat} {l new : List Int} (hb : IntsBlk w g l) (o : Nat) (a : Addr) (dLen dCap sLen sCap : Nat) (hn : new.length = min sLen dLen) (ho : o + new.length ≤ l.length)
    (hs : ∀ j (h : j < new.length), w.cell? (a.add j) = some (.int .i64 new[j])) (ty : TypeId) :
    ∃ w', (Builtin.copy_ #[22, 22] ty #[.slice (some ⟨g, o, none⟩) dLen dCap, .slice (some a) sLen sCap]).run Tryz.prog w = .ok (.int .i64 new.length) w' ∧ IntsBlk w' g (l.take o ++ (new ++ l.drop (o + new.length))) ∧ Upd (· = g) w w' := by
  have hr := run_copy_cells (P := Tryz.prog) w 22 22 ty 3 g o dLen dCap a sLen sCap (new.map (.int .i64)) Tryz.underlying22 size1 (by rw [List.length_map]; exact hn) (fun j v hj => by
      rw [List.getElem?_map] at hj
      cases h : new[j]? with
      | none => rw [h] at hj; cases hj
      | some x =>
        rw [h] at hj; injection hj with hj; subst hj
        obtain ⟨hlt, rfl⟩ := List.getElem?_eq_some_iff.1 h
        exact hs j hlt)
    (fun j hj => by rw [List.length_map] at hj; rw [hb.cell (by omega)]; rfl) (fun j _ => hb.frozen _) (fun v hv => by obtain ⟨x, _, rfl⟩ := List.mem_map.1 hv; rfl)
  rw [List.length_map] at hr
  refine ⟨_, hr, ?_, upd_setCells' (S := (· = g)) g (.inl rfl) _ _ _ (Upd.refl _ _)⟩
  have := heap_setCells g 3 (0, 0) (new.map (Value.int .i64)) o w (l.map (.int .i64)) hb (by simpa using ho)
  unfold IntsBlk
  rw [this]
  simp [List.map_take, List.map_drop]
end Go.Proofs.YtdcahnkcnbhknaaGreatDoor
namespace Go.Proofs.YtdcahnkcnbhknaaGreatDoor
open Go.RowKit Go.Deep

/-- A world in which all that was is as it was. -/
structure UW (W : World) where
  w : World
  u : Upd (fun _ => False) W w
instance {W : World} : Inhabited (UW W) := ⟨⟨W, Upd.refl _ _⟩⟩
theorem UW.cell {W : World} {a : Addr} {v : Value} (h : W.cell? a = some v) (p : UW W) : p.w.cell? a = some v := cell_kept h (p.u.block _ (World.block_lt_of_cell? _ _ h) id)
theorem region_upd {P : Program} {id : Nat} {Q : Exit → Act → World → Prop} {a : Act} {w : World} {l : List Oper} (hm : P.follows .mixedOrders = true) (hB : Region.lexB .any l.toArray = true)
    (h : wpQuiet P l.toArray (fun w' => ∃ p : UW w, w' = p.w) (fun a' => ∀ w', (∃ p : UW w, w' = p.w) → Q .normal a' w') l a) : (Code.region id l.toArray true).wp P Q a w :=
  wp_region_quiet (C := fun w' => ∃ p : UW w, w' = p.w) hm hB ⟨⟨w.drew, (Upd.refl _ _).drew⟩, rfl⟩ (by simpa using h)
/-- A callee's contract, met in a world of the class. -/
theorem Calls.upd_of {P : Program} {f : FuncId} {args : Array Value} {w : World} {p : UW w} {v : Value} (h : Calls P f args p.w fun e w' => e = .returned v ∧ Upd (fun _ => False) p.w w') :
    Calls P f args p.w fun e w'' => e = .returned v ∧ ∃ q : UW w, w'' = q.w :=
  h.mono fun _ _ ⟨he, u⟩ => ⟨he, ⟨⟨_, p.u.trans u⟩, rfl⟩⟩
theorem Calls.upd_same {P : Program} {f : FuncId} {args : Array Value} {w : World} {p : UW w} {v : Value} (h : Calls P f args p.w fun e w' => e = .returned v ∧ p.w = w') :
    Calls P f args p.w fun e w'' => e = .returned v ∧ ∃ q : UW w, w'' = q.w :=
  h.mono fun _ _ ⟨he, u⟩ => ⟨he, ⟨p, u.symm⟩⟩
theorem uw_out {W w' : World} {Q : Prop} (h : ∃ p : UW W, w' = p.w) (k : ∀ w1, Upd (fun _ => False) W w1 → w' = w1 → Q) : Q := let ⟨p, e⟩ := h; k p.w p.u e
end Go.Proofs.YtdcahnkcnbhknaaGreatDoor
namespace Go.Proofs.YtdcahnkcnbhknaaGreatDoor
open Go

section
variable {P : Program} {ops : Array Oper} {Q : Exit → Act → World → Prop} {md : Region.Mode} {S : World → Prop} {k : Nat}

def wpAnyG (P : Program) (md : Region.Mode) (ops : Array Oper) (Q : Exit → Act → World → Prop) (S : World → Prop) (k : Nat) : Nat → Array Bool → Act → World → Prop
  | 0, listed, a, w => Region.ready md ops listed = [] ∧ Q .normal a w
  | fuel + 1, listed, a, w =>
    (Region.ready md ops listed = [] → Q .normal a w) ∧
    ∀ i ∈ Region.ready md ops listed, wpOp P ops Q i (fun a' w' => ((listed.setIfInBounds i true).getD k true = false → S w') ∧ wpAnyG P md ops Q S k fuel (listed.setIfInBounds i true) a' w') a w
theorem wpAny_of_g : ∀ (fuel : Nat) (listed : Array Bool) (a : Act) (w : World), wpAnyG P md ops Q S k fuel listed a w → wpAny P md ops Q fuel listed a w
  | 0, _, _, _, h => h
  | fuel + 1, _, _, _, h => ⟨h.1, fun i hi => wpOp_mono (fun a' w' h' => wpAny_of_g fuel _ a' w' h'.2) (h.2 i hi)⟩
theorem wp_region_g {id : Nat} {a : Act} {w : World} (S : World → Prop) (k : Nat) (hm : P.follows .mixedOrders = true) (h : wpAnyG P .any ops Q S k ops.size (Array.replicate ops.size false) a w.drew) : (Code.region id ops true).wp P Q a w :=
  wp_region_any hm (wpAny_of_g _ _ _ _ h)

theorem ready_not {i j : Nat} {oj : Oper} {listed : Array Bool} (hr : i ∈ Region.ready md ops listed) (hj : j ∈ Region.ready md ops listed) (hoj : ops[j]? = some oj) : ∀ e ∈ oj.after, Region.binds md e = true → e.on ≠ i := fun e he hb heq => by
  obtain ⟨_, oj', hoj', hall⟩ := mem_ready.1 hj
  rw [hoj] at hoj'
  injection hoj' with hoj'
  subst hoj'
  have h1 := hall e he hb
  have h0 := (mem_ready.1 hr).1
  rw [heq] at h1
  rcases Nat.lt_or_ge i listed.size with h' | h'
  · simp [h'] at h0 h1; rw [h0] at h1; cases h1
  · simp [Array.getElem?_eq_none h'] at h1

/-- What yields in every world that meets S, where k waits for it. -/
theorem wpAnyG_first {i : Nat} {oi ok : Oper} {v : Value} (hi : ops[i]? = some oi) (hok : ops[k]? = some ok) (hki : k ≠ i) (hwait : ∃ e ∈ ok.after, Region.binds md e = true ∧ e.on = i)
    (hsel : ∀ (j : Nat) (o : Oper) cs b, ops[j]? = some o → o.op ≠ .select cs b) (hQ : ∀ c a w, Q (.panic c) (a.put oi.dst v) w → Q (.panic c) a w) :
    ∀ (fuel : Nat) (listed : Array Bool) (a : Act) (w : World),
      (∀ j oj, ops[j]? = some oj → j ≠ i → listed.getD j true = false → (∀ e ∈ oj.after, Region.binds md e = true → e.on ≠ i) → oi.apart ops oj = true) →
      i ∈ Region.ready md ops listed → listed.getD k true = false → YieldsIf P ops S oi v a → S w →
      wpAnyG P md ops Q S k fuel (listed.setIfInBounds i true) (a.put oi.dst v) w → wpAnyG P md ops Q S k (fuel + 1) listed a w := by
  intro fuel
  induction fuel with
  | zero =>
    intro listed a w _ hr hkl hy hS H
    refine ⟨fun h => (by rw [h] at hr; cases hr), fun j hj => ?_⟩
    by_cases hji : j = i
    · subst hji; exact hy.wpOp hi hS ⟨fun _ => hS, H⟩
    · have := ready_mono hj hji
      rw [H.1] at this
      cases this
  | succ fuel ih =>
    intro listed a w hfree hr hkl hy hS H
    refine ⟨fun h => (by rw [h] at hr; cases hr), fun j hj => ?_⟩
    by_cases hji : j = i
    · subst hji; exact hy.wpOp hi hS ⟨fun _ => hS, H⟩
    · have h1 := H.2 j (ready_mono hj hji)
      obtain ⟨hjun, oj, hoj, hall⟩ := mem_ready.1 hj
      have hnot := ready_not hr hj hoj
      have hjk : j ≠ k := fun e => by
        subst e
        rw [hoj] at hok
        injection hok with hok
        subst hok
        obtain ⟨e, he, hb, hon⟩ := hwait
        exact hnot e he hb hon
      have h2 := wpOp_putIf hoj (hfree j oj hoj hji hjun hnot) (fun cs b => hsel i oi cs b hi) (fun cs b => hsel j oj cs b hoj) hQ hy h1
      have hfree' : ∀ k ok, ops[k]? = some ok → k ≠ i → (listed.setIfInBounds j true).getD k true = false →
          (∀ e ∈ ok.after, Region.binds md e = true → e.on ≠ i) → oi.apart ops ok = true := fun k ok hk hki hun hno => by
        refine hfree k ok hk hki ?_ hno
        by_cases hjk : j = k
        · subst hjk; exact hjun
        · rw [getD_set_ne true hjk] at hun; exact hun
      have hg : ((listed.setIfInBounds i true).setIfInBounds j true).getD k true = false := by
        rw [getD_set_ne true hjk, getD_set_ne true (Ne.symm hki)]; exact hkl
      have hg' : (listed.setIfInBounds j true).getD k true = false := by rw [getD_set_ne true hjk]; exact hkl
      refine wpOp_mono (fun a' w' h3 => ⟨fun _ => h3.2.1 hg, ih (listed.setIfInBounds j true) a' w' hfree' (ready_mono hr (Ne.symm hji)) hg' h3.1 (h3.2.1 hg) ?_⟩) h2
      rw [Array.setIfInBounds_comm _ _ hji]
      exact h3.2.2

/-- What yields in whatever world. -/
theorem wpAnyG_first0 {i : Nat} {oi : Oper} {v : Value} (hi : ops[i]? = some oi) (hki : k ≠ i)
    (hsel : ∀ (j : Nat) (o : Oper) cs b, ops[j]? = some o → o.op ≠ .select cs b) (hQ : ∀ c a w, Q (.panic c) (a.put oi.dst v) w → Q (.panic c) a w) :
    ∀ (fuel : Nat) (listed : Array Bool) (a : Act) (w : World),
      (∀ j oj, ops[j]? = some oj → j ≠ i → listed.getD j true = false → (∀ e ∈ oj.after, Region.binds md e = true → e.on ≠ i) → oi.apart ops oj = true) →
      i ∈ Region.ready md ops listed → YieldsIf P ops (fun _ => True) oi v a → (listed.getD k true = false → S w) →
      wpAnyG P md ops Q S k fuel (listed.setIfInBounds i true) (a.put oi.dst v) w → wpAnyG P md ops Q S k (fuel + 1) listed a w := by
  intro fuel
  induction fuel with
  | zero =>
    intro listed a w _ hr hy hS H
    refine ⟨fun h => (by rw [h] at hr; cases hr), fun j hj => ?_⟩
    by_cases hji : j = i
    · subst hji; exact hy.wpOp hi trivial ⟨fun h => hS (by rw [getD_set_ne true (Ne.symm hki)] at h; exact h), H⟩
    · have := ready_mono hj hji
      rw [H.1] at this
      cases this
  | succ fuel ih =>
    intro listed a w hfree hr hy hS H
    refine ⟨fun h => (by rw [h] at hr; cases hr), fun j hj => ?_⟩
    by_cases hji : j = i
    · subst hji; exact hy.wpOp hi trivial ⟨fun h => hS (by rw [getD_set_ne true (Ne.symm hki)] at h; exact h), H⟩
    · have h1 := H.2 j (ready_mono hj hji)
      obtain ⟨hjun, oj, hoj, hall⟩ := mem_ready.1 hj
      have hnot := ready_not hr hj hoj
      have h2 := wpOp_putIf hoj (hfree j oj hoj hji hjun hnot) (fun cs b => hsel i oi cs b hi) (fun cs b => hsel j oj cs b hoj) hQ hy h1
      have hfree' : ∀ k ok, ops[k]? = some ok → k ≠ i → (listed.setIfInBounds j true).getD k true = false →
          (∀ e ∈ ok.after, Region.binds md e = true → e.on ≠ i) → oi.apart ops ok = true := fun k ok hk hki hun hno => by
        refine hfree k ok hk hki ?_ hno
        by_cases hjk : j = k
        · subst hjk; exact hjun
        · rw [getD_set_ne true hjk] at hun; exact hun
      have hg : (listed.setIfInBounds j true).getD k true = false → ((listed.setIfInBounds i true).setIfInBounds j true).getD k true = false := fun h => by
        rw [← Array.setIfInBounds_comm _ _ hji, getD_set_ne true (Ne.symm hki)]; exact h
      refine wpOp_mono (fun a' w' h3 => ⟨fun h => h3.2.1 (hg h), ih (listed.setIfInBounds j true) a' w' hfree' (ready_mono hr (Ne.symm hji)) h3.1 (fun h => h3.2.1 (hg h)) ?_⟩) h2
      rw [Array.setIfInBounds_comm _ _ hji]
      exact h3.2.2

/-! ### The moves of a walk -/
def waitsB (md : Region.Mode) (ops : Array Oper) (k i : Nat) : Bool := k != i && ((ops[k]?).map fun o => o.after.any fun e => Region.binds md e && e.on == i).getD false
theorem g_take {i : Nat} {oi : Oper} {v : Value} {fuel : Nat} {listed : Array Bool} {a : Act} {w : World} (hi : ops[i]? = some oi)
    (hs : Region.noSelect ops = true) (hf : Region.free md ops listed i = true) (hr : (Region.ready md ops listed).contains i = true) (hk : (waitsB md ops k i && !listed.getD k true) = true)
    (hQ : ∀ c a w, Q (.panic c) (a.put oi.dst v) w → Q (.panic c) a w) (hy : YieldsIf P ops S oi v a) (hS : S w)
    (h : wpAnyG P md ops Q S k fuel (listed.setIfInBounds i true) (a.put oi.dst v) w) : wpAnyG P md ops Q S k (fuel + 1) listed a w := by
  simp only [waitsB, Bool.and_eq_true, Bool.not_eq_true', bne_iff_ne] at hk
  obtain ⟨⟨hne, hw⟩, hl⟩ := hk
  cases hok : ops[k]? with
  | none => rw [hok] at hw; cases hw
  | some ok =>
    rw [hok] at hw
    simp only [Option.map_some, Option.getD_some] at hw
    obtain ⟨e, he, hb⟩ := Array.any_eq_true'.1 hw
    simp only [Bool.and_eq_true, beq_iff_eq] at hb
    obtain ⟨hb, hon⟩ := hb
    exact wpAnyG_first hi hok hne ⟨e, he, hb, hon⟩ (Region.noSelect_spec hs) hQ fuel listed a w (Region.free_spec hi hf) (by simpa using hr) hl hy hS h
theorem g_take0 {i : Nat} {oi : Oper} {v : Value} {fuel : Nat} {listed : Array Bool} {a : Act} {w : World} (hi : ops[i]? = some oi)
    (hs : Region.noSelect ops = true) (hf : Region.free md ops listed i = true) (hr : (Region.ready md ops listed).contains i = true) (hk : k ≠ i)
    (hQ : ∀ c a w, Q (.panic c) (a.put oi.dst v) w → Q (.panic c) a w) (hy : YieldsIf P ops (fun _ => True) oi v a) (hS : listed.getD k true = false → S w)
    (h : wpAnyG P md ops Q S k fuel (listed.setIfInBounds i true) (a.put oi.dst v) w) : wpAnyG P md ops Q S k (fuel + 1) listed a w :=
  wpAnyG_first0 hi hk (Region.noSelect_spec hs) hQ fuel listed a w (Region.free_spec hi hf) (by simpa using hr) hy hS h
theorem Oper.wp_then {o : Oper} {a : Act} {w : World} {K : Act → World → Prop} (h : o.wp P a w K (Exit.then K Q)) : o.wp P a w K Q := by
  unfold Oper.wp at *
  generalize (execOp a.eval o).run P w = r at *
  cases r with
  | ok n w' =>
    cases n <;> simp only [Oper.upon] at h ⊢ <;>
      first
        | exact h
        | exact Calls.mono h (fun e w'' he => by cases e <;> exact he)
  | halt x w' => cases x <;> simp only [Oper.upon] at h ⊢ <;> exact h
/-- The one operation that may come up. -/
theorem g_op {i : Nat} {o : Oper} {fuel : Nat} {listed : Array Bool} {a : Act} {w : World} (hr : Region.ready md ops listed = [i]) (ho : ops[i]? = some o)
    (h : wpList P ops (Exit.then (fun a' w' => ((listed.setIfInBounds i true).getD k true = false → S w') ∧ wpAnyG P md ops Q S k fuel (listed.setIfInBounds i true) a' w') Q) [o] a w) : wpAnyG P md ops Q S k (fuel + 1) listed a w := by
  refine ⟨fun h0 => (by rw [hr] at h0; cases h0), fun j hj => ?_⟩
  rw [hr, List.mem_singleton] at hj
  subst hj
  unfold wpOp
  simp only [ho]
  unfold wpList at h
  split
  · rename_i hw
    rw [if_pos hw] at h
    rcases h with h | ⟨h1, h2⟩
    · exact .inl (Oper.wp_then h)
    · exact .inr ⟨h1, h2⟩
  · rename_i hw
    rw [if_neg hw] at h
    exact h
theorem g_done {fuel : Nat} {listed : Array Bool} {a : Act} {w : World} (hr : Region.ready md ops listed = []) (h : Q .normal a w) : wpAnyG P md ops Q S k fuel listed a w := by
  cases fuel with
  | zero => exact ⟨hr, h⟩
  | succ n => exact ⟨fun _ => h, fun i hi => by rw [hr] at hi; cases hi⟩
def chainB (md : Region.Mode) (ops : Array Oper) : List Nat → Array Bool → Bool
  | [], L => (Region.ready md ops L).isEmpty
  | i :: r, L => Region.ready md ops L == [i] && chainB md ops r (L.setIfInBounds i true)
/-- What is left comes in this order; k is the first of it, or has come. -/
theorem g_tail : ∀ (t : List (Nat × Oper)) {fuel : Nat} {listed : Array Bool} {a : Act} {w : World}, (∀ p ∈ t, ops[p.1]? = some p.2) → chainB md ops (t.map (·.1)) listed = true → t.length ≤ fuel →
    (listed.getD k true = true ∨ ∃ p r, t = p :: r ∧ p.1 = k ∧ k < listed.size) → wpList P ops Q (t.map (·.2)) a w → wpAnyG P md ops Q S k fuel listed a w
  | [], fuel, listed, a, w, _, hc, _, _, h => by
    have hr : Region.ready md ops listed = [] := by simpa [chainB] using hc
    cases fuel with
    | zero => exact ⟨hr, h⟩
    | succ n => exact ⟨fun _ => h, fun i hi => by rw [hr] at hi; cases hi⟩
  | p :: t, fuel, listed, a, w, ho, hc, hf, hk, h => by
    simp only [List.map_cons, chainB, Bool.and_eq_true, beq_iff_eq] at hc
    cases fuel with
    | zero => simp at hf
    | succ n =>
      have hl : (listed.setIfInBounds p.1 true).getD k true = true := by
        rcases hk with hk | ⟨p', r, he, hpk, hlt⟩
        · by_cases hpk : p.1 = k
          · subst hpk
            rcases Nat.lt_or_ge p.1 listed.size with g | g
            · simp [g]
            · simp [Array.getElem?_eq_none, g]
          · rw [getD_set_ne true hpk]; exact hk
        · injection he with he _
          subst he
          rw [hpk]
          simp [hlt]
      refine g_op hc.1 (ho p List.mem_cons_self) ?_
      have ih : ∀ a' w', wpList P ops Q (t.map (·.2)) a' w' → ((listed.setIfInBounds p.1 true).getD k true = false → S w') ∧ wpAnyG P md ops Q S k n (listed.setIfInBounds p.1 true) a' w' := fun a' w' h' =>
        ⟨(fun e => by rw [hl] at e; cases e), g_tail t (fun q hq => ho q (List.mem_cons_of_mem _ hq)) hc.2 (by simpa using hf) (.inl hl) h'⟩
      simp only [List.map_cons] at h
      unfold wpList at h ⊢
      split
      · rename_i hw
        rw [if_pos hw] at h
        rcases h with h | ⟨h1, h2⟩
        · refine .inl ?_
          have h3 := Oper.wp_mono (K' := wpList P ops (Exit.then (fun a' w' => ((listed.setIfInBounds p.1 true).getD k true = false → S w') ∧ wpAnyG P md ops Q S k n (listed.setIfInBounds p.1 true) a' w') Q) []) (fun a' w' h' => ih a' w' h') h
          unfold Oper.wp at *
          generalize (execOp a.eval p.2).run P w = r at *
          cases r with
          | ok n w' =>
            cases n <;> simp only [Oper.upon] at h3 ⊢ <;>
              first
                | exact h3
                | exact Calls.mono h3 (fun e w'' he => by cases e <;> exact he)
          | halt x w' => cases x <;> simp only [Oper.upon] at h3 ⊢ <;> exact h3
        · exact .inr ⟨h1, h2⟩
      · rename_i hw
        rw [if_neg hw] at h
        exact ih _ _ h
end
end Go.Proofs.YtdcahnkcnbhknaaGreatDoor
