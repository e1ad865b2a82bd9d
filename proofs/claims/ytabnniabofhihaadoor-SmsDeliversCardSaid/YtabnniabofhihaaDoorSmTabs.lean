/- The tables of SmsDelivers: the parts of each message, and which of them have come. -/
import Derived.Test.YtabnniabofhihaaDoorSmBls
namespace Go.Proofs.YtabnniabofhihaaDoor
open Go.RowKit Go.Deep

/-- Block b holds these truth values. -/
def BlsBlk (w : World) (b : Nat) (l : List Bool) : Prop := w.heap[b]? = some (.cells (l.map Value.bool).toArray 4 (0, 0))
theorem BlsBlk.lt {w : World} {b : Nat} {l : List Bool} (h : BlsBlk w b l) : b < w.heap.size := heap_lt h
theorem BlsBlk.cell {w : World} {b : Nat} {l : List Bool} (h : BlsBlk w b l) {k : Nat} (hk : k < l.length) : w.cell? ⟨b, k, none⟩ = some (.bool l[k]) := by
  rw [cell_of_block h]; simp [hk]
theorem BlsBlk.frozen {w : World} {b : Nat} {l : List Bool} (h : BlsBlk w b l) (k : Nat) : w.frozen? ⟨b, k, none⟩ = false := frozen_of_block h
theorem BlsBlk.set {w : World} {b : Nat} {l : List Bool} (h : BlsBlk w b l) (k : Nat) (x : Bool) : BlsBlk (w.setCell ⟨b, k, none⟩ (.bool x)) b (l.set k x) := by
  have := heap_setCell_same (p := ⟨b, k, none⟩) (u := .bool x) rfl h
  unfold BlsBlk
  rw [this]
  simp [List.map_set]
theorem BlsBlk.upd {S : Nat → Prop} {w w' : World} {b : Nat} {l : List Bool} (h : BlsBlk w b l) (u : Upd S w w') (hb : ¬ S b) : BlsBlk w' b l := by
  unfold BlsBlk; rw [u.block b h.lt hb]; exact h
theorem BlsBlk.rep {A : Nat → Prop} {w : World} {b : Nat} {l : List Bool} (h : BlsBlk w b l) (hm : l.length ≤ maxLen) (hA : A b) : kBls.rep A w [.slice (some ⟨b, 0, none⟩) l.length l.length] l := by
  refine .inr ⟨b, 0, l.length, rfl, Nat.le_refl _, hm, hA, fun i hi => ⟨_, rfl, fun j hj => ?_⟩⟩
  have : j = 0 := by simpa using hj
  subst this
  show w.cell? ⟨b, 0 + i * 1 + 0, none⟩ = _
  rw [show 0 + i * 1 + 0 = i by omega, h.cell hi]; rfl
theorem infoB : (Tryd.prog.info? 4).map (fun i => (i.zero, i.size, i.bytes)) = some (some (.bool false), 1, 1) := by kernel_rfl
theorem make_bls (w : World) (n : Nat) (h : n ≤ 100000) : ∃ w1, (Instr.makeSlice 36 (.int .i64 n) (.int .i64 n)).run Tryd.prog w = .ok (.slice (some ⟨w.heap.size, 0, none⟩) n n) w1 ∧ BlsBlk w1 w.heap.size (List.replicate n false) ∧ Upd (fun _ => False) w w1 := by
  obtain ⟨i0, hi, hz0, hz1, hz2⟩ := info_parts infoB
  obtain ⟨w1, hrun, hown, hgr⟩ := run_make_full (P := Tryd.prog) w w.heap.size 36 4 i0 _ 1 Tryd.underlying36 hi hz0 hz1 .i64 .i64 n (by rw [hz2]; omega) (by unfold maxLen; omega) (Nat.le_refl _)
  obtain ⟨hlen, ⟨he, _⟩ | ⟨g, cap, cur, hv, hg, hcur, hc1, hc2, hc3, hc4⟩⟩ := hown
  · cases he
  injection hv with e1 e2 e3
  injection e1 with e1
  injection e1 with e1 _ _
  subst e1 e3
  have u1 : Upd (fun _ => False) w w1 := ⟨hgr.os, hgr.tape, hgr.output, hgr.size, fun k hk _ => hgr.block k hk (by simp)⟩
  refine ⟨w1, hrun, ?_, u1⟩
  unfold BlsBlk
  rw [hcur]
  have hcu : cur.toList = List.replicate n (.bool false) := by
    have h4 := hc4
    rw [List.take_of_length_le (by simp; omega)] at h4
    rw [h4, Nat.mul_one]
    exact toList_madeCells_one _ n
  have : cur = (List.replicate n (Value.bool false)).toArray := by rw [← hcu]
  rw [this, List.map_replicate]
theorem infoSS : (Tryd.prog.info? 23).map (fun i => (i.zero, i.size, i.bytes)) = some (some (.slice none 0 0), 1, 24) := by kernel_rfl
theorem infoSB : (Tryd.prog.info? 36).map (fun i => (i.zero, i.size, i.bytes)) = some (some (.slice none 0 0), 1, 24) := by kernel_rfl
theorem elemSS : ElemTy Tryd.prog 34 23 1 24 := ElemTy.mk' Tryd.underlying34 infoSS rfl (by decide)
theorem elemSB : ElemTy Tryd.prog 35 36 1 24 := ElemTy.mk' Tryd.underlying35 infoSB rfl (by decide)

/-- A message's parts, in block lb; which have come, in block cb. -/
structure Ent where
  lb : Nat
  lo : Nat
  cap : Nat
  cb : Nat
  ps : List Bs
def Ent.aVal (e : Ent) : Value := .slice (some ⟨e.lb, e.lo, none⟩) e.ps.length e.cap
def Ent.cVal (e : Ent) : Value := .slice (some ⟨e.cb, 0, none⟩) e.ps.length e.ps.length
abbrev kS8 : Knd Bs := kMap kStr fun l => ⟨l.toArray⟩
structure Tabs (M0 : Nat) (w : World) (sA sC : Value) (L : List Ent) : Prop where
  base : M0 ≤ w.heap.size
  rowA : w.ownsRow M0 23 1 sA L.length (L.map Ent.aVal)
  rowC : w.ownsRow M0 36 1 sC L.length (L.map Ent.cVal)
  strs : ∀ e ∈ L, (M0 ≤ e.lb ∧ e.lb < w.heap.size) ∧ Elems kS8 (fun _ => True) w e.lb e.lo e.ps
  bls : ∀ e ∈ L, M0 ≤ e.cb ∧ BlsBlk w e.cb (List.replicate e.ps.length false)
  lc : ∀ e ∈ L, ∀ e' ∈ L, e.lb ≠ e'.cb
  cc : (L.map Ent.cb).Nodup
  ra : ∀ g, sA.ownBlock = some g → ∀ e ∈ L, g ≠ e.lb ∧ g ≠ e.cb
  rc : ∀ g, sC.ownBlock = some g → ∀ e ∈ L, g ≠ e.lb ∧ g ≠ e.cb
  ac : ∀ g, sA.ownBlock = some g → sC.ownBlock ≠ some g
theorem Tabs.start {M0 : Nat} {w : World} (h : M0 ≤ w.heap.size) : Tabs M0 w (.slice none 0 0) (.slice none 0 0) [] :=
  ⟨h, World.ownsRow_nil _ _ _ _, World.ownsRow_nil _ _ _ _, fun e he => (nomatch he), fun e he => (nomatch he), fun e he => (nomatch he), List.nodup_nil, fun g hg => (nomatch hg), fun g hg => (nomatch hg), fun g hg => (nomatch hg)⟩
theorem kS8_elems {A A' : Nat → Prop} {w w' : World} {b o : Nat} {l : List Bs} (h : Elems kS8 A w b o l) (e : b < w.heap.size → w'.heap[b]? = w.heap[b]?) : Elems kS8 A' w' b o l := fun i hi =>
  let ⟨cs, h1, h2⟩ := h i hi
  ⟨cs, h1, h2.keep e⟩
theorem Tabs.step {M0 : Nat} {w w1 : World} {sA sC : Value} {L : List Ent} (h : Tabs M0 w sA sC L) (hL : L.length ≤ 100) (u1 : Upd (fun _ => False) w w1) {lb lo cap : Nat} {ps : List Bs} (hlb : Fresh w w1 lb) (hel : Elems kS8 (Fresh w w1) w1 lb lo ps) (hps : ps.length ≤ 2500) (ty1 ty2 : TypeId) :
    ∃ sA' w2, (Builtin.append_ #[34, 34] ty1 #[sA, .slice (some ⟨w1.heap.size, 0, none⟩) 1 1]).run Tryd.prog (w1.alloc (.cells #[.slice (some ⟨lb, lo, none⟩) ps.length cap] 23 (0, 0))) = .ok sA' w2 ∧
      ∃ w3, (Instr.makeSlice 36 (.int .i64 ps.length) (.int .i64 ps.length)).run Tryd.prog w2 = .ok (.slice (some ⟨w2.heap.size, 0, none⟩) ps.length ps.length) w3 ∧
        ∃ sC' w4, (Builtin.append_ #[35, 35] ty2 #[sC, .slice (some ⟨w3.heap.size, 0, none⟩) 1 1]).run Tryd.prog (w3.alloc (.cells #[.slice (some ⟨w2.heap.size, 0, none⟩) ps.length ps.length] 36 (0, 0))) = .ok sC' w4 ∧
          Tabs M0 w4 sA' sC' (L ++ [⟨lb, lo, cap, w2.heap.size, ps⟩]) ∧ Upd (fun k => M0 ≤ k) w w4 := by
  have rA1 := ownsRow_upd h.rowA u1 fun _ _ => id
  have rC1 := ownsRow_upd h.rowC u1 fun _ _ => id
  have b1 := Nat.le_trans h.base u1.size
  obtain ⟨sA', w2, r2, o2, u2, n2⟩ := append_one elemSS rA1 #[.slice (some ⟨lb, lo, none⟩) ps.length cap] rfl (by simp [Value.oneCell']) (by unfold maxLen; omega) (by omega) b1 ty1 (0, 0)
  obtain ⟨w3, r3, o3, u3⟩ := make_bls w2 ps.length (by omega)
  have lA : ∀ g, sA.ownBlock = some g → M0 ≤ g ∧ g < w.heap.size := fun g hg => h.rowA.lt g hg
  have lC : ∀ g, sC.ownBlock = some g → M0 ≤ g ∧ g < w.heap.size := fun g hg => h.rowC.lt g hg
  have s1 := u1.size; have s2 := u2.size; have s3 := u3.size
  have rC3 : w3.ownsRow M0 36 1 sC L.length (L.map Ent.cVal) := ownsRow_upd (ownsRow_upd rC1 u2 fun g hg e => h.ac g e hg) u3 fun _ _ => id
  obtain ⟨sC', w4, r4, o4, u4, n4⟩ := append_one elemSB rC3 #[.slice (some ⟨w2.heap.size, 0, none⟩) ps.length ps.length] rfl (by simp [Value.oneCell']) (by unfold maxLen; omega) (by omega) (by omega) ty2 (0, 0)
  have s4 := u4.size
  have cbl := o3.lt
  have kp : ∀ x, x < w.heap.size → (∀ g, sA.ownBlock = some g → g ≠ x) → (∀ g, sC.ownBlock = some g → g ≠ x) → w4.heap[x]? = w.heap[x]? := fun x hx ha hc => by
    rw [u4.block x (by omega) fun e => hc x e rfl, u3.block x (by omega) id, u2.block x (by omega) fun e => ha x e rfl, u1.block x hx id]
  have lA' : ∀ g, sA'.ownBlock = some g → g < w2.heap.size := fun g hg => (o2.lt g hg).2
  have cA : ∀ g, sA'.ownBlock = some g → sA.ownBlock = some g ∨ w1.heap.size < g := fun g hg => by
    rcases n2 with n2 | ⟨x, hx, hl⟩
    · exact .inl (by rw [← n2]; exact hg)
    · rw [hx] at hg; injection hg with hg; exact .inr (by omega)
  have cC : ∀ g, sC'.ownBlock = some g → sC.ownBlock = some g ∨ w3.heap.size < g := fun g hg => by
    rcases n4 with n4 | ⟨x, hx, hl⟩
    · exact .inl (by rw [← n4]; exact hg)
    · rw [hx] at hg; injection hg with hg; exact .inr (by omega)
  obtain ⟨hlb1, hlb2⟩ := hlb
  refine ⟨sA', w2, r2, w3, r3, sC', w4, r4, ⟨by omega, ?_, ?_, fun e he => ?_, fun e he => ?_, fun e he e' he' => ?_, ?_, fun g hg e he => ?_, fun g hg e he => ?_, fun g hg hc => ?_⟩, ?_⟩
  · have := ownsRow_upd (ownsRow_upd o2 u3 fun _ _ => id) u4 fun g hg e => by
      rcases cA g hg with h1 | h1
      · exact h.ac g h1 e
      · have := (lC g e).2; omega
    rw [List.length_append, List.map_append]
    exact this
  · rw [List.length_append, List.map_append]
    exact o4
  · rcases List.mem_append.1 he with he | he
    · obtain ⟨⟨h1, h2⟩, h3⟩ := h.strs e he
      exact ⟨⟨h1, by omega⟩, kS8_elems h3 fun _ => kp _ h2 (fun g hg => (h.ra g hg e he).1) fun g hg => (h.rc g hg e he).1⟩
    · obtain rfl := List.mem_singleton.1 he
      refine ⟨⟨by dsimp only; have := h.base; omega, by dsimp only; omega⟩, kS8_elems hel fun _ => ?_⟩
      dsimp only
      rw [u4.block lb (by omega) fun e => by have := (lC _ e).2; omega, u3.block lb (by omega) id, u2.block lb hlb2 fun e => by have := (lA _ e).2; omega]
  · rcases List.mem_append.1 he with he | he
    · obtain ⟨h1, h2⟩ := h.bls e he
      have h3 := h2.lt
      refine ⟨h1, ?_⟩
      unfold BlsBlk
      rw [kp _ h3 (fun g hg => (h.ra g hg e he).2) fun g hg => (h.rc g hg e he).2]
      exact h2
    · obtain rfl := List.mem_singleton.1 he
      exact ⟨by dsimp only; omega, o3.upd u4 fun e => by have := (lC _ e).2; omega⟩
  · rcases List.mem_append.1 he with he | he <;> rcases List.mem_append.1 he' with he' | he'
    · exact h.lc e he e' he'
    · obtain rfl := List.mem_singleton.1 he'
      have := (h.strs e he).1.2
      dsimp only; omega
    · obtain rfl := List.mem_singleton.1 he
      have := (h.bls e' he').2.lt
      dsimp only; omega
    · obtain rfl := List.mem_singleton.1 he
      obtain rfl := List.mem_singleton.1 he'
      dsimp only; omega
  · rw [List.map_append, List.nodup_append]
    refine ⟨h.cc, by simp, fun a ha b hb => ?_⟩
    obtain ⟨e, he, rfl⟩ := List.mem_map.1 ha
    have hb : b = w2.heap.size := by simpa using hb
    have := (h.bls e he).2.lt
    omega
  · rcases List.mem_append.1 he with he | he
    · rcases cA g hg with h1 | h1
      · exact h.ra g h1 e he
      · have := (h.strs e he).1.2; have := (h.bls e he).2.lt; omega
    · obtain rfl := List.mem_singleton.1 he
      have := lA' g hg
      dsimp only
      rcases cA g hg with h1 | h1
      · have := (lA g h1).2; omega
      · omega
  · rcases List.mem_append.1 he with he | he
    · rcases cC g hg with h1 | h1
      · exact h.rc g h1 e he
      · have := (h.strs e he).1.2; have := (h.bls e he).2.lt; omega
    · obtain rfl := List.mem_singleton.1 he
      dsimp only
      rcases cC g hg with h1 | h1
      · have := (lC g h1).2; omega
      · omega
  · have := lA' g hg
    rcases cC g hc with h2 | h2
    · rcases cA g hg with h1 | h1
      · exact h.ac g h1 h2
      · have := (lC g h2).2; omega
    · omega
  · refine ((u1.mono fun _ h => h.elim).comp (u2.mono fun k hk => (lA k hk).1) fun i _ h => h) |>.comp (u3.mono fun _ h => h.elim) (fun i _ h => h) |>.comp (u4.mono fun k hk => (lC k hk).1) fun i _ h => h
/-- While parts come: of the tables only the marks change. -/
structure Live (wM w : World) (M0 : Nat) (L : List Ent) (cm : Nat → List Bool) : Prop where
  size : wM.heap.size ≤ w.heap.size
  kept : ∀ g, M0 ≤ g → g < wM.heap.size → (∀ e ∈ L, g ≠ e.cb) → w.heap[g]? = wM.heap[g]?
  bls : ∀ k (h : k < L.length), BlsBlk w L[k].cb (cm k)
theorem Live.upd {S : Nat → Prop} {wM w w' : World} {M0 : Nat} {L : List Ent} {cm : Nat → List Bool} (h : Live wM w M0 L cm) (u : Upd S w w') (hS : ∀ k, S k → k < M0 ∨ wM.heap.size ≤ k) (hc : ∀ e ∈ L, M0 ≤ e.cb ∧ e.cb < wM.heap.size) : Live wM w' M0 L cm :=
  ⟨Nat.le_trans h.size u.size, fun g h1 h2 h3 => (u.block g (Nat.lt_of_lt_of_le h2 h.size) fun hs => by rcases hS g hs with h4 | h4 <;> omega).trans (h.kept g h1 h2 h3),
    fun k hk => (h.bls k hk).upd u fun hs => by have := hc _ (List.getElem_mem hk); rcases hS _ hs with h4 | h4 <;> omega⟩
theorem Live.mark {wM w : World} {M0 : Nat} {L : List Ent} {cm : Nat → List Bool} (h : Live wM w M0 L cm) (hn : (L.map Ent.cb).Nodup) {k : Nat} (hk : k < L.length) (n : Nat) : Live wM (w.setCell ⟨L[k].cb, n, none⟩ (.bool true)) M0 L (upC cm k ((cm k).set n true)) := by
  refine ⟨by simpa using h.size, fun g h1 h2 h3 => ?_, fun j hj => ?_⟩
  · rw [heap_setCell_other (fun e => h3 _ (List.getElem_mem hk) e)]
    exact h.kept g h1 h2 h3
  · unfold upC
    by_cases hjk : j = k
    · subst hjk
      rw [if_pos rfl]
      exact (h.bls j hj).set n true
    · rw [if_neg hjk]
      have hne : L[j].cb ≠ L[k].cb := fun e => hjk (by
        have h1 := List.pairwise_iff_getElem.1 hn
        rcases Nat.lt_trichotomy j k with h2 | h2 | h2
        · exact absurd (by rw [List.getElem_map, List.getElem_map]; exact e) (h1 j k (by simpa using hj) (by simpa using hk) h2)
        · exact h2
        · exact absurd (by rw [List.getElem_map, List.getElem_map]; exact e.symm) (h1 k j (by simpa using hk) (by simpa using hj) h2))
      unfold BlsBlk
      rw [heap_setCell_other hne]
      exact h.bls j hj
theorem Live.cell {wM w : World} {M0 : Nat} {L : List Ent} {cm : Nat → List Bool} (h : Live wM w M0 L cm) {b o : Nat} {v : Value} (hb : M0 ≤ b ∧ b < wM.heap.size ∧ ∀ e ∈ L, b ≠ e.cb) (hc : wM.cell? ⟨b, o, none⟩ = some v) : w.cell? ⟨b, o, none⟩ = some v :=
  cell_kept hc (h.kept b hb.1 hb.2.1 hb.2.2)
/-- The tables when all is laid. -/
structure Frz (w : World) (M0 ab xb : Nat) (L : List Ent) : Prop where
  hab : M0 ≤ ab ∧ ab < w.heap.size ∧ ∀ e ∈ L, ab ≠ e.cb
  hxb : M0 ≤ xb ∧ xb < w.heap.size ∧ ∀ e ∈ L, xb ≠ e.cb
  ca : ∀ k (h : k < L.length), w.cell? ⟨ab, k, none⟩ = some L[k].aVal
  cx : ∀ k (h : k < L.length), w.cell? ⟨xb, k, none⟩ = some L[k].cVal
  str : ∀ k (h : k < L.length), (M0 ≤ L[k].lb ∧ L[k].lb < w.heap.size ∧ ∀ e ∈ L, L[k].lb ≠ e.cb) ∧ Elems kS8 (fun _ => True) w L[k].lb L[k].lo L[k].ps
  cb : ∀ e ∈ L, M0 ≤ e.cb ∧ e.cb < w.heap.size
  cc : (L.map Ent.cb).Nodup
theorem add_zero_off (b j : Nat) : Addr.add ⟨b, 0, none⟩ j = ⟨b, j, none⟩ := by unfold Addr.add; split <;> simp_all
theorem Tabs.frz {M0 : Nat} {w : World} {sA sC : Value} {L : List Ent} (h : Tabs M0 w sA sC L) (hpos : 0 < L.length) :
    ∃ ab ca xb cx, sA = .slice (some ⟨ab, 0, none⟩) L.length ca ∧ sC = .slice (some ⟨xb, 0, none⟩) L.length cx ∧ Frz w M0 ab xb L := by
  rcases ownsRow_fits h.rowA with ⟨_, h0⟩ | ⟨ab, ca, rfl, a1, a2, _, _⟩
  · omega
  rcases ownsRow_fits h.rowC with ⟨_, h0⟩ | ⟨xb, cx, rfl, x1, x2, _, _⟩
  · omega
  refine ⟨ab, ca, xb, cx, rfl, rfl, ⟨a1, a2, fun e he => (h.ra ab rfl e he).2⟩, ⟨x1, x2, fun e he => (h.rc xb rfl e he).2⟩, fun k hk => ?_, fun k hk => ?_, fun k hk => ?_, fun e he => ⟨(h.bls e he).1, (h.bls e he).2.lt⟩, h.cc⟩
  · have := h.rowA.cells (g := ab) rfl k L[k].aVal (by simp [hk])
    rwa [add_zero_off] at this
  · have := h.rowC.cells (g := xb) rfl k L[k].cVal (by simp [hk])
    rwa [add_zero_off] at this
  · have he := List.getElem_mem hk
    exact ⟨⟨(h.strs _ he).1.1, (h.strs _ he).1.2, fun e h2 => h.lc _ he e h2⟩, (h.strs _ he).2⟩
theorem Tabs.live {M0 : Nat} {w : World} {sA sC : Value} {L : List Ent} (h : Tabs M0 w sA sC L) {cm : Nat → List Bool} (hc : ∀ k (hk : k < L.length), cm k = List.replicate L[k].ps.length false) : Live w w M0 L cm :=
  ⟨Nat.le_refl _, fun _ _ _ _ => rfl, fun k hk => by rw [hc k hk]; exact (h.bls _ (List.getElem_mem hk)).2⟩
/-- The state while parts come. -/
structure Dlv (w wM : World) (M0 bb N : Nat) (c : Nat → Nat) (f : Nat → Nat → Bs) (L : List Ent) (bx : Bx) (O : Nat → Prop) (cm : Nat → List Bool) (wr : World) : Prop where
  box : IsBox wr O bb bx
  st : BoxSt bx N c f cm
  own : ∀ k, O k → w.heap.size ≤ k ∧ (k < M0 ∨ wM.heap.size ≤ k)
  live : Live wM wr M0 L cm
  upd : Upd (fun _ => False) w wr
section
variable {w wM wr : World} {M0 bb N : Nat} {c : Nat → Nat} {f : Nat → Nat → Bs} {L : List Ent} {bx : Bx} {O : Nat → Prop} {cm : Nat → List Bool} {ab xb : Nat}
theorem Dlv.keep (h : Dlv w wM M0 bb N c f L bx O cm wr) (F : Frz wM M0 ab xb L) {w' : World} (u : Upd (fun _ => False) wr w') : Dlv w wM M0 bb N c f L bx O cm w' :=
  ⟨h.box.keep u, h.st, h.own, h.live.upd u (fun _ h => h.elim) F.cb, h.upd.trans u⟩
theorem Dlv.live5 (h : Dlv w wM M0 bb N c f L bx O cm wr) (F : Frz wM M0 ab xb L) {w5 : World} (u5 : Upd O wr w5) : Live wM w5 M0 L cm := h.live.upd u5 (fun k hk => (h.own k hk).2) F.cb
theorem Dlv.take (h : Dlv w wM M0 bb N c f L bx O cm wr) (F : Frz wM M0 ab xb L) (hM : w.heap.size ≤ M0) (hN : N ≤ 4) (hL : L.length = N) {k n : Nat} (hk : k < L.length) (hn : n < c k) {s : Bs} (hp : partF s = some ⟨(k : Int), (n : Nat), (c k : Nat), f k n⟩)
    {w5 : World} {O' : Nat → Prop} (hb' : IsBox w5 O' bb (takeF bx s).2) (ho : ∀ k, O' k → O k ∨ wr.heap.size ≤ k) (u5 : Upd O wr w5) {cbn : Nat} (hcb : L[k].cb = cbn) :
    Dlv w wM M0 bb N c f L (takeF bx s).2 O' (upC cm k ((cm k).set n true)) (w5.setCell ⟨cbn, n, none⟩ (.bool true)) := by
  subst hcb
  have hcb := F.cb _ (List.getElem_mem hk)
  have own' : ∀ j, O' j → w.heap.size ≤ j ∧ (j < M0 ∨ wM.heap.size ≤ j) := fun j hj => by
    rcases ho j hj with h1 | h1
    · exact h.own j h1
    · have := h.live.size; have := h.upd.size; exact ⟨by omega, .inr (by omega)⟩
  have us : Upd (· = L[k].cb) w5 (w5.setCell ⟨L[k].cb, n, none⟩ (.bool true)) := (Upd.refl _ _).setCell _ _ (.inl rfl)
  refine ⟨hb'.upd us fun j hj e => ?_, (h.st.take h.box.ok hN (by omega) hn hp).2, own', (h.live5 F u5).mark F.cc hk n, (h.upd.comp u5 fun i hi hO => ?_).comp us fun i hi e => ?_⟩
  · rcases (own' j hj).2 with h1 | h1 <;> omega
  · have := (h.own i hO).1; omega
  · omega
end
end Go.Proofs.YtabnniabofhihaaDoor
