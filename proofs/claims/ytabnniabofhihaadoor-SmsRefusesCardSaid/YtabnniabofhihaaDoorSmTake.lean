/- sms.Take does to a box what the plain model says. -/
import Derived.Test.YtabnniabofhihaaDoorSmDone
namespace Go.Proofs.YtabnniabofhihaaDoor
open Go.RowKit Go.Deep

theorem map_del {α β : Type} (f : α → β) (l : List (Int × α)) (x : Int) : (delM l x).map (fun p => (p.1, f p.2)) = delM (l.map fun p => (p.1, f p.2)) x := by
  unfold delM; rw [List.filter_map]; rfl
theorem map_put {α β : Type} (f : α → β) (l : List (Int × α)) (x : Int) (v : α) : (putM l x v).map (fun p => (p.1, f p.2)) = putM (l.map fun p => (p.1, f p.2)) x (f v) := by
  unfold putM; rw [List.map_cons, map_del]
theorem map_set {α β : Type} (f : α → β) (l : List (Int × α)) (x : Int) (v : α) : (setM l x v).map (fun p => (p.1, f p.2)) = setM (l.map fun p => (p.1, f p.2)) x (f v) := by
  unfold setM
  rw [List.map_map, List.map_map]
  refine List.map_congr_left fun p _ => ?_
  simp only [Function.comp]
  split <;> rfl
theorem setM_mem' {α : Type} {l : List (Int × α)} {x : Int} {v : α} {p : Int × α} (h : p ∈ setM l x v) : p = (x, v) ∨ (p ∈ l ∧ p.1 ≠ x) := by
  unfold setM at h
  obtain ⟨q, hq, rfl⟩ := List.mem_map.1 h
  by_cases hx : q.1 = x
  · rw [if_pos hx]; exact .inl rfl
  · rw [if_neg hx]; exact .inr ⟨hq, hx⟩
theorem putM_mem' {α : Type} {l : List (Int × α)} {x : Int} {v : α} {p : Int × α} (h : p ∈ putM l x v) : p = (x, v) ∨ (p ∈ l ∧ p.1 ≠ x) := by
  unfold putM delM at h
  rcases List.mem_cons.1 h with h | h
  · exact .inl h
  · have := List.mem_filter.1 h
    exact .inr ⟨this.1, by simpa using this.2⟩
theorem inj_of_nodup {α β : Type} {f : α → β} : ∀ {l : List α}, (l.map f).Nodup → ∀ {a b : α}, a ∈ l → b ∈ l → f a = f b → a = b
  | [], _, _, _, h, _, _ => nomatch h
  | x :: r, hn, a, b, ha, hb, he => by
    rw [List.map_cons, List.nodup_cons] at hn
    rcases List.mem_cons.1 ha with h1 | h1
    · rcases List.mem_cons.1 hb with h2 | h2
      · rw [h1, h2]
      · exact absurd (List.mem_map.2 ⟨b, h2, by rw [← he, h1]⟩) hn.1
    · rcases List.mem_cons.1 hb with h2 | h2
      · exact absurd (List.mem_map.2 ⟨a, h1, by rw [he, h2]⟩) hn.1
      · exact inj_of_nodup hn.2 h1 h2 he
theorem MapIs.obj {P : Program} {k : TypeId} {w : World} {b : Nat} {l : List (Int × Value)} (h : MapIs P k w b l) : ∃ es c, w.heap[b]? = some (.map es c) := by
  obtain ⟨_, D, ⟨es, c, hb, _⟩, _⟩ := h
  exact ⟨es, c, hb⟩
theorem cells_ne_map {P : Program} {k : TypeId} {w : World} {b p : Nat} {l : List (Int × Value)} {cs : Array Value} {t : TypeId} {fr : Nat × Nat} (h : MapIs P k w b l) (hc : w.heap[p]? = some (.cells cs t fr)) : p ≠ b := by
  rintro rfl
  obtain ⟨es, c, hb⟩ := h.obj
  rw [hc] at hb
  cases hb

/-- A part more, of a message that is there. -/
theorem box_put {w w' : World} {O : Nat → Prop} {b bm : Nat} {L : List En} {x i : Int} {p q : Nat} {m : Ms} {bs : Bs} (B : BoxAt w O b bm L) (hL : L.lookup x = some (p, q, m)) (hm : MsOk (addPart m i bs))
    (hq : MapIs Tryd.prog 3 w' q (putM (strs m.parts) i (.string ⟨bs.toArray⟩))) (u : Upd (· = q) w w') : BoxAt w' O b bm (setM L x (p, q, addPart m i bs)) ∧ bxOf (setM L x (p, q, addPart m i bs)) = setM (bxOf L) x (addPart m i bs) := by
  have hmem := lookup_mem hL
  have hkeys : (L.map Prod.fst).Nodup := by
    have := B.ok.nodup
    unfold bxOf at this
    rwa [List.map_map] at this
  have hM := B.ms _ hmem
  have hbx : bxOf (setM L x (p, q, addPart m i bs)) = setM (bxOf L) x (addPart m i bs) := map_set (fun e : Nat × Nat × Ms => e.2.2) L x _
  have hfst : ((setM L x (p, q, addPart m i bs)).map fun e => e.2.2.1) = L.map fun e => e.2.2.1 := by
    unfold setM
    rw [List.map_map]
    refine List.map_congr_left fun e he => ?_
    simp only [Function.comp]
    split
    · rename_i hx
      have : e = (x, p, q, m) := inj_of_nodup hkeys he hmem hx
      rw [this]
    · rfl
  have hptr : ptrs (setM L x (p, q, addPart m i bs)) = ptrs L := by
    unfold ptrs setM
    rw [List.map_map]
    refine List.map_congr_left fun e he => ?_
    simp only [Function.comp]
    split
    · rename_i hx
      have : e = (x, p, q, m) := inj_of_nodup hkeys he hmem hx
      rw [this]
    · rfl
  have hap := B.apart
  rw [List.nodup_cons] at hap
  have hbmq : bm ≠ q := fun e => hap.1 (List.mem_map.2 ⟨_, hmem, e.symm⟩)
  refine ⟨⟨?_, (u.block b (heap_lt B.head) (cells_ne_map hM.map B.head)).trans B.head, ?_, fun e he => ?_, ⟨B.own.1, B.own.2.1, fun e he => ?_⟩, fun k hk => ⟨(B.lt k hk).1, Nat.lt_of_lt_of_le (B.lt k hk).2 u.size⟩, by rw [hfst]; exact B.apart⟩, hbx⟩
  · rw [hbx]
    refine ⟨by rw [setM_fst]; exact B.ok.nodup, by unfold setM; rw [List.length_map]; exact B.ok.few, fun e he => ?_⟩
    rcases setM_mem' he with rfl | ⟨he, _⟩
    · have := B.ok.ms (x, m) (List.mem_map.2 ⟨_, hmem, rfl⟩)
      exact ⟨this.1, this.2.1, hm⟩
    · exact B.ok.ms e he
  · rw [hptr]; exact B.map.upd u hbmq
  · rcases setM_mem' he with rfl | ⟨he, hne⟩
    · refine ⟨(u.block p (heap_lt hM.head) (cells_ne_map hM.map hM.head)).trans hM.head, ?_⟩
      have : strs (addPart m i bs).parts = putM (strs m.parts) i (.string ⟨bs.toArray⟩) := map_put (fun b : Bs => Value.string ⟨b.toArray⟩) m.parts i bs
      rw [this]; exact hq
    · have hE := B.ms e he
      refine hE.upd u (cells_ne_map hM.map hE.head) fun hqe => hne ?_
      have : e = (x, p, q, m) := inj_of_nodup hap.2 he hmem hqe
      rw [this]
  · rcases setM_mem' he with rfl | ⟨he, _⟩
    · have h := B.own.2.2 _ hmem
      exact ⟨h.1, h.2⟩
    · exact B.own.2.2 e he
/-- The first part of a message. -/
theorem box_new {w w' : World} {O : Nat → Prop} {b bm : Nat} {L : List En} {x : Int} {p q : Nat} {m : Ms} (B : BoxAt w O b bm L) (hm : MsOk m) (hx : 0 ≤ x ∧ x ≤ maxMark) (hfew : L.length < 100) (hL : L.lookup x = none)
    (hp : w'.heap[p]? = some (.cells #[.int .i64 m.count, .map (some q)] 67 (0, 0))) (hq : MapIs Tryd.prog 3 w' q (strs m.parts)) (hbm : MapIs Tryd.prog 3 w' bm (putM (ptrs L) x (.pointer (some ⟨p, 0, none⟩)))) (u : Upd (· = bm) w w')
    (hpn : w.heap.size ≤ p) (hqn : w.heap.size ≤ q) :
    BoxAt w' (fun k => O k ∨ k = p ∨ k = q) b bm (putM L x (p, q, m)) ∧ bxOf (putM L x (p, q, m)) = putM (bxOf L) x m := by
  have hbx : bxOf (putM L x (p, q, m)) = putM (bxOf L) x m := map_put (fun e : Nat × Nat × Ms => e.2.2) L x _
  have hptr : ptrs (putM L x (p, q, m)) = putM (ptrs L) x (.pointer (some ⟨p, 0, none⟩)) := map_put (fun e : Nat × Nat × Ms => Value.pointer (some ⟨e.1, 0, none⟩)) L x _
  have hlk : (bxOf L).lookup x = none := by rw [bx_look, hL]; rfl
  have hap := B.apart
  rw [List.nodup_cons] at hap
  have hbl := (B.lt bm B.own.2.1).2
  have hlen : (bxOf L).length = L.length := by unfold bxOf; rw [List.length_map]
  refine ⟨⟨?_, (u.block b (heap_lt B.head) (cells_ne_map B.map B.head)).trans B.head, ?_, fun e he => ?_, ⟨.inl B.own.1, .inl B.own.2.1, fun e he => ?_⟩, fun k hk => ?_, ?_⟩, hbx⟩
  · rw [hbx]
    refine ⟨nodup_put B.ok.nodup _ _, by rw [len_put B.ok.nodup, hlk]; simp; omega, fun e he => ?_⟩
    rcases putM_mem' he with rfl | ⟨he, _⟩
    · exact ⟨hx.1, hx.2, hm⟩
    · exact B.ok.ms e he
  · rw [hptr]; exact hbm
  · rcases putM_mem' he with rfl | ⟨he, _⟩
    · exact ⟨hp, hq⟩
    · have hE := B.ms e he
      exact hE.upd u (cells_ne_map B.map hE.head) fun hqe => hap.1 (List.mem_map.2 ⟨e, he, hqe⟩)
  · rcases putM_mem' he with rfl | ⟨he, _⟩
    · exact ⟨.inr (.inl rfl), .inr (.inr rfl)⟩
    · exact ⟨.inl (B.own.2.2 e he).1, .inl (B.own.2.2 e he).2⟩
  · have h6 := (B.lt bm B.own.2.1).1
    rcases hk with hk | rfl | rfl
    · exact ⟨(B.lt k hk).1, Nat.lt_of_lt_of_le (B.lt k hk).2 u.size⟩
    · exact ⟨by omega, heap_lt hp⟩
    · exact ⟨by omega, hq.lt⟩
  · unfold putM
    rw [List.map_cons, List.nodup_cons, List.nodup_cons]
    have hsub : ((delM L x).map fun e => e.2.2.1).Sublist (L.map fun e => e.2.2.1) := List.filter_sublist.map _
    refine ⟨fun h => ?_, fun h => ?_, hap.2.sublist hsub⟩
    · rcases List.mem_cons.1 h with h | h
      · have : bm = q := h
        omega
      · exact hap.1 (hsub.subset h)
    · obtain ⟨e, he, hqe⟩ := List.mem_map.1 (hsub.subset h)
      have hqe : e.2.2.1 = q := hqe
      have := (B.lt _ (B.own.2.2 e he).2).2
      omega
theorem Upd.of_fresh {S T : Nat → Prop} {a b : World} (h : Upd S a b) (hs : ∀ k, S k → T k ∨ a.heap.size ≤ k) : Upd T a b :=
  ⟨h.os, h.tape, h.output, h.size, fun i hi hT => h.block i hi fun hS => by
    rcases hs i hS with h | h
    · exact hT h
    · omega⟩
theorem pigeon : ∀ (n : Nat) (l : List Int), l.Nodup → (∀ x ∈ l, 0 ≤ x ∧ x < n) → l.length ≤ n
  | 0, l, _, h => by
    cases l with
    | nil => exact Nat.le_refl _
    | cons x r => have := h x List.mem_cons_self; omega
  | n + 1, l, hn, h => by
    have h1 := pigeon n (l.filter fun x => x != (n : Int)) (hn.sublist List.filter_sublist) fun x hx => by
      have h2 := List.mem_filter.1 hx
      have h3 := h x h2.1
      have h4 : x ≠ (n : Int) := by simpa using h2.2
      omega
    have h5 : l.length ≤ (l.filter fun x => x != (n : Int)).length + 1 := by
      clear h h1
      induction l with
      | nil => exact Nat.zero_le _
      | cons x r ih =>
        rw [List.nodup_cons] at hn
        by_cases hx : x = (n : Int)
        · subst hx
          rw [List.filter_cons_of_neg (by simp), List.filter_eq_self.2 fun y hy => by
            have : y ≠ (n : Int) := fun e => hn.1 (e ▸ hy)
            simpa using this]
          exact Nat.le_refl _
        · rw [List.filter_cons_of_pos (by simpa using hx), List.length_cons, List.length_cons]
          have := ih hn.2
          omega
    omega
theorem parts_few {m : Ms} (h : MsOk m) : m.parts.length ≤ m.count := by
  have := pigeon m.count (m.parts.map Prod.fst) h.nodup fun x hx => by
    obtain ⟨p, hp, rfl⟩ := List.mem_map.1 hx
    exact ⟨(h.part p hp).1, (h.part p hp).2.1⟩
  rwa [List.length_map] at this
def TakePost (b : Nat) (O : Nat → Prop) (bx : Bx) (s : Bs) (w : World) (e : Ending) (w' : World) : Prop :=
  e = .returned (.int .i64 (takeF bx s).1) ∧ ∃ O', IsBox w' O' b (takeF bx s).2 ∧ (∀ k, O' k → O k ∨ w.heap.size ≤ k) ∧ Upd O w w'
theorem take_same {b : Nat} {O : Nat → Prop} {bx : Bx} {s : Bs} {n : Int} {w w' : World} (h : takeF bx s = (n, bx)) (B : IsBox w O b bx) (u : Upd (fun _ => False) w w') : TakePost b O bx s w (.returned (.int .i64 n)) w' :=
  ⟨by rw [h], O, by rw [h]; exact B.keep u, fun k hk => .inl hk, u.mono fun _ h => h.elim⟩

set_option maxRecDepth 100000 in
set_option maxHeartbeats 2000000 in
theorem take_any (b : Nat) (O : Nat → Prop) (bx : Bx) (s : Bs) (w : World) (E : Env w) (h : IsBox w O b bx) (hl : s.length ≤ 10000000) :
    Calls Tryd.prog 12 #[.pointer (some ⟨b, 0, none⟩), .string ⟨s.toArray⟩] w (TakePost b O bx s w) := by
  have HB := hid h; have HE := hid E; have HL := hid hl
  have HZ := hid (show 6 ≤ w.heap.size by obtain ⟨bm, L, B, _⟩ := h; have := B.lt b B.own.1; omega)
  clear h E hl
  cases hp : partF s with
  | none =>
    have HF := hid (show takeF bx s = (2, bx) by unfold takeF; rw [hp])
    have HP := hid (show partR s = .tuple #[.int .i64 0, .int .i64 0, .int .i64 0, .string ⟨#[]⟩, .int .i64 2] by unfold partR; rw [hp])
    clear hp
    go_enter Tryd.func12, Tryd.ntmps12
    go_wp2_with fail
    refine (part_any s w HE.out HZ.out HL.out).mono ?_
    rintro e w1 ⟨rfl, u⟩
    have U := hid u; clear u
    rw [HP.out]
    go_wp2_with fail
    go_ret
    exact take_same HF.out HB.out U.out
  | some p =>
  obtain ⟨⟨t1, t2, t3, t4, t5, t6⟩, t7, t8⟩ := partF_some hp
  have tb := part_bytes hp
  have hm := maxMark_eq
  have HP := hid (show partR s = .tuple #[.int .i64 p.id, .int .i64 p.index, .int .i64 p.count, .string ⟨p.bytes.toArray⟩, .int .i64 0] by unfold partR; rw [hp])
  have HTF := hid (show takeF bx s = (match bx.lookup p.id with
    | some m => if (m.count : Int) ≠ p.count ∨ ((m.parts.lookup p.index).getD p.bytes) ≠ p.bytes then (5, bx) else (0, setM bx p.id (addPart m p.index p.bytes))
    | none => if 100 ≤ bx.length then (6, bx) else (0, putM bx p.id ⟨p.count.toNat, [(p.index, p.bytes)]⟩)) by unfold takeF; rw [hp]; rfl)
  obtain ⟨n, i, c, bs⟩ := p
  dsimp only at *
  have wfn : (Lit.int .i64 n).wf = true := iwf (by omega)
  have wfi : (Lit.int .i64 i).wf = true := iwf (by omega)
  clear hp t4 t5 t6
  obtain ⟨bm, L, B, hbx⟩ := HB.out
  obtain ⟨c0, cf⟩ := cells1 B.head
  have hblt := heap_lt B.head
  have hlk := bx_look L n
  rw [hbx] at hlk
  have hbl : (bxOf L).length = L.length := by unfold bxOf; rw [List.length_map]
  have hpl : (ptrs L).length = L.length := by unfold ptrs; rw [List.length_map]
  have BB := hid B; have HLK := hid hlk; have HBX := hid hbx
  cases hL : L.lookup n with
  | none =>
    have hnone : bx.lookup n = none := by rw [HLK.out, hL]; rfl
    have htf := HTF.out
    rw [hnone] at htf
    dsimp only at htf
    have hbxl : bx.length = L.length := by rw [← HBX.out]; exact hbl
    have HL0 := hid hL
    by_cases hfull : 100 ≤ bx.length
    · rw [if_pos hfull] at htf
      have HF := hid htf
      have hful2 : (100 : Int) ≤ L.length := by omega
      have hful3 : 100 ≤ L.length := by omega
      clear B hlk hbx hbl hL hnone htf hbxl hfull
      go_enter Tryd.func12, Tryd.ntmps12
      go_wp2_with fail
      refine (part_any s w HE.out HZ.out HL.out).mono ?_
      rintro e w1 ⟨rfl, u⟩
      have c1 := cell_kept c0 (u.block b hblt id)
      have hget := (BB.out.map.upd u id).get Tryd.underlying3 Tryd.underlying61 (zeroP w1) wfn
      rw [ptr_look, HL0.out] at hget
      dsimp only [Option.map_none, Option.getD_none] at hget
      have hlen := (BB.out.map.upd u id).len Tryd.underlying61 3
      rw [hpl] at hlen
      have U := hid u; clear u c0
      rw [HP.out]
      go_wp2_with fail
      go_ret
      exact take_same HF.out HB.out U.out
    · rw [if_neg hfull] at htf
      have HF := hid htf
      have hful2 : ¬ (100 : Int) ≤ L.length := by omega
      have hful2b : decide ((100 : Int) ≤ L.length) = false := decide_eq_false hful2
      have hful3b : decide (100 ≤ L.length) = false := decide_eq_false (by omega)
      have HF3 := hid (show L.length < 100 by omega)
      have HT := hid (And.intro t1 (And.intro t2 (And.intro t3 (And.intro t7 (And.intro t8 tb)))))
      have HM := hid hm
      have hmk : ∀ w, (Instr.makeMap 65 none).run Tryd.prog w = .ok (.map (some w.heap.size)) (w.alloc (.map #[] 0)) := fun w => run_makeMap _ w
      clear B hlk hbx hbl hL hnone htf hbxl hfull hful2 t1 t2 t3 t7 t8 tb hm
      go_enter Tryd.func12, Tryd.ntmps12
      go_wp2_with fail
      refine (part_any s w HE.out HZ.out HL.out).mono ?_
      rintro e w1 ⟨rfl, u⟩
      have c1 := cell_kept c0 (u.block b hblt id)
      have hget := (BB.out.map.upd u id).get Tryd.underlying3 Tryd.underlying61 (zeroP w1) wfn
      rw [ptr_look, HL0.out] at hget
      dsimp only [Option.map_none, Option.getD_none] at hget
      have hlen := (BB.out.map.upd u id).len Tryd.underlying61 3
      rw [hpl] at hlen
      have ua := ((Upd.refl (fun _ => False) w1).alloc (.map #[] 0)).alloc (.cells #[.int .i64 c, .map (some w1.heap.size)] 67 (0, 0))
      have hq0 := (MapIs.made (P := Tryd.prog) (k := 3) w1).upd ((Upd.refl (fun _ => False) _).alloc (.cells #[.int .i64 c, .map (some w1.heap.size)] 67 (0, 0))) id
      have hp0 := heap_alloc_new (w := w1.alloc (.map #[] 0)) (o := .cells #[.int .i64 c, .map (some w1.heap.size)] 67 (0, 0))
      rw [World.size_alloc] at hp0
      obtain ⟨w4, r4, m4, u4⟩ := (BB.out.map.upd (u.trans ua) id).put Tryd.underlying3 Tryd.underlying61 (by rw [hpl]; have := HF3.out; unfold maxLen; omega) wfn (.pointer (some ⟨w1.heap.size + 1, 0, none⟩))
      have hbmw := (BB.out.lt bm BB.out.own.2.1).2
      have hne1 : ¬ w1.heap.size + 1 = bm := by have := u.size; omega
      have hne2 : ¬ w1.heap.size = bm := by have := u.size; omega
      have hp4 := (u4.block _ (heap_lt hp0) hne1).trans hp0
      have hq4 := hq0.upd u4 hne2
      obtain ⟨p0, p1, pf⟩ := cells2 hp4
      obtain ⟨w5, r5, m5, u5⟩ := hq4.put Tryd.underlying3 Tryd.underlying65 (by unfold maxLen; decide) wfi (.string ⟨bs.toArray⟩)
      have c2 := cell_kept c1 (ua.block b (Nat.lt_of_lt_of_le hblt u.size) id)
      have U := hid u; have UA := hid ua; have U4 := hid u4; have U5 := hid u5; have M4 := hid m4; have M5 := hid m5; have HP4 := hid hp4; have HQ4 := hid hq4
      clear u c0 ua hq0 hp0 u4 u5 m4 m5 hp4 hq4 hne1 hne2
      rw [HP.out]
      go_wp2_with fail
      go_ret
      refine ⟨by rw [HF.out]; rfl, ?_⟩
      have hsz := U.out.size
      have hs1 := UA.out.size
      obtain ⟨t1, t2, t3, t7, t8, tb⟩ := HT.out
      have hcn : ((c.toNat : Nat) : Int) = c := by omega
      have hq5 : MapIs Tryd.prog 3 w5 w1.heap.size (strs [(i, bs)]) := M5.out
      have hp5 := (U5.out.block _ (heap_lt HP4.out) (cells_ne_map HQ4.out HP4.out)).trans HP4.out
      have hb5 := M4.out.upd U5.out (show ¬ bm = w1.heap.size by omega)
      have hw : Upd (fun k => k = bm ∨ k = w1.heap.size) w w5 := ((U.out.trans UA.out).mono fun _ h => h.elim).trans ((U4.out.mono fun _ h => .inl h).trans (U5.out.mono fun _ h => .inr h))
      have hw2 : Upd (· = bm) w w5 := hw.of_fresh fun k hk => by
        rcases hk with hk | hk
        · exact .inl hk
        · exact .inr (by omega)
      obtain ⟨hB, hbx2⟩ := box_new (x := n) (p := w1.heap.size + 1) (q := w1.heap.size) (m := ⟨c.toNat, [(i, bs)]⟩) BB.out ⟨by dsimp only; omega, by dsimp only; omega, by simp, fun e he => by
        obtain rfl := List.mem_singleton.1 he
        exact ⟨t8, by dsimp only; omega, tb⟩⟩ ⟨t7, t1⟩ HF3.out HL0.out (by dsimp only; rw [hcn]; exact hp5) hq5 hb5 hw2 (by omega) (by omega)
      refine ⟨_, ⟨bm, _, hB, by rw [hbx2, HBX.out, HF.out]⟩, fun k hk => ?_, hw2.mono fun k hk => hk ▸ BB.out.own.2.1⟩
      rcases hk with hk | rfl | rfl
      · exact .inl hk
      · exact .inr (by omega)
      · exact .inr (by omega)
  | some e =>
    obtain ⟨p, q, m⟩ := e
    have hsome : bx.lookup n = some m := by rw [HLK.out, hL]; rfl
    have htf := HTF.out
    rw [hsome] at htf
    dsimp only at htf
    have hM := B.ms _ (lookup_mem hL)
    have hok : MsOk m := ms_of (hbx ▸ B.ok) hsome
    have hmem := lookup_mem hL
    have hplt := heap_lt hM.head
    obtain ⟨m0, m1, mf⟩ := cells2 hM.head
    dsimp only at m0 m1
    have HL0 := hid hL; have HM := hid hM; have HOK := hid hok
    have HT := hid (And.intro t1 (And.intro t2 (And.intro t3 (And.intro t7 (And.intro t8 tb)))))
    clear B hlk hbx hbl hL hsome hM hok hmem hm t1 t2 t3 t7 t8 tb
    have hsl : (strs m.parts).length = m.parts.length := by unfold strs; rw [List.length_map]
    have HPL := hid (parts_few HOK.out)
    by_cases hc : (m.count : Int) = c
    case neg =>
      rw [if_pos (.inl hc)] at htf
      have HF := hid htf
      have hcb : ((m.count : Int) == c) = false := beq_eq_false_iff_ne.2 hc
      clear htf
      cases hx : m.parts.lookup i with
      | none =>
        have HX := hid hx; clear hx
        go_enter Tryd.func12, Tryd.ntmps12
        go_wp2_with fail
        refine (part_any s w HE.out HZ.out HL.out).mono ?_
        rintro e w1 ⟨rfl, u⟩
        have c1 := cell_kept c0 (u.block b hblt id)
        have hget := (BB.out.map.upd u id).get Tryd.underlying3 Tryd.underlying61 (zeroP w1) wfn
        rw [ptr_look, HL0.out] at hget
        dsimp only [Option.map_some, Option.getD_some] at hget
        have k0 := cell_kept m0 (u.block p hplt id)
        have k1 := cell_kept m1 (u.block p hplt id)
        have hgok := (HM.out.map.upd u id).getOk Tryd.underlying3 Tryd.underlying65 (zeroS w1) wfi
        rw [str_look] at hgok
        rw [HX.out] at hgok
        dsimp only [Option.map_none, Option.getD_none, Option.isSome_none] at hgok
        have U := hid u; clear u c0 m0 m1 mf
        rw [HP.out]
        go_wp2_with fail
        go_ret
        exact take_same HF.out HB.out U.out
      | some old =>
        have HX := hid hx; clear hx
        go_enter Tryd.func12, Tryd.ntmps12
        go_wp2_with fail
        refine (part_any s w HE.out HZ.out HL.out).mono ?_
        rintro e w1 ⟨rfl, u⟩
        have c1 := cell_kept c0 (u.block b hblt id)
        have hget := (BB.out.map.upd u id).get Tryd.underlying3 Tryd.underlying61 (zeroP w1) wfn
        rw [ptr_look, HL0.out] at hget
        dsimp only [Option.map_some, Option.getD_some] at hget
        have k0 := cell_kept m0 (u.block p hplt id)
        have k1 := cell_kept m1 (u.block p hplt id)
        have hgok := (HM.out.map.upd u id).getOk Tryd.underlying3 Tryd.underlying65 (zeroS w1) wfi
        rw [str_look] at hgok
        rw [HX.out] at hgok
        dsimp only [Option.map_some, Option.getD_some, Option.isSome_some] at hgok
        have U := hid u; clear u c0 m0 m1 mf
        rw [HP.out]
        go_wp2_with fail
        go_ret
        exact take_same HF.out HB.out U.out
    have hcb : ((m.count : Int) == c) = true := beq_iff_eq.2 hc
    have HCN := hid hc
    cases hx : m.parts.lookup i with
    | none =>
      rw [hx, if_neg (by rintro (h | h); exact h hc; exact h rfl)] at htf
      have HF := hid htf
      have HX := hid hx
      clear htf hx hc
      go_enter Tryd.func12, Tryd.ntmps12
      go_wp2_with fail
      refine (part_any s w HE.out HZ.out HL.out).mono ?_
      rintro e w1 ⟨rfl, u⟩
      have c1 := cell_kept c0 (u.block b hblt id)
      have hget := (BB.out.map.upd u id).get Tryd.underlying3 Tryd.underlying61 (zeroP w1) wfn
      rw [ptr_look, HL0.out] at hget
      dsimp only [Option.map_some, Option.getD_some] at hget
      have k0 := cell_kept m0 (u.block p hplt id)
      have k1 := cell_kept m1 (u.block p hplt id)
      have hgok := (HM.out.map.upd u id).getOk Tryd.underlying3 Tryd.underlying65 (zeroS w1) wfi
      rw [str_look] at hgok
      rw [HX.out] at hgok
      dsimp only [Option.map_none, Option.getD_none, Option.isSome_none] at hgok
      obtain ⟨w5, r5, m5, u5⟩ := (HM.out.map.upd u id).put Tryd.underlying3 Tryd.underlying65 (by have hk := hsl; rw [hk]; have := HPL.out; have := HOK.out.few; unfold maxLen; omega) wfi (.string ⟨bs.toArray⟩)
      have M5 := hid m5; have U5 := hid u5
      clear m5 u5
      have U := hid u; clear u c0 m0 m1 mf
      rw [HP.out]
      go_wp2_with fail
      go_ret
      refine ⟨by rw [HF.out]; rfl, ?_⟩
      obtain ⟨t1, t2, t3, t7, t8, tb⟩ := HT.out
      obtain ⟨hB, hbx2⟩ := box_put (i := i) (bs := bs) (BB.out.upd U.out fun _ _ => id) HL0.out (addPart_ok HOK.out ⟨t8, by have := HCN.out; omega⟩ tb) M5.out U5.out
      refine ⟨O, ⟨bm, _, hB, by rw [hbx2, HBX.out, HF.out]⟩, fun k hk => .inl hk, (U.out.mono fun _ h => h.elim).trans (U5.out.mono fun k hk => ?_)⟩
      have : k = q := hk
      rw [this]
      exact (BB.out.own.2.2 _ (lookup_mem HL0.out)).2
    | some old =>
      by_cases ho : old = bs
      case neg =>
        rw [hx, if_pos (.inr ho)] at htf
        have HF := hid htf
        have HX := hid hx
        have hob : (old == bs) = false := beq_eq_false_iff_ne.2 ho
        clear htf hx hc
        go_enter Tryd.func12, Tryd.ntmps12
        go_wp2_with fail
        refine (part_any s w HE.out HZ.out HL.out).mono ?_
        rintro e w1 ⟨rfl, u⟩
        have c1 := cell_kept c0 (u.block b hblt id)
        have hget := (BB.out.map.upd u id).get Tryd.underlying3 Tryd.underlying61 (zeroP w1) wfn
        rw [ptr_look, HL0.out] at hget
        dsimp only [Option.map_some, Option.getD_some] at hget
        have k0 := cell_kept m0 (u.block p hplt id)
        have k1 := cell_kept m1 (u.block p hplt id)
        have hgok := (HM.out.map.upd u id).getOk Tryd.underlying3 Tryd.underlying65 (zeroS w1) wfi
        rw [str_look] at hgok
        rw [HX.out] at hgok
        dsimp only [Option.map_some, Option.getD_some, Option.isSome_some] at hgok
        have U := hid u; clear u c0 m0 m1 mf
        rw [HP.out]
        go_wp2_with fail
        go_ret
        exact take_same HF.out HB.out U.out
      rw [hx, if_neg (by rintro (h | h); exact h hc; exact h ho)] at htf
      have HF := hid htf
      have HX := hid hx
      have hob : (old == bs) = true := beq_iff_eq.2 ho
      clear htf hx hc
      go_enter Tryd.func12, Tryd.ntmps12
      go_wp2_with fail
      refine (part_any s w HE.out HZ.out HL.out).mono ?_
      rintro e w1 ⟨rfl, u⟩
      have c1 := cell_kept c0 (u.block b hblt id)
      have hget := (BB.out.map.upd u id).get Tryd.underlying3 Tryd.underlying61 (zeroP w1) wfn
      rw [ptr_look, HL0.out] at hget
      dsimp only [Option.map_some, Option.getD_some] at hget
      have k0 := cell_kept m0 (u.block p hplt id)
      have k1 := cell_kept m1 (u.block p hplt id)
      have hgok := (HM.out.map.upd u id).getOk Tryd.underlying3 Tryd.underlying65 (zeroS w1) wfi
      rw [str_look] at hgok
      rw [HX.out] at hgok
      dsimp only [Option.map_some, Option.getD_some, Option.isSome_some] at hgok
      obtain ⟨w5, r5, m5, u5⟩ := (HM.out.map.upd u id).put Tryd.underlying3 Tryd.underlying65 (by have hk := hsl; rw [hk]; have := HPL.out; have := HOK.out.few; unfold maxLen; omega) wfi (.string ⟨bs.toArray⟩)
      have M5 := hid m5; have U5 := hid u5
      clear m5 u5
      have U := hid u; clear u c0 m0 m1 mf
      rw [HP.out]
      go_wp2_with fail
      go_ret
      refine ⟨by rw [HF.out]; rfl, ?_⟩
      obtain ⟨t1, t2, t3, t7, t8, tb⟩ := HT.out
      obtain ⟨hB, hbx2⟩ := box_put (i := i) (bs := bs) (BB.out.upd U.out fun _ _ => id) HL0.out (addPart_ok HOK.out ⟨t8, by have := HCN.out; omega⟩ tb) M5.out U5.out
      refine ⟨O, ⟨bm, _, hB, by rw [hbx2, HBX.out, HF.out]⟩, fun k hk => .inl hk, (U.out.mono fun _ h => h.elim).trans (U5.out.mono fun k hk => ?_)⟩
      have : k = q := hk
      rw [this]
      exact (BB.out.own.2.2 _ (lookup_mem HL0.out)).2
end Go.Proofs.YtabnniabofhihaaDoor
