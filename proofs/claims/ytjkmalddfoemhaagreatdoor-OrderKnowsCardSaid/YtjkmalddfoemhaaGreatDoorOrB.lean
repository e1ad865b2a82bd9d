/- Walks: slices.Compact at ints; the rounds of a day (rounds). -/
import Derived.Test.YtjkmalddfoemhaaGreatDoorRm
import Derived.Test.YtjkmalddfoemhaaGreatDoorOrBase
import Derived.Shelf.SlicesG.CompactI
namespace Go.Proofs.YtjkmalddfoemhaaGreatDoor
open Go.RowKit Go.Deep Go.Sort Go.Shelf

theorem compact_ok {l : List Int} (h : l.Pairwise (· ≤ ·)) : (Lib.compact l).Pairwise (· < ·) ∧ ∀ x, x ∈ Lib.compact l ↔ x ∈ l := by
  have hget : ∀ i (hi : i < l.length), (l.toArray[i]! : Int) = l[i] := fun i hi => by rw [getElem!_pos _ i (by simpa using hi)]; simp
  rw [List.pairwise_iff_getElem] at h
  unfold Lib.compact Lib.compactUpTo
  constructor
  · rw [List.pairwise_map]
    refine ((List.pairwise_lt_range).filter _).imp_of_mem fun {a b} ha hb hab => ?_
    obtain ⟨ha1, _⟩ := List.mem_filter.1 ha
    obtain ⟨hb1, hb2⟩ := List.mem_filter.1 hb
    rw [List.mem_range] at ha1 hb1
    unfold Lib.keeps at hb2
    rw [decide_eq_true_eq] at hb2
    rw [hget a ha1, hget b hb1]
    rcases hb2 with c | c
    · omega
    · rw [hget b hb1, hget (b - 1) (by omega)] at c
      have h1 := h (b - 1) b (by omega) hb1 (by omega)
      by_cases e : a = b - 1
      · subst e; omega
      · have h2 := h a (b - 1) ha1 (by omega) (by omega)
        omega
  · intro x
    rw [List.mem_map]
    constructor
    · rintro ⟨i, hi, rfl⟩
      have hi := List.mem_range.1 (List.mem_filter.1 hi).1
      rw [hget i hi]
      exact List.getElem_mem hi
    · intro hx
      obtain ⟨i, hi, hix⟩ := List.getElem_of_mem hx
      have key : ∀ i (hi : i < l.length), l[i] = x → ∃ j, ∃ (hj : j < l.length), l[j] = x ∧ Lib.keeps l.toArray j = true := by
        intro i
        induction i with
        | zero => exact fun hi e => ⟨0, hi, e, by simp [Lib.keeps]⟩
        | succ i ih =>
          intro hi e
          by_cases c : l[i] = x
          · exact ih (by omega) c
          · refine ⟨i + 1, hi, e, ?_⟩
            unfold Lib.keeps
            rw [decide_eq_true_eq]
            refine .inr ?_
            rw [hget (i + 1) hi, Nat.add_sub_cancel, hget i (by omega), e]
            exact fun q => c q.symm
      obtain ⟨j, hj, e, hk⟩ := key i hi hix
      exact ⟨j, List.mem_filter.2 ⟨List.mem_range.2 hj, hk⟩, by rw [hget j hj, e]⟩
theorem sortI_le (l : List Int) : (sortI l).Pairwise (· ≤ ·) := by
  have := List.pairwise_mergeSort (le := fun a b : Int => decide (a ≤ b)) (by intro a b c h1 h2; simp at *; omega) (by intro a b; simp; omega) l
  exact this.imp fun q => by simpa using q
theorem compact_sort (l : List Int) : Lib.compact (sortI l) = risingF l := by
  obtain ⟨h1, h2⟩ := compact_ok (sortI_le l)
  obtain ⟨h3, h4⟩ := rising_ok l
  exact sorted_unique (fun a b p q => by omega) (fun a p => by omega) h1 h3 fun z => by rw [h2, h4, sortI_mem]
theorem compactI_any (v : Value) (l : List Int) (B : Nat) (w : World) (h : w.ownsRow B 3 1 v l.length (l.map fun x => .int .i64 x)) (hl : l.length ≤ 1000000) :
    Calls Tryz.prog 244 #[v] w fun e w' => ∃ v', e = .returned v' ∧ w'.ownsRow B 3 1 v' (Lib.compact l).length ((Lib.compact l).map fun x => .int .i64 x) ∧ Upd (fun g => v.ownBlock = some g) w w' := by
  have hle : (Lib.compact l).length ≤ l.length := by
    unfold Lib.compact Lib.compactUpTo
    rw [List.length_map]
    exact Nat.le_trans (List.length_filter_le _ _) (by rw [List.length_range]; exact Nat.le_refl _)
  obtain ⟨h1, ⟨rfl, h3⟩ | ⟨g, cap, cur, rfl, hb, hg, hn, hc, hs, ht⟩⟩ := id h
  · have h0 : l = [] := List.length_eq_zero_iff.1 h3
    subst h0
    have hcon := AnyG.slices_Compact_int_empty Tryz.compactA none 0 w
    change Calls Tryz.prog 244 _ _ _ at hcon
    refine hcon.mono ?_
    rintro e w' ⟨rfl, rfl⟩
    exact ⟨_, rfl, by simpa [Lib.compact, Lib.compactUpTo] using h, Upd.refl _ _⟩
  · have hcs : cur.toList.length = cap := by simpa using hs
    have hcur : w.heap[g]? = some (.cells ((l.map fun x => Value.int .i64 x) ++ cur.toList.drop l.length).toArray 3 (0, 0)) := by
      rw [hg]; congr 2; rw [← ht, Nat.mul_one, List.take_append_drop]
    have hH : Holds (Value.int .i64) w g 0 l.toArray := by
      intro j hj
      refine ⟨?_, frozen_of_block hg⟩
      have hj' : j < l.length := by simpa using hj
      rw [Nat.zero_add, cell_of_block hcur, List.getElem?_toArray, List.getElem?_append_left (by simpa using hj'), List.getElem?_map, List.getElem?_eq_getElem hj', getElem!_pos _ j hj]
      simp
    have hcon := AnyG.slices_Compact_int Tryz.compactA g 0 cap l w hH (by omega) hn
    change Calls Tryz.prog 244 _ _ _ at hcon
    refine hcon.mono ?_
    rintro e w' ⟨he, m, hw⟩
    subst hw
    obtain ⟨new, hnw⟩ : ∃ new, Lib.compact l ++ List.replicate (l.length - (Lib.compact l).length) (0 : Int) = new := ⟨_, rfl⟩
    have hsl : new.length = l.length := by rw [← hnw, List.length_append, List.length_replicate]; omega
    have hs1 : (putRow (Value.int .i64) (Sort.ahead w m) g 0 new.toArray).heap.size = w.heap.size := by simp [putRow, mapBlock, Sort.ahead]
    have hlt := heap_lt hg
    have hnew : (putRow (Value.int .i64) (Sort.ahead w m) g 0 new.toArray).heap[g]? = some (.cells ((new.map fun x => Value.int .i64 x) ++ cur.toList.drop l.length).toArray 3 (0, 0)) := by
      unfold putRow mapBlock
      show ((w.heap.modify g _)[g]?) = _
      rw [Array.getElem?_modify, if_pos rfl, hcur, Option.map_some]
      show some (Obj.cells (putCells (Value.int .i64) 0 _ _) _ _) = _
      congr 2
      apply Array.ext_getElem?
      intro k
      simp only [putCells, Array.getElem?_mapIdx, List.getElem?_toArray, Nat.zero_le, true_and, Nat.zero_add, List.size_toArray, Nat.sub_zero]
      by_cases hk : k < new.length
      · rw [List.getElem?_append_left (by simp; omega), List.getElem?_append_left (by simpa using hk), List.getElem?_map, List.getElem?_map, List.getElem?_eq_getElem hk, List.getElem?_eq_getElem (by omega), Option.map_some, Option.map_some, Option.map_some, if_pos hk, getElem!_pos _ k (by simpa using hk)]
        simp
      · rw [List.getElem?_append_right (by simp; omega), List.getElem?_append_right (by simp; omega)]
        simp only [List.length_map]
        rw [hsl]
        cases hr : (cur.toList.drop l.length)[k - l.length]? with
        | none => rfl
        | some y => rw [Option.map_some, if_neg (by omega)]
    rw [hnw]
    refine ⟨_, he, ⟨by simp, .inr ⟨g, cap, _, rfl, hb, hnew, Nat.le_trans hle hn, hc, ?_, ?_⟩⟩, rfl, rfl, rfl, ?_, ?_⟩
    · simp; omega
    · rw [List.toList_toArray, Nat.mul_one, ← hnw, List.map_append, List.append_assoc, List.take_left' (by simp)]
    · rw [hs1]; exact Nat.le_refl _
    · intro i hi hne
      unfold putRow mapBlock
      show (w.heap.modify g _)[i]? = _
      rw [Array.getElem?_modify, if_neg fun e => hne (by rw [← e]; rfl)]
theorem acts_get {L : List AcC} {k : Nat} (h : k < (actsOf L).length) (hk : k < L.length) : (actsOf L)[k] = L[k].a := by
  have e : (L.map AcC.a)[k]'(by rw [List.length_map]; exact hk) = L[k].a := List.getElem_map _
  exact e
structure VwAt (w : World) (A : Nat → Prop) (B : Nat) (s : Stp) (ak : Option Addr) (ck : Nat) (av : Option Addr) (cv : Nat) (L : List AcC) : Prop where
  stp : StpAt w A s ak ck
  acts : ActsAt w B (.slice av L.length cv) L
  lt : ∀ g, A g → g < w.heap.size
  keys : s.keys.length ≤ 1000
  few : L.length ≤ 1000
  wf : ∀ c ∈ L, I64 c.a.en.n ∧ I64 c.a.en.m ∧ I64 c.a.en.kind ∧ (Lit.int .i64 c.a.en.author).wf = true ∧ (Lit.int .i64 c.a.value).wf = true
theorem VwAt.keep {w w' : World} {A : Nat → Prop} {B : Nat} {s : Stp} {ak : Option Addr} {ck : Nat} {av : Option Addr} {cv : Nat} {L : List AcC} (h : VwAt w A B s ak ck av cv L) (u : Upd (fun _ => False) w w') : VwAt w' A B s ak ck av cv L :=
  ⟨h.stp.keep u, ownsRow_upd h.acts u fun _ _ => id, fun g hg => Nat.lt_of_lt_of_le (h.lt g hg) u.size, h.keys, h.few, h.wf⟩
def viewV (s : Stp) (ak : Option Addr) (ck : Nat) (av : Option Addr) (n cv : Nat) : Value := .agg #[.slice ak s.keys.length ck, .int .i64 s.liars, .int .i64 s.seed, .slice av n cv]
theorem cells4 {w : World} {p : Nat} {a b c d : Value} {t : TypeId} (h : w.heap[p]? = some (.cells #[a, b, c, d] t (0, 0))) : w.cell? ⟨p, 0, none⟩ = some a ∧ w.cell? ⟨p, 1, none⟩ = some b ∧ w.cell? ⟨p, 2, none⟩ = some c ∧ w.cell? ⟨p, 3, none⟩ = some d := by
  refine ⟨?_, ?_, ?_, ?_⟩ <;> (rw [cell_of_block h]; rfl)
set_option maxRecDepth 100000 in
set_option maxHeartbeats 4000000 in
theorem rounds_any {A : Nat → Prop} {B : Nat} {s : Stp} {ak : Option Addr} {ck : Nat} {av : Option Addr} {cv : Nat} {L : List AcC} {w : World} (h : VwAt w A B s ak ck av cv L) (kind day : Int) : Calls Tryz.prog 187 #[viewV s ak ck av L.length cv, .int .i64 kind, .int .i64 day] w (IntsPost (roundsF (actsOf L) kind day) w) := by
  obtain ⟨W1, hW1⟩ : ∃ W1, W1 = w.alloc (.cells #[.slice ak s.keys.length ck, .int .i64 s.liars, .int .i64 s.seed, .slice av L.length cv] 167 (0, 0)) := ⟨_, rfl⟩
  have u1 : Upd (fun _ => False) w W1 := by rw [hW1]; exact (Upd.refl _ _).alloc _
  have HB := hid (show W1.heap[w.heap.size]? = some (.cells #[.slice ak s.keys.length ck, .int .i64 s.liars, .int .i64 s.seed, .slice av L.length cv] 167 (0, 0)) by rw [hW1]; exact heap_alloc_new)
  have HV := hid (h.keep u1); have U := hid u1; have HW := hid hW1
  obtain ⟨p, hp⟩ : ∃ p, w.heap.size = p := ⟨_, rfl⟩
  rw [hp] at HB
  have HP := hid hp
  obtain ⟨_, cvx, ev, hv1, hv2⟩ : ∃ a c, (Value.slice av L.length cv) = .slice a L.length c ∧ L.length ≤ c ∧ c ≤ maxLen := own_slice h.acts
  have ev : cv = cvx := by injection ev
  subst ev
  have hv2 : cv ≤ 9223372036854775807 := hv2
  have hfew := h.few
  have HNI := hid (fun c hc => (h.wf c hc).1)
  obtain ⟨N, hN⟩ : ∃ N, L.length = N := ⟨_, rfl⟩
  have HN := hid hN
  have HLA := hid (show (actsOf L).length = N by unfold actsOf; rw [List.length_map]; exact hN)
  have GET := hid (fun (y : World) (u : Upd (fun _ => False) W1 y) (hp : 0 < L.length) => (show ∃ g, av = some ⟨g, 0, none⟩ ∧ ∀ i (hi : i < L.length), ActCs y g (i * 15) L[i] from by
    obtain ⟨g, c, e, _, _, _, hgl, hc⟩ := ActsAt.get (HV.out.keep u).acts hp
    injection e with e1 _ _
    exact ⟨g, e1, fun i hi => ⟨fun j hj => hc i hi j hj⟩⟩))
  rw [hN] at HB HW hv1 hfew ⊢
  clear hW1 u1 h hp hN
  unfold viewV
  go_enter Tryz.func187, Tryz.ntmps187
  go_upto_region 1 with (fail)
  rw [← HW.out]
  try rw [HP.out]
  obtain ⟨m0, m1, m2, m3⟩ := cells4 HB.out
  clear HW
  go_wp2_with fail
  go_loopg [7, 13] N (fun gg s7 s13 wr => ∃ k : Nat, k ≤ N ∧ gg = N - k ∧ s13 = .int .i64 k ∧ wr.ownsRow W1.heap.size 3 1 s7 (roundTo (actsOf L) kind day k).length ((roundTo (actsOf L) kind day k).map fun x => .int .i64 x) ∧ Upd (fun _ => False) W1 wr)
  case atStart => exact ⟨0, Nat.zero_le _, rfl, rfl, World.ownsRow_nil _ _ _ _, Upd.refl _ _⟩
  case round =>
    obtain ⟨k, hk, hg, rfl, hown, u1⟩ := hrel
    have HG := hid hg; have OW := hid hown; have U1 := hid u1
    have RTL := hid (roundTo_len (actsOf L) kind day k)
    clear hg hown u1 m0 m1 m2 m3
    by_cases hlt : k < N
    case neg =>
      have hlti : ¬ (k : Int) < N := by omega
      have KE := hid (roundTo_all (acts := actsOf L) (kind := kind) (day := day) (k := k) (by rw [HLA.out]; omega))
      go_wp2_with fail
      refine (sortI_any _ _ _ _ OW.out (by have := RTL.out; omega)).mono ?_
      rintro en w2 ⟨rfl, ho, u⟩
      have OW2 := hid ho
      have UW2 := hid (U1.out.comp u fun i hi e => by have := (own_lt OW.out i e).1; omega)
      clear ho u
      go_wp2_with fail
      refine (compactI_any _ _ _ _ OW2.out (by rw [(sortI_perm _).length_eq]; have := RTL.out; omega)).mono ?_
      rintro en w3 ⟨v3, rfl, ho, u⟩
      rw [KE.out, compact_sort] at ho
      have OW3 := hid ho
      have UW3 := hid (UW2.out.comp u fun i hi e => by have := (own_lt OW2.out i e).1; omega)
      clear ho u
      go_wp2_with fail
      go_ret
      exact ⟨_, rfl, ownsRow_base OW3.out U.out.size, U.out.trans UW3.out⟩
    have hlti : (k : Int) < N := by omega
    have hk1 : (k : Int) + 1 ≤ 100000 := by omega
    have hkl : k < L.length := by rw [HN.out]; exact hlt
    have hka : k < (actsOf L).length := by rw [HLA.out]; exact hlt
    obtain ⟨g, rfl, hc⟩ := GET.out _ U1.out (by omega)
    have NK := hid (hc k hkl)
    have EA : (actsOf L)[k] = L[k].a := acts_get hka hkl
    have YES := hid (fun e => roundTo_yes (acts := actsOf L) (kind := kind) (day := day) hka e)
    have NO := hid (fun e => roundTo_no (acts := actsOf L) (kind := kind) (day := day) hka e)
    rw [EA] at YES NO
    obtain ⟨c, hcc⟩ : ∃ c, L[k] = c := ⟨_, rfl⟩
    rw [hcc] at NK YES NO
    obtain ⟨W2, hW2⟩ : ∃ W2, W2 = wr.alloc (.cells c.cells.toArray 184 (0, 0)) := ⟨_, rfl⟩
    have u2 : Upd (fun _ => False) wr W2 := by rw [hW2]; exact (Upd.refl _ _).alloc _
    have hb2 : W2.heap[wr.heap.size]? = some (.cells c.cells.toArray 184 (0, 0)) := by rw [hW2]; exact heap_alloc_new
    obtain ⟨_, q1, q5, q8, q9, _, _⟩ := act_cells hb2
    have HW2 := hid hW2
    have U12 := hid (U1.out.trans u2)
    have OW2 := hid (ownsRow_upd OW.out u2 fun _ _ => id)
    obtain ⟨x, hx⟩ : ∃ x, c.a.en = x := ⟨_, rfl⟩
    have HXK := hid hx
    rw [hx] at q1 q5 q8 q9 YES NO
    clear hc hcc hW2 u2 hb2 hx EA
    go_upto_region 4 with (fail)
    refine wp_region_lit ?_
    refine op_index rfl _ _ _ rfl rfl rfl (act_index hlt hv1 hv2 _) ?_
    (try go_frame)
    refine op_load rfl _ _ rfl rfl (act_load NK.out) ?_
    (try go_frame)
    refine op_alloc rfl _ rfl (act_alloc _) ?_
    (try go_frame)
    refine op_store rfl _ _ _ rfl rfl rfl (act_store _ _) ?_
    rw [← HW2.out]
    refine wpList_nil ?_
    go_frame
    by_cases t1 : x.kind = kind
    case neg =>
      have d1 : (x.kind == kind) = false := beq_eq_false_iff_ne.2 t1
      have ST := hid (NO.out fun q => t1 q.1)
      go_wp2_with fail
      go_roundg (N - (k + 1))
      case measure => have := HG.out; omega
      case rel => exact ⟨k + 1, by omega, rfl, by go_num, by rw [ST.out]; exact OW2.out, U12.out⟩
    have d1 : (x.kind == kind) = true := beq_iff_eq.2 t1
    by_cases t2 : x.m = day
    case neg =>
      have d2 : (x.m == day) = false := beq_eq_false_iff_ne.2 t2
      have ST := hid (NO.out fun q => t2 q.2)
      go_wp2_with fail
      go_roundg (N - (k + 1))
      case measure => have := HG.out; omega
      case rel => exact ⟨k + 1, by omega, rfl, by go_num, by rw [ST.out]; exact OW2.out, U12.out⟩
    have d2 : (x.m == day) = true := beq_iff_eq.2 t2
    have ST := hid (YES.out ⟨t1, t2⟩)
    obtain ⟨v', w4, r4, o4, u4, n4⟩ := append_one elemI OW2.out #[.int .i64 x.n] rfl (by simp [Value.oneCell']) (by have := RTL.out; unfold maxLen; omega) (by have := RTL.out; omega) U12.out.size 30 (0, 0)
    have O4 := hid o4; have R4 := hid r4; have U4 := hid u4
    have OB := hid (fun i e => (own_lt OW2.out i e).1)
    clear o4 u4 n4 r4
    go_wp2_with (at_builtin; refine wpList_append_run rfl _ _ _ _ rfl rfl rfl R4.out ?_)
    go_roundg (N - (k + 1))
    case measure => have := HG.out; omega
    case rel =>
      refine ⟨k + 1, by omega, rfl, by go_num, ?_, U12.out.comp U4.out fun i hi e => by have := OB.out i e; omega⟩
      rw [ST.out, List.length_append, List.map_append]
      exact O4.out
end Go.Proofs.YtjkmalddfoemhaaGreatDoor
