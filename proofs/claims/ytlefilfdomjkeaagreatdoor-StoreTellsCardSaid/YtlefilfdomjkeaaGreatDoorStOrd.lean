/- The pages of a flash in a map, and its keys in their order. -/
import Derived.Test.YtlefilfdomjkeaaGreatDoorStI
import Derived.Test.YtlefilfdomjkeaaGreatDoorIter
namespace Go.Proofs.YtlefilfdomjkeaaGreatDoor
open Go.RowKit Go.Deep Go.Maps Go.Sort Go.Shelf

/-! ## Plain -/
theorem insP_perm (p : Pg) : ∀ l : List Pg, (insP p l).Perm (p :: l)
  | [] => List.Perm.refl _
  | q :: l => by
    rw [insP]
    split
    · exact List.Perm.refl _
    · exact ((insP_perm p l).cons q).trans (List.Perm.swap _ _ _)
theorem srt_perm : ∀ (l acc : List Pg), (l.foldl (fun acc p => insP p acc) acc).Perm (l ++ acc)
  | [], acc => List.Perm.refl _
  | p :: l, acc => by
    rw [List.foldl_cons]
    refine (srt_perm l (insP p acc)).trans (((insP_perm p acc).append_left l).trans ?_)
    exact List.perm_middle
theorem pages_perm (F : Fl) : (pagesP F).Perm (vals F) := by
  have := srt_perm (vals F) []
  rw [List.append_nil] at this
  exact this
/-- The valid pages among the first ones. -/
def valsTo (F : Fl) (i : Nat) : List Pg := (List.range i).filterMap (validAt F)
theorem valsTo_all (F : Fl) : valsTo F (F.nb * F.np) = vals F := rfl
theorem valsTo_none {F : Fl} {i : Nat} (h : validAt F i = none) : valsTo F (i + 1) = valsTo F i := by
  unfold valsTo
  rw [List.range_succ, List.filterMap_append]
  simp [h]
theorem valsTo_some {F : Fl} {i : Nat} {p : Pg} (h : validAt F i = some p) : valsTo F (i + 1) = valsTo F i ++ [p] := by
  unfold valsTo
  rw [List.range_succ, List.filterMap_append]
  simp [h]
theorem valsTo_pos {F : Fl} {i : Nat} {p : Pg} (h : p ∈ valsTo F i) : p.pos % (F.nb * F.np) < i := by
  unfold valsTo at h
  rw [List.mem_filterMap] at h
  obtain ⟨j, hj, h⟩ := h
  obtain ⟨_, _, _, _, e⟩ := validAt_some h
  have := List.mem_range.1 hj
  omega
theorem vals_len (F : Fl) : (pagesP F).length ≤ F.nb * F.np := by
  rw [(pages_perm F).length_eq]
  have := List.length_filterMap_le (validAt F) (List.range (F.nb * F.np))
  rw [List.length_range] at this
  exact this
def kvP (p : Pg) : Int × Value := ((p.pos : Int), .agg (pgC p))
def kvL (l : List Pg) : List (Int × Value) := l.reverse.map kvP
theorem kvL_fst (l : List Pg) : (kvL l).map Prod.fst = l.reverse.map fun p => (p.pos : Int) := by unfold kvL; rw [List.map_map]; rfl
theorem kvL_put {F : Fl} {i : Nat} {p : Pg} (h : validAt F i = some p) : putM (kvL (valsTo F i)) (p.pos : Int) (.agg (pgC p)) = kvL (valsTo F (i + 1)) := by
  rw [valsTo_some h]
  have hd : delM (kvL (valsTo F i)) (p.pos : Int) = kvL (valsTo F i) := by
    unfold delM
    rw [List.filter_eq_self]
    intro a ha
    unfold kvL at ha
    obtain ⟨q, hq, rfl⟩ := List.mem_map.1 ha
    have h1 := valsTo_pos (List.mem_reverse.1 hq)
    obtain ⟨_, _, _, _, e⟩ := validAt_some h
    have : q.pos ≠ p.pos := fun e2 => by rw [e2] at h1; omega
    simp [kvP]
    omega
  unfold putM
  rw [hd]
  unfold kvL
  rw [List.reverse_append]
  rfl
theorem kvL_lookup {F : Fl} (hn : ((kvL (vals F)).map Prod.fst).Nodup) : ∀ p ∈ pagesP F, (kvL (vals F)).lookup (p.pos : Int) = some (.agg (pgC p)) := by
  intro p hp
  refine mem_lookup hn ?_
  unfold kvL
  exact List.mem_map.2 ⟨p, List.mem_reverse.2 ((pages_perm F).mem_iff.1 hp), rfl⟩
theorem kvL_order (F : Fl) : ((kvL (vals F)).map Prod.fst).mergeSort leI = (pagesP F).map fun p => (p.pos : Int) := by
  have hp : ((kvL (vals F)).map Prod.fst).Perm ((pagesP F).map fun p => (p.pos : Int)) := by
    rw [kvL_fst]
    exact ((List.reverse_perm _).trans (pages_perm F).symm).map _
  rw [mergeSort_of_perm_i hp]
  refine List.mergeSort_of_pairwise ?_
  rw [List.pairwise_map]
  refine (pages_sorted F).imp fun h => ?_
  simp [leI]
  omega
theorem read_at (F : Fl) (ok : F.Ok) (hd : F.down = false) {i : Nat} (hi : i < F.nb * F.np) : F.read (i / F.np : Nat) (i % F.np : Nat) = match pageAt F i with | some s => (s, 0) | none => (ByteArray.empty, 4) := by
  have hk : 0 < F.np := by have := ok.np; omega
  have h1 : i / F.np < F.nb := by rw [Nat.div_lt_iff_lt_mul hk]; exact hi
  have h2 := Nat.mod_lt i hk
  unfold Fl.read pageAt
  rw [if_pos (Fl.atErr_ok hd (Int.natCast_nonneg _) (Int.ofNat_lt.2 h1) (Int.natCast_nonneg _) (Int.ofNat_lt.2 h2)), Int.toNat_natCast, Int.toNat_natCast]
  cases (F.blk (i / F.np)).page (i % F.np) <;> rfl

/-! ## maps.Keys, slices.Sorted -/
theorem sortsA (m : Nat) : AnyZI.SortsIn Tryz.prog Tryz.sortedA_ren Fence.wide m :=
  ⟨fun blk off cap ss W hH hblk hsz => callsIn_wide.2 (AnyM.slices_Sort_int Tryz.sortA blk off cap ss W hH hblk hsz),
   fun p cap W => callsIn_wide.2 (AnyM.slices_Sort_int_none Tryz.sortA p cap W)⟩
theorem keys_perm {w : World} {bm : Nat} {l : List (Int × Value)} {D : DataW Value} (hn : (l.map Prod.fst).Nodup) (ho : w.ownsMap Tryz.prog 3 RV bm l.length D)
    (h1 : ∀ x v, l.lookup x = some v → Maps.has D (.int .i64 x) = true ∧ ∀ z, D.atKey (.int .i64 x) z = .held v) (h2 : ∀ x, l.lookup x = none → Maps.has D (.int .i64 x) = false) : (l.map Prod.fst).Perm (intKeys D) :=
  CollectedI.perm (left := fun _ => false) ⟨hn, fun x => by
    cases hl : l.lookup x with
    | none =>
      have h3 := h2 x hl
      have h4 := lookup_none_iff.1 hl
      constructor
      · intro h; exact absurd h h4
      · intro h; rw [h3] at h; cases h.1
    | some v =>
      have h3 := (h1 x v hl).1
      exact ⟨fun _ => ⟨h3, rfl⟩, fun _ => List.mem_map.2 ⟨_, lookup_mem hl, rfl⟩⟩⟩ ho (int_keyed Tryz.underlying3) Tryz.underlying3 fun _ => rfl
theorem keys_any (mb : Option Nat) (W : World) : Calls Tryz.prog 36 #[.map mb] W fun e w' => e = .returned (.func (.func 64) #[] #[.pointer (some ⟨W.heap.size, 0, none⟩)]) ∧ w' = W.alloc (.cells #[.map mb] 73) :=
  callsIn_wide.1 (AnyZI.keys_in Tryz.keysA Fence.wide 5 trivial rfl mb W)
theorem sorted_any {w : World} {bm : Nat} {l : List (Int × Value)} (M : MapIs Tryz.prog 3 w bm l) (hl : l.length ≤ 1000000) {ks : List Int} (hks : (l.map Prod.fst).mergeSort leI = ks) :
    Calls Tryz.prog 35 #[.func (.func 64) #[] #[.pointer (some ⟨w.heap.size, 0, none⟩)]] (w.alloc (.cells #[.map (some bm)] 73)) fun e w' => ∃ v, e = .returned v ∧ w'.ownsRow w.heap.size 3 1 v ks.length (ks.map fun x => .int .i64 x) ∧ Upd (fun _ => False) w w' := by
  obtain ⟨hnd, D0, hown, hsz, h1, h2⟩ := M
  have hperm := keys_perm hnd hown h1 h2
  have hmax : Maps.size D0 ≤ maxLen := by rw [hsz]; unfold maxLen; omega
  have hbytes : Maps.size D0 * 8 ≤ 140737488355328 := by rw [hsz]; omega
  have hbl := hown.lt
  have hseq : SeqGives Fence.wide 2 Tryz.prog 64 #[.pointer (some ⟨w.heap.size, 0, none⟩)] encZ (fun ss => ss.Perm (intKeys D0)) (Maps.size D0) (w.alloc (.cells #[.map (some bm)] 73)) :=
    AnyZI.keys_gives (ρ := Tryz.keysA_ren) { Tryz.keysA with } Fence.wide _ trivial rfl (by omega) w.heap.size bm l.length D0 _ (by simp) (by simp) (by
      obtain ⟨es, clock, hb, Ft, hs, hD⟩ := hown
      exact ⟨es, clock, (Below.heap_alloc _ _ bm hbl).trans hb, Ft, hs, hD⟩)
  have cS := AnyZI.sorted_in Tryz.sortedA Fence.wide 5 trivial trivial trivial trivial rfl (by omega) (sortsA _) (enters_of Tryz.func63 (by kernel_rfl) rfl) 64 #[.pointer (some ⟨w.heap.size, 0, none⟩)] trivial (enters_of Tryz.func64 (by kernel_rfl) rfl) _ _ hmax hbytes _ hseq
  change CallsIn _ _ Tryz.prog 35 _ _ _ at cS
  refine (callsIn_wide.1 cS).mono ?_
  rintro e w' ⟨v, ss, rfl, hS, hrow, hnil, hb⟩
  have hrow' := ownsRow_base_a hrow (Nat.le_of_lt (by simp : w.heap.size < (w.alloc (.cells #[.map (some bm)] 73)).heap.size))
  have hss : ss.mergeSort leI = ks := (mergeSort_of_perm_i (hS.trans hperm.symm)).trans hks
  have hl2 : ss.length = ks.length := by rw [← hss, List.length_mergeSort]
  refine ⟨v, rfl, by rw [← hl2, ← hss]; exact hrow', Upd.of_below (((Below.refl _ w).alloc (Nat.le_refl _) _).trans (hb.mono (by simp))) fun k hk _ => hk⟩
end Go.Proofs.YtlefilfdomjkeaaGreatDoor
