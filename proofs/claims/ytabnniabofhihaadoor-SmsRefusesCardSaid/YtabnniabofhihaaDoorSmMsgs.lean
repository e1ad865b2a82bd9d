/- sms.Messages: the messages' numbers, in their order. -/
import Derived.Test.YtabnniabofhihaaDoorSmRefSt
import Derived.Test.YtabnniabofhihaaDoorIter
namespace Go.Proofs.YtabnniabofhihaaDoor
open Go.RowKit Go.Deep Go.Maps Go.Sort Go.Shelf

/-- slices.Sort's two contracts at this dump, at the fence that asks nothing. -/
theorem sortsA (m : Nat) : AnyZI.SortsIn Tryd.prog Tryd.sortedA_ren Fence.wide m :=
  ⟨fun blk off cap ss W hH hblk hsz => callsIn_wide.2 (AnyM.slices_Sort_int Tryd.sortA blk off cap ss W hH hblk hsz),
   fun p cap W => callsIn_wide.2 (AnyM.slices_Sort_int_none Tryd.sortA p cap W)⟩
theorem keys_perm {w : World} {bm : Nat} {l : List (Int × Value)} {D : DataW Value} (hn : (l.map Prod.fst).Nodup) (ho : w.ownsMap Tryd.prog 3 RV bm l.length D)
    (h1 : ∀ x v, l.lookup x = some v → Maps.has D (.int .i64 x) = true ∧ ∀ z, D.atKey (.int .i64 x) z = .held v) (h2 : ∀ x, l.lookup x = none → Maps.has D (.int .i64 x) = false) : (l.map Prod.fst).Perm (intKeys D) :=
  CollectedI.perm (left := fun _ => false) ⟨hn, fun x => by
    cases hl : l.lookup x with
    | none =>
      have h3 := h2 x hl
      have h4 := lookup_none_iff.1 hl
      constructor
      · intro h; exact absurd h h4
      · intro h; rw [h3] at h; cases h.1
    | some v =>
      have h3 := (h1 x v hl).1
      exact ⟨fun _ => ⟨h3, rfl⟩, fun _ => List.mem_map.2 ⟨_, lookup_mem hl, rfl⟩⟩⟩ ho (int_keyed Tryd.underlying3) Tryd.underlying3 fun _ => rfl
set_option maxRecDepth 100000 in
set_option maxHeartbeats 2000000 in
theorem messages_any (b : Nat) (O : Nat → Prop) (bx : Bx) (w : World) (h : IsBox w O b bx) : Calls Tryd.prog 18 #[.pointer (some ⟨b, 0, none⟩)] w (MsgsPost bx w) := by
  obtain ⟨bm, L, B, rfl⟩ := h
  obtain ⟨c0, cf⟩ := cells1 B.head
  obtain ⟨hnd, D0, hown, hsz, h1, h2⟩ := B.map
  have hperm := keys_perm hnd hown h1 h2
  have hkeys : (ptrs L).map Prod.fst = (bxOf L).map Prod.fst := by unfold ptrs bxOf; rw [List.map_map, List.map_map]; rfl
  rw [hkeys] at hperm
  have hlen : (ptrs L).length = (bxOf L).length := by unfold ptrs bxOf; rw [List.length_map, List.length_map]
  have hfew := B.ok.few
  have hmax : Maps.size D0 ≤ maxLen := by rw [hsz, hlen]; unfold maxLen; omega
  have hbytes : Maps.size D0 * 8 ≤ 140737488355328 := by rw [hsz, hlen]; omega
  have HW := hid (idsF_wf B.ok)
  refine (callsIn_wide (n := 6)).1 ?_
  have hbl := hown.lt
  have hseq : SeqGives Fence.wide 2 Tryd.prog 41 #[.pointer (some ⟨w.heap.size, 0, none⟩)] encZ (fun ss => ss.Perm (intKeys D0)) (Maps.size D0) (w.alloc (.cells #[.map (some bm)] 61)) :=
    AnyZI.keys_gives (ρ := Tryd.keysA_ren) { Tryd.keysA with } Fence.wide _ trivial rfl (by omega) w.heap.size bm (ptrs L).length D0 _ (by simp) (by simp) (by
      obtain ⟨es, clock, hb, Ft, hs, hD⟩ := hown
      exact ⟨es, clock, (Below.heap_alloc _ _ bm hbl).trans hb, Ft, hs, hD⟩)
  have cK : ∀ mb W, CallsIn Fence.wide 5 Tryd.prog 32 #[.map mb] W fun e w' => e = .returned (.func (.func 41) #[] #[.pointer (some ⟨W.heap.size, 0, none⟩)]) ∧ w' = W.alloc (.cells #[.map mb] 61) := fun mb W => AnyZI.keys_in Tryd.keysA Fence.wide 5 trivial rfl mb W
  have cS := AnyZI.sorted_in Tryd.sortedA Fence.wide 5 trivial trivial trivial trivial rfl (by omega) (sortsA _) (enters_of Tryd.func40 (by kernel_rfl) rfl) 41 #[.pointer (some ⟨w.heap.size, 0, none⟩)] trivial (enters_of Tryd.func41 (by kernel_rfl) rfl) _ _ hmax hbytes _ hseq
  change CallsIn _ _ Tryd.prog 31 _ _ _ at cS
  have hfK : Fence.wide.fn 32 := trivial
  have hfS : Fence.wide.fn 31 := trivial
  have HP := hid hperm
  clear hperm hkeys hlen hfew hmax hbytes hseq hnd hown hsz h1 h2 B
  refine callsIn_of_wp Tryd.func18 rfl trivial ?_ rfl
  simp only [Tryd.ntmps18, List.size_toArray, List.length_cons, List.length_nil, Nat.reduceAdd, Nat.reduceSub, Array.replicate_succ, Array.replicate_zero, List.push_toArray, List.append_toArray, List.nil_append, List.cons_append]
  gi_wp2_with (first
    | (gi_at_call 32; refine (cK _ _).mono ?_; rintro e w' ⟨rfl, rfl⟩)
    | (gi_at_call 31; refine cS.mono ?_; rintro e w' ⟨v, ss, rfl, hS, hrow, hnil, hb⟩))
  go_ret
  have hrow' := ownsRow_base_a hrow (Nat.le_of_lt (by simp : w.heap.size < (w.alloc (.cells #[.map (some bm)] 61)).heap.size))
  have hss : ss.mergeSort leI = idsF (bxOf L) := mergeSort_of_perm_i (hS.trans HP.out.symm)
  have hl2 : ss.length = (idsF (bxOf L)).length := by rw [← hss, List.length_mergeSort]
  have hrow2 : w'.ownsRow w.heap.size 3 1 v (idsF (bxOf L)).length ((idsF (bxOf L)).map fun x => Value.int .i64 x) := by
    rw [← hl2, ← hss]; exact hrow'
  have hmx := maxMark_eq
  exact ⟨v, rfl, ownsRow_rep1 (K := kInt .i64) rfl (fun x => Value.int .i64 x) hrow2 (fun x hx => intRep x (by have := HW.out x hx; unfold I64; omega)) fun g hg => hrow2.lt g hg, upd_of_below (((Below.refl _ w).alloc (Nat.le_refl _) _).trans (hb.mono (by simp)))⟩
end Go.Proofs.YtabnniabofhihaaDoor
