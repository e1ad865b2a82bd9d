/- The library's functions at spans: what slices.SortFunc does with Norm's order. -/
/- slices.SortFunc at a block of spans, with Norm's order: the block holds the spans in their order. -/
import Derived.Test.YtdcahnkcnbhknaaGreatDoorEnNrm
import Derived.Test.YtdcahnkcnbhknaaGreatDoorShelf
import Derived.Test.YtdcahnkcnbhknaaGreatDoorSortS
import Derived.Shelf.SlSortCmp.WholeK
import Derived.Shelf.SlSortCmp.NoneTotal
import Derived.Deep.RegionHeld3
import Derived.Test.YtdcahnkcnbhknaaGreatDoorEnNorm
namespace Go.Proofs.YtdcahnkcnbhknaaGreatDoor
open Go.RowKit Go.Deep Go.Sort

def orV (a b : Int) : Int := if a = 0 then b else a
theorem or_any (a b : Int) (g : Nat) (w : World) (h0 : w.cell? ⟨g, 0, none⟩ = some (.int .i64 a)) (h1 : w.cell? ⟨g, 1, none⟩ = some (.int .i64 b)) :
    Calls Tryz.prog 94 #[.slice (some ⟨g, 0, none⟩) 2 2] w fun e w' => e = .returned (.int .i64 (orV a b)) ∧ w = w' := by
  by_cases ha : a = 0
  · subst ha
    have hr := hid (show orV 0 b = b from if_pos rfl)
    go_enter Tryz.func94, Tryz.ntmps94
    go_wp2_with fail
    go_loopg [8] 2 (fun gg s8 wr => ∃ k : Nat, k ≤ 2 ∧ gg = 2 - k ∧ s8 = .int .i64 k ∧ (k = 2 → b = 0) ∧ w = wr)
    case atStart => exact ⟨0, by omega, rfl, rfl, fun h => by omega, rfl⟩
    case round =>
      obtain ⟨k, hk, hg, rfl, hb, rfl⟩ := hrel
      have HB := hid hb; have HG := hid hg
      clear hb hg
      have : k = 0 ∨ k = 1 ∨ k = 2 := by omega
      rcases this with rfl | rfl | rfl
      · go_wp2_with fail
        go_roundg 1
        case measure => have := HG.out; omega
        case rel => exact ⟨1, by omega, rfl, by first | rfl | go_num, fun h => by omega, rfl⟩
      · by_cases hb0 : b = 0
        · have hbb : (b != 0) = false := by rw [hb0]; rfl
          have HB0 := hid hb0
          clear hb0
          go_wp2_with fail
          go_roundg 0
          case measure => have := HG.out; omega
          case rel => exact ⟨2, by omega, rfl, by first | rfl | go_num, fun h => HB0.out, rfl⟩
        · have hbb : (b != 0) = true := bne_iff_ne.2 hb0
          clear hb0
          go_wp2_with fail
          go_ret
          exact ⟨by first | rfl | (rw [hr.out]; rfl), rfl⟩
      · have hb0 := hid (HB.out rfl)
        go_wp2_with fail
        go_ret
        exact ⟨by first | (rw [hb0.out]; rfl) | (rw [hr.out, hb0.out]; rfl), rfl⟩
  · have hr := hid (show orV a b = a from if_neg ha)
    have haa : (a != 0) = true := bne_iff_ne.2 ha
    clear ha
    go_enter Tryz.func94, Tryz.ntmps94
    go_wp2_with fail
    go_loopg [8] 2 (fun gg s8 wr => s8 = .int .i64 0 ∧ w = wr)
    case atStart => exact ⟨rfl, rfl⟩
    case round =>
      obtain ⟨rfl, rfl⟩ := hrel
      go_wp2_with fail
      go_ret
      exact ⟨by first | rfl | (rw [hr.out]; rfl), rfl⟩
theorem alloc_cell {w : World} {cells : Array Value} {t : TypeId} {fr : Nat × Nat} {g k : Nat} {v : Value} (hg : w.heap.size = g) (h : cells[k]? = some v) : (w.alloc (.cells cells t fr)).cell? ⟨g, k, none⟩ = some v := by
  subst hg; rw [cell_of_block heap_alloc_new]; exact h
def cmpSp (x y : Sp) : Int := if Lib.compareInt x.mark y.mark = 0 then Lib.compareInt x.fr y.fr else Lib.compareInt x.mark y.mark
theorem compareInt_lt (a b : Int) : Lib.compareInt a b < 0 ↔ a < b := by
  unfold Lib.compareInt
  by_cases h : a < b
  · simp [h]
  · by_cases h2 : b < a <;> simp [h, h2]
theorem compareInt_eq (a b : Int) : Lib.compareInt a b = 0 ↔ a = b := by
  unfold Lib.compareInt
  by_cases h : a < b
  · simp [h]; omega
  · by_cases h2 : b < a
    · simp [h, h2]; omega
    · simp [h, h2]; omega
theorem cmpSp_lt (x y : Sp) : ltOf cmpSp x y = true ↔ x.mark < y.mark ∨ (x.mark = y.mark ∧ x.fr < y.fr) := by
  unfold ltOf cmpSp
  rw [decide_eq_true_eq]
  by_cases h : x.mark = y.mark
  · rw [if_pos ((compareInt_eq _ _).2 h), compareInt_lt]; omega
  · rw [if_neg (fun h' => h ((compareInt_eq _ _).1 h')), compareInt_lt]; omega
theorem swo_sp : SWO (ltOf cmpSp) where
  irrefl x := by rw [← Bool.not_eq_true, cmpSp_lt]; omega
  trans x y z h1 h2 := by rw [cmpSp_lt] at *; omega
  ntrans x y z h1 h2 := by rw [← Bool.not_eq_true, cmpSp_lt] at *; omega
set_option maxRecDepth 100000 in
set_option maxHeartbeats 2000000 in
theorem norm2_any (x y : Sp) (W : World) : Calls Tryz.prog 93 #[spVal x, spVal y] W fun e w' => e = .returned (.int .i64 (cmpSp x y)) ∧ ∃ q os', w' = grow (W.drewN q) os' := by
  unfold spVal
  obtain ⟨ra, hra⟩ : ∃ r, Lib.compareInt x.mark y.mark = r := ⟨_, rfl⟩
  obtain ⟨rb, hrb⟩ : ∃ r, Lib.compareInt x.fr y.fr = r := ⟨_, rfl⟩
  have hcmp : cmpSp x y = orV ra rb := by unfold cmpSp orV; rw [hra, hrb]
  have HC := hid hcmp
  have c1 : ∀ w, Calls Tryz.prog 95 #[.int .i64 x.mark, .int .i64 y.mark] w fun e w' => e = .returned (.int .i64 ra) ∧ w = w' := fun w => (Tryz.cmp_Compare_int x.mark y.mark w).mono fun e w' h => ⟨by rw [h.1, hra], h.2.symm⟩
  have c2 : ∀ w, Calls Tryz.prog 95 #[.int .i64 x.fr, .int .i64 y.fr] w fun e w' => e = .returned (.int .i64 rb) ∧ w = w' := fun w => (Tryz.cmp_Compare_int x.fr y.fr w).mono fun e w' h => ⟨by rw [h.1, hrb], h.2.symm⟩
  have C1 := hid c1; have C2 := hid c2
  clear hra hrb hcmp c1 c2
  go_enter Tryz.func93, Tryz.ntmps93
  go_wp2_with fail
  have tk1 : True := trivial
  have tk2 : True := trivial
  first | (go_region_held3 (fun w' => w'.cell? ⟨W.heap.size, 0, none⟩ = some (.int .i64 x.mark) ∧ w'.cell? ⟨W.heap.size, 1, none⟩ = some (.int .i64 x.fr) ∧ w'.cell? ⟨W.heap.size + 1, 0, none⟩ = some (.int .i64 y.mark) ∧ w'.cell? ⟨W.heap.size + 1, 1, none⟩ = some (.int .i64 y.fr))
      (go_keep)
      (first
        | ((go_at_call 95; have _t := tk1; refine (C1.out _).mono ?_; rintro e w' ⟨rfl, rfl⟩; clear _t tk1))
        | ((go_at_call 95; have _t := tk2; refine (C2.out _).mono ?_; rintro e w' ⟨rfl, rfl⟩; clear _t tk2))
        | ((go_at_call 94; refine Calls.mono (or_any ra rb _ _ (alloc_cell (by simp) (by rfl)) (alloc_cell (by simp) (by rfl))) ?_; rintro e w' ⟨rfl, rfl⟩)))) | fail
  all_goals
    go_wp2_with fail
    go_ret
    exact ⟨by rw [HC.out]; rfl, 1, _, by rw [alloc_eq_grow, alloc_eq_grow, alloc_eq_grow, grow_grow, grow_grow]; rfl⟩
end Go.Proofs.YtdcahnkcnbhknaaGreatDoor
namespace Go.Proofs.YtdcahnkcnbhknaaGreatDoor
open Go.RowKit Go.Deep Go.Sort

theorem flat_eq (l : List Sp) : flatK spCells 3 l.toArray = (flatS l).toArray := by
  refine ext_get! (by simp [flatS_len]) fun t ht => ?_
  have ht' : t < l.length * 3 := by simpa using ht
  rw [get_flatK _ _ _ _ (by simpa using ht')]
  have hi : t / 3 < l.length := by omega
  obtain ⟨h0, h1, h2⟩ := flatS_get l (t / 3) hi
  have hl := flatS_len l
  have hg : ∀ v, (flatS l)[t]? = some v → (flatS l).toArray[t]! = v := fun v hv => by
    rw [getElem!_pos _ t (by simp [hl]; omega)]
    obtain ⟨_, e⟩ := List.getElem?_eq_some_iff.1 hv
    simpa using e
  have hx : l.toArray[t / 3]! = l[t / 3] := by rw [getElem!_pos _ _ (by simpa using hi)]; simp
  rw [hx]
  have hm : t % 3 = 0 ∨ t % 3 = 1 ∨ t % 3 = 2 := by omega
  rcases hm with hm | hm | hm
  · rw [hm, hg _ (by rw [show t = t / 3 * 3 by omega] at *; exact h0)]; rfl
  · rw [hm, hg _ (by rw [show t = t / 3 * 3 + 1 by omega] at *; exact h1)]; rfl
  · rw [hm, hg _ (by rw [show t = t / 3 * 3 + 2 by omega] at *; exact h2)]; rfl
theorem holds_blk {w : World} {g : Nat} {l : List Sp} {rest : List Value} (h : SpBlk w g l rest) : HoldsK spCells 3 w g 0 l.toArray := by
  unfold HoldsK
  rw [flat_eq]
  intro j hj
  refine ⟨?_, h.frozen _⟩
  have hj' : j < (flatS l).length := by simpa using hj
  rw [Nat.zero_add, cell_of_block h, List.getElem?_toArray, List.getElem?_append_left hj', List.getElem?_eq_getElem hj', getElem!_pos _ j hj]
  simp
theorem put_cells (l' : List Sp) (cs rest : List Value) (h : (flatS l').length = cs.length) : putCells id 0 (flatS l').toArray (cs ++ rest).toArray = (flatS l' ++ rest).toArray := by
  apply Array.ext_getElem?
  intro k
  simp only [putCells, Array.getElem?_mapIdx, List.getElem?_toArray, Nat.zero_le, true_and, Nat.zero_add, List.size_toArray, Nat.sub_zero, id]
  by_cases hk : k < (flatS l').length
  · rw [List.getElem?_append_left (by omega), List.getElem?_append_left hk, List.getElem?_eq_getElem (by omega), List.getElem?_eq_getElem hk, Option.map_some, if_pos hk, getElem!_pos _ k (by simpa using hk)]
    simp
  · rw [List.getElem?_append_right (by omega), List.getElem?_append_right (by omega), h]
    cases hr : rest[k - cs.length]? with
    | none => rfl
    | some y => rw [Option.map_some, if_neg (by omega)]
theorem sorted_blk {w : World} {g : Nat} {l l' : List Sp} {rest : List Value} (h : SpBlk w g l rest) (hl : l'.length = l.length) (n : Nat) (os : Array Obj) :
    SpBlk (sortWorldK spCells 3 w g 0 n l'.toArray os) g l' rest ∧ Upd (· = g) w (sortWorldK spCells 3 w g 0 n l'.toArray os) := by
  have hlt := h.lt
  have hs1 : (putRowK spCells 3 (Sort.ahead w n) g 0 l'.toArray).heap.size = w.heap.size := by simp [putRowK, putRow, mapBlock, Sort.ahead]
  unfold sortWorldK
  refine ⟨?_, rfl, rfl, rfl, ?_, ?_⟩
  · unfold SpBlk
    rw [heap_grow_old _ _ (by rw [hs1]; exact hlt)]
    unfold putRowK putRow mapBlock
    rw [flat_eq]
    show ((w.heap.modify g _)[g]?) = _
    rw [Array.getElem?_modify, if_pos rfl, show w.heap[g]? = _ from h, Option.map_some]
    show some (Obj.cells (putCells id 0 (flatS l').toArray (flatS l ++ rest).toArray) _ _) = _
    rw [put_cells l' (flatS l) rest (by rw [flatS_len, flatS_len, hl])]
  · simp only [grow, Array.size_append, hs1]; omega
  · intro k hk hn
    rw [heap_grow_old _ _ (by rw [hs1]; exact hk)]
    unfold putRowK putRow mapBlock
    show ((w.heap.modify g _)[k]?) = _
    rw [Array.getElem?_modify, if_neg (Ne.symm hn)]
theorem eg2 : ∀ args w, (callFunc 93 args).run Tryz.prog w = .ok (.enter 93 args) w := enters_of Tryz.func93 (by kernel_rfl) rfl
/-- The order by mark and beginning is the order by the first coin, among right spans. -/
theorem lt_lo {a b : Sp} (ha : a.Ok) (hb : b.Ok) (h : ltOf cmpSp b a = false) : a.lo ≤ b.lo := by
  have h1 : ¬ (b.mark < a.mark ∨ (b.mark = a.mark ∧ b.fr < a.fr)) := fun h' => by rw [(cmpSp_lt b a).2 h'] at h; cases h
  unfold Sp.Ok at ha hb; unfold Sp.lo; omega
/-- The row holds the right spans by their first coins. -/
theorem sort_any (g cap : Nat) (l : List Sp) (rest : List Value) (w : World) (h : SpBlk w g l rest) (hok : ∀ s ∈ l, s.Ok) (hl : l.length ≤ 1000000) :
    Calls Tryz.prog 92 #[.slice (some ⟨g, 0, none⟩) l.length cap, .func (.func 93) #[] #[]] w fun e w' =>
      e = .returned (.tuple #[]) ∧ (∃ r, r.Perm l ∧ (r.Pairwise fun a b => a.lo ≤ b.lo) ∧ SpBlk w' g r rest) ∧ Upd (· = g) w w' := by
  have hcon := AnyQ.slices_SortFunc Tryz.sortA 3 Tryz.isAgg39 Tryz.sizeOf39 spCells (fun _ => rfl) (fun x v hv => by simp [spCells] at hv; rcases hv with rfl | rfl | rfl <;> rfl) cmpSp swo_sp 93 #[] g 0 cap l.toArray w eg2
    (fun m os dk _ x y => norm2_any x y _) (holds_blk h) h.lt (by simp; omega)
  rw [show l.toArray.size = l.length by simp] at hcon
  change Calls Tryz.prog 92 _ _ _ at hcon
  refine hcon.mono ?_
  rintro e w' ⟨he, d', n, os, ⟨hp1, _, hp3⟩, hs, rfl⟩
  have hd1 : d'.toList.length = l.length := by simpa using hp1
  obtain ⟨hb, u⟩ := sorted_blk h (l' := d'.toList) hd1 n os
  have hperm : d'.toList.Perm l := by
    have e1 : d'.extract 0 l.length = d' := by apply Array.extract_eq_self_of_le; simpa using Nat.le_of_eq hd1
    have e2 : l.toArray.extract 0 l.length = l.toArray := by apply Array.extract_eq_self_of_le; simp
    rw [e1, e2] at hp3
    simpa using hp3
  refine ⟨he, ⟨d'.toList, hperm, ?_, by simpa using hb⟩, by simpa using u⟩
  rw [List.pairwise_iff_getElem]
  intro i j hi hj hij
  have hs' := hs i j (Nat.zero_le _) hij (by rw [← hd1]; exact hj)
  rw [getElem!_pos d' j (by simpa using hj), getElem!_pos d' i (by simpa using hi)] at hs'
  have mi : d'.toList[i] ∈ l := hperm.mem_iff.1 (List.getElem_mem hi)
  have mj : d'.toList[j] ∈ l := hperm.mem_iff.1 (List.getElem_mem hj)
  exact lt_lo (hok _ mi) (hok _ mj) (by simpa using hs')
theorem sort_none (p : Option Addr) (cap : Nat) (fv : Value) (w : World) :
    Calls Tryz.prog 92 #[.slice p 0 cap, fv] w fun e w' => e = .returned (.tuple #[]) ∧ w = w' := by
  have h := AnyF.slices_SortFunc_none (P := Tryz.prog) (ρ := Tryz.sortA_ren) { Tryz.sortA with } p cap fv w
  change Calls Tryz.prog 92 _ _ _ at h
  exact h.mono fun _ _ ⟨he, hw⟩ => ⟨he, hw.symm⟩
end Go.Proofs.YtdcahnkcnbhknaaGreatDoor
