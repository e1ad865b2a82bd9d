/- Operations on a store, as the statements take them; are they few. -/
/- Walk: the records after an operation that succeeds. -/
/- Plain: operations one after the other on a store whose flash does not fail. -/
/- Walk: operations that append, drop and open again, on a flash that does not fail. -/
/- Rows of operations that the call owns. -/
import Derived.Test.YtlefilfdomjkeaaGreatDoorStN
import Derived.Test.YtlefilfdomjkeaaGreatDoorWrD1
import Derived.Test.YtlefilfdomjkeaaGreatDoorFr
namespace Go.Proofs.YtlefilfdomjkeaaGreatDoor
open Go.RowKit Go.Deep
structure OpS where
  kind : Int
  n : Int
  keep : Int
  s : List UInt8
def kOpS : Knd OpS := kMap (kPair (kInt .i64) (kPair (kInt .i64) (kPair (kInt .i64) (kMap kStr fun l : List UInt8 => (⟨l.toArray⟩ : ByteArray))))) fun o => (o.kind, o.n, o.keep, o.s)
theorem reads_opS : Reads Tryz.prog 39 kOpS :=
  reads_map (fun x => ⟨x.1, x.2.1, x.2.2.1, x.2.2.2⟩) (fun _ => rfl)
    (reads_struct Tryz.underlying39 (tail_cons rfl rfl (reads_int Tryz.underlying3 (by kernel_rfl)) (tail_cons rfl rfl (reads_int Tryz.underlying3 (by kernel_rfl)) (tail_cons rfl rfl (reads_int Tryz.underlying3 (by kernel_rfl))
      (tail_last rfl rfl (reads_map (fun x : ByteArray => x.data.toList) (fun x => by cases x; rfl) (reads_str Tryz.underlying9 (by kernel_rfl))) (by kernel_rfl))))))
theorem reads_opsS : Reads Tryz.prog 22 (kSlice kOpS) := reads_slice Tryz.underlying22 (by kernel_rfl) reads_opS (by decide)
structure OpS.Ok (o : OpS) : Prop where
  kind : I64 o.kind
  n : I64 o.n
  keep : I64 o.keep
  s : o.s.length ≤ 9223372036854775807
abbrev opC (o : OpS) : List Value := [.int .i64 o.kind, .int .i64 o.n, .int .i64 o.keep, .string ⟨o.s.toArray⟩]
theorem wf_i64 {n : Int} (h : (Lit.int .i64 n).wf = true) : I64 n := bounds_i64 h
theorem opS_rep {A : Nat → Prop} {w : World} {cs : List Value} {o : OpS} (h : kOpS.rep A w cs o) : cs = opC o ∧ o.Ok := by
  obtain ⟨_, _, rfl, ⟨rfl, h1⟩, _, _, rfl, ⟨rfl, h2⟩, _, _, rfl, ⟨rfl, h3⟩, ⟨rfl, h4⟩⟩ := h
  exact ⟨rfl, wf_i64 h1, wf_i64 h2, wf_i64 h3, h4⟩
theorem opS_cells {A : Nat → Prop} {w : World} {b o : Nat} {l : List OpS} (h : Elems kOpS A w b o l) {i : Nat} (hi : i < l.length) :
    (w.cell? ⟨b, o + i * 4, none⟩ = some (.int .i64 l[i].kind) ∧ w.cell? ⟨b, o + i * 4 + 1, none⟩ = some (.int .i64 l[i].n) ∧ w.cell? ⟨b, o + i * 4 + 2, none⟩ = some (.int .i64 l[i].keep) ∧ w.cell? ⟨b, o + i * 4 + 3, none⟩ = some (.string ⟨l[i].s.toArray⟩)) ∧ l[i].Ok := by
  obtain ⟨cs, h1, h2⟩ := h.cell hi
  obtain ⟨rfl, ok⟩ := opS_rep h1
  exact ⟨⟨h2 0 (by decide), h2 1 (by decide), h2 2 (by decide), h2 3 (by decide)⟩, ok⟩
/-- At most 40 operations, with records of at most 300 bytes. -/
def fewS (l : List OpS) : Bool := decide (l.length ≤ 40) && l.all fun o => decide (o.s.length ≤ 300)
theorem fewS_true {l : List OpS} (h : fewS l = true) : l.length ≤ 40 ∧ ∀ o ∈ l, o.s.length ≤ 300 := by
  unfold fewS at h
  rw [Bool.and_eq_true, List.all_eq_true] at h
  exact ⟨of_decide_eq_true h.1, fun o ho => of_decide_eq_true (h.2 o ho)⟩
theorem fewS_long {l : List OpS} {i : Nat} (hi : i < l.length) (h : ¬ l[i].s.length ≤ 300) : fewS l = false := by
  unfold fewS
  rw [Bool.and_eq_false_iff]
  right
  rw [List.all_eq_false]
  exact ⟨l[i], List.getElem_mem hi, by simpa using h⟩
theorem fewS_end {l : List OpS} {k : Nat} (h : ∀ i (hi : i < l.length), i < k → l[i].s.length ≤ 300) (hk : l.length ≤ k ∨ 41 ≤ k ∧ k ≤ l.length) : fewS l = decide (l.length ≤ 40) := by
  unfold fewS
  by_cases hl : l.length ≤ 40
  · rw [decide_eq_true hl, Bool.true_and, List.all_eq_true]
    intro o ho
    obtain ⟨i, hi, rfl⟩ := List.getElem_of_mem ho
    exact decide_eq_true (h i hi (by omega))
  · rw [decide_eq_false hl, Bool.false_and]
set_option maxRecDepth 100000 in
set_option maxHeartbeats 1000000 in
theorem fewS_any (v : Value) (l : List OpS) (w : World) (h : (kSlice kOpS).rep (· < w.heap.size) w [v] l) :
    Calls Tryz.prog 6 #[v] w fun e w' => e = .returned (.bool (fewS l)) ∧ Upd (fun _ => False) w w' := by
  obtain ⟨a, c, rfl, hc1, hc2, hel⟩ := slice_open h
  have hc2 : c ≤ 9223372036854775807 := hc2
  have EL := hid hel
  clear h hel
  go_enter Tryz.func6, Tryz.ntmps6
  go_wp2_with fail
  go_loopg [3] (l.length + 1) (fun gg s3 wr => ∃ k : Nat, s3 = .int .i64 k ∧ k ≤ l.length ∧ k ≤ 41 ∧ gg = l.length + 1 - k ∧ (∀ i (hi : i < l.length), i < k → l[i].s.length ≤ 300) ∧ w = wr)
  case atStart => exact ⟨0, rfl, Nat.zero_le _, by decide, rfl, (fun i hi h => absurd h (Nat.not_lt_zero _)), rfl⟩
  case round =>
    obtain ⟨k, rfl, hk, hk41, hg, hall, rfl⟩ := hrel
    have HG := hid hg; have ALL := hid hall
    clear hg hall
    by_cases hkl : k < l.length
    case neg =>
      have hki : ¬ (k : Int) < l.length := by omega
      have R := hid (fewS_end ALL.out (.inl (by omega)))
      by_cases h40 : l.length ≤ 40
      · have h40i : (l.length : Int) ≤ 40 := by omega
        have R2 := hid (R.out.trans (decide_eq_true h40))
        clear h40
        go_wp2_with fail
        go_ret
        exact ⟨by rw [R2.out]; first | rfl | simp, Upd.refl _ _⟩
      · have h40i : ¬ (l.length : Int) ≤ 40 := by omega
        have R2 := hid (R.out.trans (decide_eq_false h40))
        clear h40
        go_wp2_with fail
        go_ret
        exact ⟨by rw [R2.out]; first | rfl | simp; omega, Upd.refl _ _⟩
    have hki : (k : Int) < l.length := by omega
    by_cases hk1 : k < 41
    case neg =>
      have hk1i : ¬ (k : Int) < 41 := by omega
      have h40i : ¬ (l.length : Int) ≤ 40 := by omega
      have R := hid ((fewS_end ALL.out (.inr ⟨by omega, hk⟩)).trans (decide_eq_false (show ¬ l.length ≤ 40 by omega)))
      go_wp2_with fail
      go_ret
      exact ⟨by rw [R.out]; first | rfl | simp; omega, Upd.refl _ _⟩
    have hk1i : (k : Int) < 41 := by omega
    obtain ⟨b, o, rfl, _, hE⟩ := EL.out (by omega)
    obtain ⟨⟨e0, e1, e2, e3⟩, ok⟩ := opS_cells hE hkl
    have FL := hid (fun h => fewS_long hkl h)
    have SL := hid (show ∀ h : l[k].s.length ≤ 300, ∀ i (hi : i < l.length), i < k + 1 → l[i].s.length ≤ 300 from fun h i hi hik => by
      rcases Nat.lt_or_ge i k with g | g
      · exact ALL.out i hi g
      · obtain rfl : i = k := by omega
        exact h)
    have hsz := ok.s
    generalize l[k] = ok' at *
    by_cases hs : ok'.s.length ≤ 300
    · have hsi : (ok'.s.length : Int) ≤ 300 := by omega
      have hsn : ¬ (300 : Int) < ok'.s.length := by omega
      have S2 := hid (SL.out hs)
      clear ok hE
      go_wp2_with fail
      go_roundg (l.length + 1 - (k + 1))
      case measure => have := HG.out; omega
      case rel => exact ⟨k + 1, by go_num, hkl, by omega, rfl, S2.out, rfl⟩
    · have hsi : (300 : Int) < ok'.s.length := by omega
      have R := hid (FL.out hs)
      clear ok hE
      go_wp2_with fail
      go_ret
      exact ⟨by rw [R.out]; rfl, Upd.refl _ _⟩
end Go.Proofs.YtlefilfdomjkeaaGreatDoor
namespace Go.Proofs.YtlefilfdomjkeaaGreatDoor
open Go.RowKit Go.Deep Go.ChangeShapes Go.WideShapes
def afterP (l : List (List UInt8)) (o : OpS) : List (List UInt8) := if o.kind = 0 then l ++ [o.s] else l.drop (min (max o.n 0) l.length).toNat
/-- A slice of strings that is read. -/
def SrcS (w : World) (v : Value) (l : List (List UInt8)) : Prop := ∃ a c, v = .slice a l.length c ∧ ((a = none ∧ l = []) ∨ ∃ ad, a = some ad ∧ ∀ j u, (l.map strV)[j]? = some u → w.cell? (Addr.add ad j) = some u)
theorem SrcS.upd {w w' : World} {v : Value} {l : List (List UInt8)} (h : SrcS w v l) {T : Nat → Prop} (u : Upd T w w') (hT : ∀ a n c, v = .slice (some a) n c → ¬ T a.block) : SrcS w' v l := by
  obtain ⟨a, c, rfl, h | ⟨ad, rfl, h⟩⟩ := h
  · exact ⟨a, c, rfl, .inl h⟩
  · refine ⟨_, c, rfl, .inr ⟨ad, rfl, fun j x hx => ?_⟩⟩
    have h1 := h j x hx
    refine cell_kept h1 (u.block _ (World.block_lt_of_cell? _ _ h1) ?_)
    have e : (Addr.add ad j).block = ad.block := by unfold Addr.add; split <;> rfl
    rw [e]
    exact hT ad _ c rfl
theorem SrcS.of {w : World} {v : Value} {l : List (List UInt8)} (h : OwnS w v l) : SrcS w v l := by
  rcases ownsRow_fits h.own with ⟨rfl, h0⟩ | ⟨g, cap, rfl, _⟩
  · obtain rfl := List.eq_nil_of_length_eq_zero h0
    exact ⟨none, 0, rfl, .inl ⟨rfl, rfl⟩⟩
  · exact ⟨_, cap, rfl, .inr ⟨_, rfl, fun j u hj => h.own.cells (g := g) rfl j u hj⟩⟩
theorem run_append_nil0 {P : Program} {t e : TypeId} {size bytes : Nat} (T : ElemTy P t e size bytes) (w : World) (ad : Addr) (c : Nat) (ty : TypeId) : (Builtin.append_ #[t, t] ty #[.slice (some ad) 0 0, .slice none 0 c]).run P w = .ok (.slice (some ad) 0 0) w := by
  obtain ⟨ht, ⟨i, z, hi, hz, hsz, hby, hzs⟩, hpos⟩ := T
  simp [Builtin.append_, run_underlying ht, sizeOf, typeInfo, hi, Builtin.lenOf, Builtin.firstCells, storeCells]
set_option maxRecDepth 100000 in
/-- An empty new slice takes all elements of another one. -/
theorem copy_run {w : World} {b0 : Nat} (hb : w.heap[b0]? = some (.cells #[] 9 (0, 0))) {v : Value} {l : List (List UInt8)} (hv : SrcS w v l) (hl : l.length ≤ 1000000) (ty : TypeId) :
    ∃ a c w', (Builtin.append_ #[50, 50] ty #[.slice (some ⟨b0, 0, none⟩) 0 0, v]).run Tryz.prog w = .ok (.slice a l.length c) w' ∧ OwnS w' (.slice a l.length c) l ∧ (∀ g, (Value.slice a l.length c).ownBlock = some g → g = b0 ∨ w.heap.size ≤ g) ∧ Upd (fun k => k = b0) w w' := by
  have own0 : ∀ {w' : World}, w'.heap[b0]? = some (.cells #[] 9 (0, 0)) → OwnS w' (.slice (some ⟨b0, 0, none⟩) 0 0) [] := fun h =>
    ⟨⟨rfl, .inr ⟨b0, 0, #[], rfl, Nat.zero_le _, h, Nat.le_refl _, Nat.zero_le _, rfl, rfl⟩⟩, fun _ => ⟨_, rfl⟩⟩
  obtain ⟨a, c, rfl, ⟨rfl, rfl⟩ | ⟨ad, rfl, hc⟩⟩ := hv
  · exact ⟨_, 0, w, run_append_nil0 elemS w _ c ty, own0 hb, (fun g hg => by injection hg with hg; exact .inl hg.symm), Upd.refl _ _⟩
  · by_cases h0 : l = []
    · subst h0
      obtain ⟨ht, ⟨i, z, hi, hz, hsz, hby, hzs⟩, hpos⟩ := elemS
      have hr := run_append_room (P := Tryz.prog) w 50 ty 9 i ht hi b0 0 0 #[] hb ad 0 c [] (by simp) (fun j u hj => by simp at hj) (by simp) (by simp) (by simp)
      have hw : (w.setRow b0 #[]).heap[b0]? = some (.cells #[] 9 (0, 0)) := setRow_heap _ _ #[] #[] _ (0, 0) hb
      refine ⟨_, _, _, hr, own0 (by simpa using hw), (fun g hg => by injection hg with hg; exact .inl hg.symm), ⟨rfl, rfl, rfl, by simp [World.setRow], fun k hk hs => ?_⟩⟩
      simp only [World.setRow, Array.getElem?_modify]
      rw [if_neg fun e => hs e.symm]
    · have hlen : 0 < l.length := List.length_pos_iff.2 h0
      obtain ⟨v', w1, hr, ho, hgr, hn⟩ := append_own2 (e := 9) (size := 1) elemS (own0 hb).own ad l.length c (l.map strV) (by simp) hc (strV_one l) (by rw [show ([] : List (List UInt8)).length + l.length = l.length from Nat.zero_add _]; unfold maxLen; omega) (by rw [show ([] : List (List UInt8)).length + l.length = l.length from Nat.zero_add _]; exact Nat.le_trans (Nat.mul_le_mul hl (Nat.le_refl 16)) (by decide)) (Nat.zero_le _) ty
      rw [show ([] : List (List UInt8)).length + l.length = l.length from Nat.zero_add _, show ([] : List (List UInt8)).map strV ++ l.map strV = l.map strV from rfl] at ho
      have hO : OwnS w1 v' l := ⟨ho, fun e => absurd e (by omega)⟩
      obtain ⟨a', c', rfl, _, _⟩ := hO.fits
      refine ⟨a', c', w1, hr, hO, fun g hg => ?_, (Upd.refl _ w).grown hgr fun k hk => .inl (by injection hk with hk; exact hk.symm)⟩
      rcases hn with hn | ⟨g', hn, hs⟩
      · rw [hn] at hg; injection hg with hg; exact .inl hg.symm
      · rw [hg] at hn; injection hn with hn; subst hn; exact .inr hs
def AfterPost (l : List (List UInt8)) (w : World) (e : Ending) (w' : World) : Prop :=
  ∃ a c, e = .returned (.slice a l.length c) ∧ OwnS w' (.slice a l.length c) l ∧ (∀ g, (Value.slice a l.length c).ownBlock = some g → w.heap.size ≤ g) ∧ Upd (fun _ => False) w w'
set_option maxRecDepth 100000 in
set_option maxHeartbeats 1000000 in
theorem after_drop {w : World} {v : Value} {l : List (List UInt8)} (h : OwnS w v l) (hl : l.length ≤ 900000) (o : OpS) (ok : o.Ok) (hk : ¬ o.kind = 0) : Calls Tryz.prog 31 #[v, .agg #[.int .i64 o.kind, .int .i64 o.n, .int .i64 o.keep, .string ⟨o.s.toArray⟩]] w (AfterPost (afterP l o) w) := by
  obtain ⟨m, hm⟩ : ∃ m : Nat, min (max o.n 0) (l.length : Int) = (m : Int) := ⟨(min (max o.n 0) (l.length : Int)).toNat, by omega⟩
  have hml : m ≤ l.length := by omega
  have hmli : (m : Int) ≤ l.length := by omega
  have hmin : min (max o.n 0) (l.length : Int) = (m : Int) := hm
  have AP := hid (show afterP l o = l.drop m by unfold afterP; rw [if_neg hk, hm, Int.toNat_natCast])
  have hkb : (o.kind == 0) = false := beq_eq_false_iff_ne.2 hk
  have hn1 := ok.n.1; have hn2 := ok.n.2
  obtain ⟨a, c, rfl, hc1, hc2⟩ := h.fits
  have hc2 : c ≤ 9223372036854775807 := hc2
  have HO := hid h
  obtain ⟨ok1, on, okp, os⟩ := o
  dsimp only at hk hkb hmin hn1 hn2 AP ⊢
  -- the slice that is copied
  have fin : ∀ (wq : World) (u : Upd (fun _ => False) w wq) (vs : Value), SrcS (wq.alloc (.cells #[] 9 (0, 0))) vs (l.drop m) → ∃ a' c' w', (Builtin.append_ #[50, 50] 50 #[.slice (some ⟨wq.heap.size, 0, none⟩) 0 0, vs]).run Tryz.prog (wq.alloc (.cells #[] 9 (0, 0))) = .ok (.slice a' (l.drop m).length c') w' ∧ AfterPost (l.drop m) w (.returned (.slice a' (l.drop m).length c')) w' := fun wq u vs hs => by
    obtain ⟨a', c', w', r, o1, n1, u1⟩ := copy_run (heap_alloc_new (w := wq)) hs (by rw [List.length_drop]; omega) 50
    refine ⟨a', c', w', r, a', c', rfl, o1, fun g hg => ?_, ((u.alloc (.cells #[] 9 (0, 0))).comp u1 fun i hi e => by have := u.size; omega)⟩
    rcases n1 g hg with e | e
    · rw [e]; exact u.size
    · simp only [World.size_alloc] at e; exact Nat.le_trans u.size (by omega)
  have FIN := hid fin
  clear h hm hk fin ok
  by_cases hcm : c = m
  · have hlm : l.length = m := by omega
    have hnil := hid (show l.drop m = [] from List.drop_of_length_le (by omega))
    have SR := hid (show ∀ wq : World, SrcS wq (.slice a 0 0) (l.drop m) from fun wq => by
      rw [hnil.out]
      cases a with
      | none => exact ⟨none, 0, rfl, .inl ⟨rfl, rfl⟩⟩
      | some ad => exact ⟨some ad, 0, rfl, .inr ⟨ad, rfl, fun j u hj => by simp at hj⟩⟩)
    obtain ⟨wq, hwq⟩ : ∃ wq, w.alloc (.cells #[.int .i64 ok1, .int .i64 on, .int .i64 okp, .string ⟨os.toArray⟩] 39 (0, 0)) = wq := ⟨_, rfl⟩
    have uq : Upd (fun _ => False) w wq := by rw [← hwq]; exact (Upd.refl _ _).alloc _
    obtain ⟨a', c', w', r, po⟩ := FIN.out wq uq _ (SR.out _)
    rw [show (l.drop m).length = 0 by rw [hnil.out]; rfl] at po
    have PO := hid po; have HWQ := hid hwq
    rw [show wq.heap.size = w.heap.size + 1 by rw [← hwq]; simp] at r
    rw [← hwq] at r
    have HLM := hid hlm
    clear hlm
    subst hcm
    clear uq po hwq
    cases a with
    | none =>
      go_enter Tryz.func31, Tryz.ntmps31
      go_wp2_with (at_builtin; refine wpList_append_run rfl _ _ _ _ rfl rfl rfl r ?_)
      go_ret
      rw [AP.out]
      exact PO.out
    | some ad =>
      go_enter Tryz.func31, Tryz.ntmps31
      go_wp2_with (at_builtin; refine wpList_append_run rfl _ _ _ _ rfl rfl rfl r ?_)
      go_ret
      rw [AP.out]
      exact PO.out
  · have hcp : 0 < c := by omega
    have hd1 : (l.drop m).length = l.length - m := List.length_drop
    obtain ⟨g, rfl⟩ : ∃ g, a = some ⟨g, 0, none⟩ := by
      rcases ownsRow_fits HO.out.own with ⟨e, _⟩ | ⟨g, cap, e, _⟩
      · injection e with _ _ e; omega
      · injection e with e _ _; exact ⟨g, e⟩
    have SR := hid (show ∀ wq : World, Upd (fun _ => False) w wq → SrcS wq (.slice (some ⟨g, m, none⟩) (l.length - m) (c - m)) (l.drop m) from fun wq u => by
      rw [← hd1]
      refine ⟨_, _, rfl, .inr ⟨_, rfl, fun j x hj => ?_⟩⟩
      rw [List.map_drop, List.getElem?_drop] at hj
      have h1 := HO.out.own.cells (g := g) rfl (m + j) x hj
      have e1 : Addr.add ⟨g, 0, none⟩ (m + j) = ⟨g, m + j, none⟩ := by unfold Addr.add; split <;> simp_all
      have e2 : Addr.add ⟨g, m, none⟩ j = ⟨g, m + j, none⟩ := by unfold Addr.add; split <;> simp_all
      rw [e1] at h1
      rw [e2]
      exact cell_kept h1 (u.block g (World.block_lt_of_cell? _ _ h1) id))
    obtain ⟨wq, hwq⟩ : ∃ wq, w.alloc (.cells #[.int .i64 ok1, .int .i64 on, .int .i64 okp, .string ⟨os.toArray⟩] 39 (0, 0)) = wq := ⟨_, rfl⟩
    have uq : Upd (fun _ => False) w wq := by rw [← hwq]; exact (Upd.refl _ _).alloc _
    obtain ⟨a', c', w', r, po⟩ := FIN.out wq uq _ (SR.out _ (uq.alloc _))
    rw [hd1] at po
    have PO := hid po; have HWQ := hid hwq
    rw [show wq.heap.size = w.heap.size + 1 by rw [← hwq]; simp] at r
    rw [← hwq] at r
    have hcmi : ¬ (c : Int) = m := by omega
    clear uq po hwq hd1 hcp
    go_enter Tryz.func31, Tryz.ntmps31
    go_wp2_with (at_builtin; refine wpList_append_run rfl _ _ _ _ rfl rfl rfl r ?_)
    go_ret
    rw [AP.out]
    exact PO.out
set_option maxRecDepth 100000 in
set_option maxHeartbeats 1000000 in
theorem after_add {w : World} {v : Value} {l : List (List UInt8)} (h : OwnS w v l) (hl : l.length ≤ 900000) (o : OpS) (hk : o.kind = 0) : Calls Tryz.prog 31 #[v, .agg #[.int .i64 o.kind, .int .i64 o.n, .int .i64 o.keep, .string ⟨o.s.toArray⟩]] w (AfterPost (afterP l o) w) := by
  have AP := hid (show afterP l o = l ++ [o.s] by unfold afterP; rw [if_pos hk])
  obtain ⟨ok1, on, okp, os⟩ := o
  dsimp only at hk AP ⊢
  subst hk
  obtain ⟨a, c, rfl, _, _⟩ := h.fits
  have HO := hid h; have HL := hid hl
  clear h hl
  go_enter Tryz.func31, Tryz.ntmps31
  go_upto_region 2 with (fail)
  obtain ⟨W, hW⟩ : ∃ W, w.alloc (.cells #[.int .i64 0, .int .i64 on, .int .i64 okp, .string ⟨os.toArray⟩] 39 (0, 0)) = W := ⟨_, rfl⟩
  have UW := hid (show Upd (fun _ => False) w W by rw [← hW]; exact (Upd.refl _ _).alloc _)
  obtain ⟨ob, hob⟩ : ∃ ob, w.heap.size = ob := ⟨_, rfl⟩
  have HB := hid (show W.heap[ob]? = some (.cells #[.int .i64 0, .int .i64 on, .int .i64 okp, .string ⟨os.toArray⟩] 39 (0, 0)) by rw [← hW, ← hob]; exact heap_alloc_new)
  rw [hW]
  try rw [hob]
  have HOB := hid hob
  clear hW hob
  have SHOW := hid (fun (wq : World) (u : Upd (fun _ => False) W wq) => (show wq.cell? ⟨ob, 3, none⟩ = some (.string ⟨os.toArray⟩) from by rw [cell_of_block ((u.block ob (heap_lt HB.out) id).trans HB.out)]; rfl))
  refine wp_region_g (fun w' => w'.cell? ⟨ob, 3, none⟩ = some (.string ⟨os.toArray⟩)) 5 (by kernel_rfl) ?_
  obtain ⟨Wd, hWd⟩ : ∃ Wd, W.drew = Wd := ⟨_, rfl⟩
  have UD := hid (show Upd (fun _ => False) W Wd by rw [← hWd]; exact (Upd.refl _ _).drew)
  rw [hWd]
  clear hWd
  have hS := SHOW.out Wd UD.out
  refine g_take0 (i := 1) rfl (by kernel_rfl) (by kernel_rfl) (by kernel_rfl) (by decide) (fun _ _ _ h => h) (Or.inl ⟨by kernel_rfl, by (intro w _; go_simp; try with_reducible rfl)⟩) (fun _ => hS) ?_
  (try simp only [List.getElem_toArray, List.getElem_cons_zero, List.getElem_cons_succ])
  (try go_frame)
  refine g_take0 (i := 3) rfl (by kernel_rfl) (by kernel_rfl) (by kernel_rfl) (by decide) (fun _ _ _ h => h) (Or.inl ⟨by kernel_rfl, by (intro w _; go_simp; try with_reducible rfl)⟩) (fun _ => hS) ?_
  (try simp only [List.getElem_toArray, List.getElem_cons_zero, List.getElem_cons_succ])
  (try go_frame)
  refine g_take (i := 4) rfl (by kernel_rfl) (by kernel_rfl) (by kernel_rfl) (by kernel_rfl) (fun _ _ _ h => h) (Or.inl ⟨by kernel_rfl, by (intro w hSw; (try dsimp only at hSw); go_simp; try with_reducible rfl)⟩) hS ?_
  (try simp only [List.getElem_toArray, List.getElem_cons_zero, List.getElem_cons_succ])
  (try go_frame)
  refine g_two (i := 0) (j := 5) (by kernel_rfl) rfl rfl ?_ ?_
  · skip
    go_wp2_with fail
    obtain ⟨W1, hW1⟩ : ∃ W', Wd.alloc (.cells #[] 9 (0, 0)) = W' := ⟨_, rfl⟩
    have u_ : Upd (fun _ => False) Wd W1 := by rw [← hW1]; exact (Upd.refl _ _).alloc _
    have b0 : W1.heap[Wd.heap.size]? = some (.cells #[] 9 (0, 0)) := by rw [← hW1]; exact heap_alloc_new
    have U1 := hid (UD.out.trans u_)
    have VW1 := hid u_
    have s0 := hid (show Wd.heap.size + 1 = W1.heap.size by rw [← hW1]; simp)
    have z0 := hid (show W.heap.size ≤ Wd.heap.size from UD.out.size)
    rw [hW1]
    clear hW1 u_
    first | (refine ⟨fun _ => SHOW.out W1 U1.out, ?_⟩) | (refine ⟨SHOW.out W1 U1.out, ?_⟩)
    (try simp only [List.getElem_toArray, List.getElem_cons_zero, List.getElem_cons_succ])
    (try go_frame)
    refine g_two (i := 2) (j := 5) (by kernel_rfl) rfl rfl ?_ ?_
    · skip
      obtain ⟨a2, c2, W2, r2, o2, n2, u2⟩ := copy_run b0 (SrcS.of (Own1.upd (Own1.upd HO.out UW.out fun _ _ => id) U1.out fun _ _ => id)) (Nat.le_trans HL.out (by decide)) 50
      have O2 := hid o2; have N2 := hid n2; have zc := hid U1.out.size
      have U2 := hid (U1.out.comp u2 fun i hi e => by have := z0.out; omega)
      clear o2 n2 u2
      (try simp only [List.getElem_toArray, List.getElem_cons_zero, List.getElem_cons_succ])
      (try go_frame)
      refine wpList_append_run rfl _ _ _ _ rfl rfl rfl r2 ?_
      go_wp2_with fail
      clear r2
      first | (refine ⟨fun _ => SHOW.out W2 U2.out, ?_⟩) | (refine ⟨SHOW.out W2 U2.out, ?_⟩)
      (try simp only [List.getElem_toArray, List.getElem_cons_zero, List.getElem_cons_succ])
      (try go_frame)
      refine g_op (i := 5) (by kernel_rfl) rfl ?_
      go_wp2_with fail
      obtain ⟨W3, hW3⟩ : ∃ W', W2.alloc (.cells #[.string ⟨os.toArray⟩] 9 (0, 0)) = W' := ⟨_, rfl⟩
      have u_ : Upd (fun _ => False) W2 W3 := by rw [← hW3]; exact (Upd.refl _ _).alloc _
      have b5 : W3.heap[W2.heap.size]? = some (.cells #[.string ⟨os.toArray⟩] 9 (0, 0)) := by rw [← hW3]; exact heap_alloc_new
      have U3 := hid (U2.out.trans u_)
      have VW3 := hid u_
      have s5 := hid (show W2.heap.size + 1 = W3.heap.size by rw [← hW3]; simp)
      have z5 := hid (show W.heap.size ≤ W2.heap.size from U2.out.size)
      rw [hW3]
      clear hW3 u_
      refine ⟨fun h => (Bool.false_ne_true (h.symm.trans (by kernel_rfl))).elim, ?_⟩
      (try simp only [List.getElem_toArray, List.getElem_cons_zero, List.getElem_cons_succ])
      (try go_frame)
      refine g_op (i := 6) (by kernel_rfl) rfl ?_
      (try simp only [List.getElem_toArray, List.getElem_cons_zero, List.getElem_cons_succ])
      (try go_frame)
      obtain ⟨v6, W6, r6, o6, u6, n6⟩ := Own1.app elemS (Own1.upd O2.out VW3.out fun _ _ => id) (strV os) rfl (by have := HL.out; omega) (by decide) 50 b5
      obtain ⟨a6, c6, rfl, _, _⟩ := o6.fits
      have FIN := hid (show AfterPost (l ++ [os]) w (.returned (.slice a6 (l.length + 1) c6)) W6 from by
        have sz := UW.out.size; have z0 := z0.out; have zc := zc.out; have su := U3.out.size
        have hnew : ∀ g, (Value.slice a2 l.length c2).ownBlock = some g → w.heap.size ≤ g := fun g hg => by
          rcases N2.out g hg with e | e <;> omega
        refine ⟨a6, c6, by rw [List.length_append]; rfl, by unfold OwnS; rw [List.length_append, List.map_append]; exact o6, fun g hg => ?_, (UW.out.trans U3.out).comp u6 fun i hi e => by have := hnew i e.1; omega⟩
        rw [show (l ++ [os]).length = l.length + 1 by rw [List.length_append]; rfl] at hg
        rcases n6 with n6 | ⟨g', n6, hs⟩
        · exact hnew g (by rw [← n6]; exact hg)
        · rw [hg] at n6; injection n6 with n6; subst n6; omega)
      clear o6 u6 n6
      refine wpList_append_run rfl _ _ _ _ rfl rfl rfl r6 ?_
      go_wp2_with fail
      clear r6
      refine ⟨fun h => (Bool.false_ne_true (h.symm.trans (by kernel_rfl))).elim, ?_⟩
      (try simp only [List.getElem_toArray, List.getElem_cons_zero, List.getElem_cons_succ])
      (try go_frame)
      refine g_op (i := 7) (by kernel_rfl) rfl ?_
      go_wp2_with fail
      refine ⟨fun h => (Bool.false_ne_true (h.symm.trans (by kernel_rfl))).elim, ?_⟩
      (try simp only [List.getElem_toArray, List.getElem_cons_zero, List.getElem_cons_succ])
      (try go_frame)
      refine g_done (by kernel_rfl) ?_
      go_wp2_with fail
      go_ret
      rw [AP.out]
      exact FIN.out
    · skip
      go_wp2_with fail
      obtain ⟨W2, hW2⟩ : ∃ W', W1.alloc (.cells #[.string ⟨os.toArray⟩] 9 (0, 0)) = W' := ⟨_, rfl⟩
      have u_ : Upd (fun _ => False) W1 W2 := by rw [← hW2]; exact (Upd.refl _ _).alloc _
      have b5 : W2.heap[W1.heap.size]? = some (.cells #[.string ⟨os.toArray⟩] 9 (0, 0)) := by rw [← hW2]; exact heap_alloc_new
      have U2 := hid (U1.out.trans u_)
      have VW2 := hid u_
      have s5 := hid (show W1.heap.size + 1 = W2.heap.size by rw [← hW2]; simp)
      have z5 := hid (show W.heap.size ≤ W1.heap.size from U1.out.size)
      have b0 := (u_.block _ (heap_lt b0) id).trans b0
      rw [hW2]
      clear hW2 u_
      refine ⟨fun h => (Bool.false_ne_true (h.symm.trans (by kernel_rfl))).elim, ?_⟩
      (try simp only [List.getElem_toArray, List.getElem_cons_zero, List.getElem_cons_succ])
      (try go_frame)
      refine g_op (i := 2) (by kernel_rfl) rfl ?_
      obtain ⟨a2, c2, W3, r2, o2, n2, u2⟩ := copy_run b0 (SrcS.of (Own1.upd (Own1.upd HO.out UW.out fun _ _ => id) U2.out fun _ _ => id)) (Nat.le_trans HL.out (by decide)) 50
      have O2 := hid o2; have N2 := hid n2; have zc := hid U2.out.size
      have U3 := hid (U2.out.comp u2 fun i hi e => by have := z0.out; omega)
      have b5 := (u2.block _ (heap_lt b5) (by have h1 := s0.out; omega)).trans b5
      clear o2 n2 u2
      (try simp only [List.getElem_toArray, List.getElem_cons_zero, List.getElem_cons_succ])
      (try go_frame)
      refine wpList_append_run rfl _ _ _ _ rfl rfl rfl r2 ?_
      go_wp2_with fail
      clear r2
      refine ⟨fun h => (Bool.false_ne_true (h.symm.trans (by kernel_rfl))).elim, ?_⟩
      (try simp only [List.getElem_toArray, List.getElem_cons_zero, List.getElem_cons_succ])
      (try go_frame)
      refine g_op (i := 6) (by kernel_rfl) rfl ?_
      (try simp only [List.getElem_toArray, List.getElem_cons_zero, List.getElem_cons_succ])
      (try go_frame)
      obtain ⟨v6, W6, r6, o6, u6, n6⟩ := Own1.app elemS O2.out (strV os) rfl (by have := HL.out; omega) (by decide) 50 b5
      obtain ⟨a6, c6, rfl, _, _⟩ := o6.fits
      have FIN := hid (show AfterPost (l ++ [os]) w (.returned (.slice a6 (l.length + 1) c6)) W6 from by
        have sz := UW.out.size; have z0 := z0.out; have zc := zc.out; have su := U3.out.size
        have hnew : ∀ g, (Value.slice a2 l.length c2).ownBlock = some g → w.heap.size ≤ g := fun g hg => by
          rcases N2.out g hg with e | e <;> omega
        refine ⟨a6, c6, by rw [List.length_append]; rfl, by unfold OwnS; rw [List.length_append, List.map_append]; exact o6, fun g hg => ?_, (UW.out.trans U3.out).comp u6 fun i hi e => by have := hnew i e.1; omega⟩
        rw [show (l ++ [os]).length = l.length + 1 by rw [List.length_append]; rfl] at hg
        rcases n6 with n6 | ⟨g', n6, hs⟩
        · exact hnew g (by rw [← n6]; exact hg)
        · rw [hg] at n6; injection n6 with n6; subst n6; omega)
      clear o6 u6 n6
      refine wpList_append_run rfl _ _ _ _ rfl rfl rfl r6 ?_
      go_wp2_with fail
      clear r6
      refine ⟨fun h => (Bool.false_ne_true (h.symm.trans (by kernel_rfl))).elim, ?_⟩
      (try simp only [List.getElem_toArray, List.getElem_cons_zero, List.getElem_cons_succ])
      (try go_frame)
      refine g_op (i := 7) (by kernel_rfl) rfl ?_
      go_wp2_with fail
      refine ⟨fun h => (Bool.false_ne_true (h.symm.trans (by kernel_rfl))).elim, ?_⟩
      (try simp only [List.getElem_toArray, List.getElem_cons_zero, List.getElem_cons_succ])
      (try go_frame)
      refine g_done (by kernel_rfl) ?_
      go_wp2_with fail
      go_ret
      rw [AP.out]
      exact FIN.out
  · skip
    go_wp2_with fail
    obtain ⟨W1, hW1⟩ : ∃ W', Wd.alloc (.cells #[.string ⟨os.toArray⟩] 9 (0, 0)) = W' := ⟨_, rfl⟩
    have u_ : Upd (fun _ => False) Wd W1 := by rw [← hW1]; exact (Upd.refl _ _).alloc _
    have b5 : W1.heap[Wd.heap.size]? = some (.cells #[.string ⟨os.toArray⟩] 9 (0, 0)) := by rw [← hW1]; exact heap_alloc_new
    have U1 := hid (UD.out.trans u_)
    have VW1 := hid u_
    have s5 := hid (show Wd.heap.size + 1 = W1.heap.size by rw [← hW1]; simp)
    have z5 := hid (show W.heap.size ≤ Wd.heap.size from UD.out.size)
    rw [hW1]
    clear hW1 u_
    refine ⟨fun h => (Bool.false_ne_true (h.symm.trans (by kernel_rfl))).elim, ?_⟩
    (try simp only [List.getElem_toArray, List.getElem_cons_zero, List.getElem_cons_succ])
    (try go_frame)
    refine g_op (i := 0) (by kernel_rfl) rfl ?_
    go_wp2_with fail
    obtain ⟨W2, hW2⟩ : ∃ W', W1.alloc (.cells #[] 9 (0, 0)) = W' := ⟨_, rfl⟩
    have u_ : Upd (fun _ => False) W1 W2 := by rw [← hW2]; exact (Upd.refl _ _).alloc _
    have b0 : W2.heap[W1.heap.size]? = some (.cells #[] 9 (0, 0)) := by rw [← hW2]; exact heap_alloc_new
    have U2 := hid (U1.out.trans u_)
    have VW2 := hid u_
    have s0 := hid (show W1.heap.size + 1 = W2.heap.size by rw [← hW2]; simp)
    have z0 := hid (show W.heap.size ≤ W1.heap.size from U1.out.size)
    have b5 := (u_.block _ (heap_lt b5) id).trans b5
    rw [hW2]
    clear hW2 u_
    refine ⟨fun h => (Bool.false_ne_true (h.symm.trans (by kernel_rfl))).elim, ?_⟩
    (try simp only [List.getElem_toArray, List.getElem_cons_zero, List.getElem_cons_succ])
    (try go_frame)
    refine g_op (i := 2) (by kernel_rfl) rfl ?_
    obtain ⟨a2, c2, W3, r2, o2, n2, u2⟩ := copy_run b0 (SrcS.of (Own1.upd (Own1.upd HO.out UW.out fun _ _ => id) U2.out fun _ _ => id)) (Nat.le_trans HL.out (by decide)) 50
    have O2 := hid o2; have N2 := hid n2; have zc := hid U2.out.size
    have U3 := hid (U2.out.comp u2 fun i hi e => by have := z0.out; omega)
    have b5 := (u2.block _ (heap_lt b5) (by have h1 := s5.out; omega)).trans b5
    clear o2 n2 u2
    (try simp only [List.getElem_toArray, List.getElem_cons_zero, List.getElem_cons_succ])
    (try go_frame)
    refine wpList_append_run rfl _ _ _ _ rfl rfl rfl r2 ?_
    go_wp2_with fail
    clear r2
    refine ⟨fun h => (Bool.false_ne_true (h.symm.trans (by kernel_rfl))).elim, ?_⟩
    (try simp only [List.getElem_toArray, List.getElem_cons_zero, List.getElem_cons_succ])
    (try go_frame)
    refine g_op (i := 6) (by kernel_rfl) rfl ?_
    (try simp only [List.getElem_toArray, List.getElem_cons_zero, List.getElem_cons_succ])
    (try go_frame)
    obtain ⟨v6, W6, r6, o6, u6, n6⟩ := Own1.app elemS O2.out (strV os) rfl (by have := HL.out; omega) (by decide) 50 b5
    obtain ⟨a6, c6, rfl, _, _⟩ := o6.fits
    have FIN := hid (show AfterPost (l ++ [os]) w (.returned (.slice a6 (l.length + 1) c6)) W6 from by
      have sz := UW.out.size; have z0 := z0.out; have zc := zc.out; have su := U3.out.size
      have hnew : ∀ g, (Value.slice a2 l.length c2).ownBlock = some g → w.heap.size ≤ g := fun g hg => by
        rcases N2.out g hg with e | e <;> omega
      refine ⟨a6, c6, by rw [List.length_append]; rfl, by unfold OwnS; rw [List.length_append, List.map_append]; exact o6, fun g hg => ?_, (UW.out.trans U3.out).comp u6 fun i hi e => by have := hnew i e.1; omega⟩
      rw [show (l ++ [os]).length = l.length + 1 by rw [List.length_append]; rfl] at hg
      rcases n6 with n6 | ⟨g', n6, hs⟩
      · exact hnew g (by rw [← n6]; exact hg)
      · rw [hg] at n6; injection n6 with n6; subst n6; omega)
    clear o6 u6 n6
    refine wpList_append_run rfl _ _ _ _ rfl rfl rfl r6 ?_
    go_wp2_with fail
    clear r6
    refine ⟨fun h => (Bool.false_ne_true (h.symm.trans (by kernel_rfl))).elim, ?_⟩
    (try simp only [List.getElem_toArray, List.getElem_cons_zero, List.getElem_cons_succ])
    (try go_frame)
    refine g_op (i := 7) (by kernel_rfl) rfl ?_
    go_wp2_with fail
    refine ⟨fun h => (Bool.false_ne_true (h.symm.trans (by kernel_rfl))).elim, ?_⟩
    (try simp only [List.getElem_toArray, List.getElem_cons_zero, List.getElem_cons_succ])
    (try go_frame)
    refine g_done (by kernel_rfl) ?_
    go_wp2_with fail
    go_ret
    rw [AP.out]
    exact FIN.out
end Go.Proofs.YtlefilfdomjkeaaGreatDoor
namespace Go.Proofs.YtlefilfdomjkeaaGreatDoor
open Go
def doP (F : Fl) (S : St) (o : OpS) : Fl × St × Int := if o.kind = 0 then appendP F S o.s else if o.kind = 1 then dropP F S o.n else (F, S, 6)
/-- After j operations. -/
structure Quiet (j nb np : Nat) (F : Fl) (S : St) : Prop where
  tidy : Tidy F S
  hnb : F.nb = nb
  hnp : F.np = np
  next : S.next ≤ j * (nb * np)
  len : S.len ≤ j
  ats : ∀ a ∈ S.ats, a ≤ S.next
  same : S.ats.length = S.recs.length
  txt : ∀ r ∈ S.recs, r.length ≤ 300
theorem Quiet.size {j nb np : Nat} {F : Fl} {S : St} (h : Quiet j nb np F S) (h1 : nb ≤ 6) (h2 : np ≤ 6) (hj : j ≤ 800) : nb * np ≤ 36 ∧ S.next ≤ 28800 := by
  have a := Nat.mul_le_mul h1 h2
  have b : j * (nb * np) ≤ 800 * 36 := Nat.mul_le_mul hj a
  have := h.next
  exact ⟨a, by omega⟩
theorem Quiet.ok {j nb np : Nat} {F : Fl} {S : St} (h : Quiet j nb np F S) (h1 : nb ≤ 6) (h2 : np ≤ 6) (hj : j ≤ 800) : StOk S := by
  have h3 := (h.size h1 h2 hj).2
  exact ⟨by omega, by have := h.len; omega, fun a ha => by have := h.ats a ha; omega, h.same, fun r hr => by have := h.txt r hr; omega⟩
theorem quiet_new {nb np : Nat} (h1 : 2 ≤ nb ∧ nb ≤ 6) (h2 : 1 ≤ np ∧ np ≤ 6) : Quiet 0 nb np (Fl.new nb np) ⟨0, 0, [], []⟩ :=
  ⟨tidy_new (by omega) (by omega), rfl, rfl, Nat.zero_le _, Nat.zero_le _, (fun _ h => nomatch h), rfl, fun _ h => nomatch h⟩
theorem Quiet.wide {j k nb np : Nat} {F : Fl} {S : St} (h : Quiet j nb np F S) (hk : j ≤ k) : Quiet k nb np F S :=
  ⟨h.tidy, h.hnb, h.hnp, Nat.le_trans h.next (Nat.mul_le_mul_right _ hk), Nat.le_trans h.len hk, h.ats, h.same, h.txt⟩
theorem Quiet.small {j nb np : Nat} {F : Fl} {S : St} (h : Quiet j nb np F S) (h1 : nb ≤ 6) (h2 : np ≤ 6) (hj : j ≤ 800) {r : List UInt8} (hr : r.length ≤ 4000) : S.Small r := by
  have := (h.size h1 h2 hj).2; have := h.len
  exact ⟨by omega, by omega⟩
theorem Quiet.room {j nb np : Nat} {F : Fl} {S : St} (h : Quiet j nb np F S) (hj : j ≤ 800) : S.next + F.nb * F.np ≤ 900 * (F.nb * F.np) := by
  rw [h.hnb, h.hnp]
  have h1 := h.next
  have h2 := Nat.mul_le_mul_right (nb * np) hj
  omega
theorem Quiet.append {j nb np : Nat} {F : Fl} {S : St} (h : Quiet j nb np F S) (h1 : nb ≤ 6) (h2 : np ≤ 6) (hj : j ≤ 800) {r : List UInt8} (hr : r.length ≤ 300) {R : Fl × St × Int} (hR : appendP F S r = R) :
    Quiet (j + 1) nb np R.1 R.2.1 ∧ (R.2.2 = 0 → R.2.1.recs = S.recs ++ [r]) ∧ (R.2.2 ≠ 0 → R.1 = F ∧ R.2.1 = S) := by
  subst hR
  have hA := h.tidy.append (r := r) (h.small h1 h2 hj (by omega)) (h.room hj)
  generalize appendP F S r = R at hA
  cases hA with
  | long h => omega
  | full hf => exact ⟨h.wide (Nat.le_succ _), fun e => (by cases e), fun _ => ⟨rfl, rfl⟩⟩
  | done G ht hn hk hx hf =>
    refine ⟨⟨ht, hn.trans h.hnb, hk.trans h.hnp, ?_, ?_, ?_, ?_, ?_⟩, fun _ => rfl, fun e => absurd rfl e⟩
    · show S.next + (recP S r).length ≤ (j + 1) * (nb * np)
      have e := h.next
      rw [h.hnb, h.hnp] at hx
      rw [Nat.add_mul]; omega
    · have e := h.len
      unfold St.len at e ⊢
      show S.first + (S.recs ++ [r]).length ≤ j + 1
      rw [List.length_append, List.length_singleton]; omega
    · intro a ha
      show a ≤ S.next + (recP S r).length
      rcases List.mem_append.1 ha with ha | ha
      · have := h.ats a ha; omega
      · rw [List.mem_singleton.1 ha]; omega
    · show (S.ats ++ [S.next]).length = (S.recs ++ [r]).length
      rw [List.length_append, List.length_append, h.same]; rfl
    · intro x hx
      rcases List.mem_append.1 hx with hx | hx
      · exact h.txt x hx
      · rw [List.mem_singleton.1 hx]; exact hr
theorem Quiet.drop {j nb np : Nat} {F : Fl} {S : St} (h : Quiet j nb np F S) (h1 : nb ≤ 6) (h2 : np ≤ 6) (hj : j ≤ 800) (n : Int) {R : Fl × St × Int} (hR : dropP F S n = R) :
    Quiet (j + 1) nb np R.1 R.2.1 ∧ (R.2.2 = 0 ∧ 0 ≤ n ∧ n ≤ S.recs.length ∧ R.2.1.recs = S.recs.drop n.toNat ∨ R.2.2 = 1 ∧ R.1 = F ∧ R.2.1 = S ∧ (n < 0 ∨ (S.recs.length : Int) < n)) := by
  subst hR
  by_cases hn : n < 0 ∨ (S.recs.length : Int) < n
  · have e : dropP F S n = (F, S, 1) := by unfold dropP; rw [if_pos hn]
    rw [e]
    exact ⟨h.wide (Nat.le_succ _), .inr ⟨rfl, rfl, rfl, hn⟩⟩
  · by_cases h0 : n = 0
    · have e : dropP F S n = (F, S, 0) := by unfold dropP; rw [if_neg hn, if_pos h0]
      rw [e]
      exact ⟨h.wide (Nat.le_succ _), .inl ⟨rfl, by omega, by omega, by rw [h0]; rfl⟩⟩
    · obtain ⟨m, rfl⟩ := Int.eq_ofNat_of_zero_le (show 0 ≤ n by omega)
      obtain ⟨G, e, ht, hnb, hnp⟩ := h.tidy.drop (n := m) (h.small h1 h2 hj (by decide)) (by omega) (by omega) (h.room hj)
      rw [e]
      have hml : m ≤ S.recs.length := by omega
      refine ⟨⟨ht, hnb.trans h.hnb, hnp.trans h.hnp, ?_, ?_, ?_, ?_, ?_⟩, .inl ⟨rfl, by omega, by omega, rfl⟩⟩
      · show S.next + 1 ≤ (j + 1) * (nb * np)
        have e := h.next
        have : 0 < nb * np := by rw [← h.hnb, ← h.hnp]; exact mul_pos' h.tidy.live.ok
        rw [Nat.add_mul]; omega
      · have e := h.len
        unfold St.len at e ⊢
        show S.first + m + (S.recs.drop m).length ≤ j + 1
        rw [List.length_drop]; omega
      · intro a ha
        have := h.ats a (List.mem_of_mem_drop ha)
        show a ≤ S.next + 1
        omega
      · show (S.ats.drop m).length = (S.recs.drop m).length
        rw [List.length_drop, List.length_drop, h.same]
      · exact fun x hx => h.txt x (List.mem_of_mem_drop hx)
theorem after_kind0 {l : List (List UInt8)} {o : OpS} (h : o.kind = 0) : afterP l o = l ++ [o.s] := by unfold afterP; rw [if_pos h]
theorem after_kind1 {l : List (List UInt8)} {o : OpS} (h : ¬ o.kind = 0) (h1 : 0 ≤ o.n) (h2 : o.n ≤ l.length) : afterP l o = l.drop o.n.toNat := by
  unfold afterP
  rw [if_neg h, show min (max o.n 0) (l.length : Int) = o.n by omega]
end Go.Proofs.YtlefilfdomjkeaaGreatDoor
namespace Go.Proofs.YtlefilfdomjkeaaGreatDoor
open Go.RowKit Go.Deep
theorem Tidy.sopen {F : Fl} {S : St} (h : Tidy F S) (hn : S.next ≤ 900000) : 2 ≤ F.nb ∧ F.down = false ∧ PgInv F ∧ ∀ p ∈ pagesP F, p.pos < 1000000 :=
  ⟨h.live.nb, h.live.up, h.live.inv, fun p hp => by have := h.live.lt p hp; omega⟩
/-- How far the operations have come. -/
def QuietAt (w0 w : World) (nb np p q i : Nat) (sx scur : Value) (wr : World) : Prop :=
  ∃ (x : Nat) (O : Nat → Prop) (F : Fl) (S : St) (a : Option Addr) (c : Nat), sx = .pointer (some ⟨x, 0, none⟩) ∧ scur = .slice a S.recs.length c ∧ Shop w0 wr O p q F x S ∧ OwnS wr (.slice a S.recs.length c) S.recs ∧ (∀ g, (Value.slice a S.recs.length c).ownBlock = some g → w.heap.size ≤ g ∧ ¬ O g) ∧ Quiet i nb np F S ∧ (∀ k, O k → k = p ∨ k = q ∨ w.heap.size ≤ k) ∧ Upd (fun k => k = p ∨ k = q) w wr
def QuietPost (w0 w : World) (nb np p q n : Nat) (e : Ending) (w' : World) : Prop :=
  ∃ (x : Nat) (O : Nat → Prop) (F : Fl) (S : St), e = .returned (.tuple #[.pointer (some ⟨x, 0, none⟩), .bool true]) ∧ Shop w0 w' O p q F x S ∧ Quiet n nb np F S ∧ (∀ k, O k → k = p ∨ k = q ∨ w.heap.size ≤ k) ∧ Upd (fun k => k = p ∨ k = q) w w'
end Go.Proofs.YtlefilfdomjkeaaGreatDoor
namespace Go.Proofs.YtlefilfdomjkeaaGreatDoor
open Go.RowKit Go.Deep Go.ChangeShapes Go.WideShapes
theorem elemOp : ElemTy Tryz.prog 22 39 4 40 := .mk' Tryz.underlying22 (z := .agg #[.int .i64 0, .int .i64 0, .int .i64 0, .string ⟨#[]⟩]) (by kernel_rfl) (by rfl) (by decide)
def opsC (l : List OpS) : List Value := l.flatMap opC
theorem opsC_len (l : List OpS) : (opsC l).length = l.length * 4 := by
  unfold opsC
  induction l with
  | nil => rfl
  | cons o l ih => rw [List.flatMap_cons, List.length_append, ih, List.length_cons]; simp; omega
theorem opsC_one (l : List OpS) : ∀ u ∈ opsC l, u.oneCell' = true := by
  intro u hu
  unfold opsC at hu
  obtain ⟨o, _, ho⟩ := List.mem_flatMap.1 hu
  simp [opC] at ho
  rcases ho with rfl | rfl | rfl | rfl <;> rfl
theorem opsC_append (a b : List OpS) : opsC (a ++ b) = opsC a ++ opsC b := by unfold opsC; rw [List.flatMap_append]
theorem opsC_get (l : List OpS) : ∀ (i : Nat) (hi : i < l.length) (j : Nat), j < 4 → (opsC l)[i * 4 + j]? = (opC l[i])[j]? := by
  induction l with
  | nil => intro i hi; simp at hi
  | cons o l ih =>
    intro i hi j hj
    have e : opsC (o :: l) = opC o ++ opsC l := by unfold opsC; rw [List.flatMap_cons]
    rw [e]
    cases i with
    | zero => rw [Nat.zero_mul, Nat.zero_add, List.getElem?_append_left (by simpa using hj)]; rfl
    | succ i =>
      rw [List.getElem?_append_right (by simp; omega)]
      have := ih i (by simpa using hi) j hj
      rw [show (i + 1) * 4 + j - (opC o).length = i * 4 + j by simp; omega]
      simpa using this
theorem opS_wf {o : OpS} (h : o.Ok) {A : Nat → Prop} {w : World} : kOpS.rep A w (opC o) o :=
  ⟨_, _, rfl, ⟨rfl, iwf h.kind⟩, _, _, rfl, ⟨rfl, iwf h.n⟩, _, _, rfl, ⟨rfl, iwf h.keep⟩, ⟨rfl, h.s⟩⟩
/-- A row of operations reads as they are. -/
theorem ops_rep {w : World} {B : Nat} {v : Value} {l : List OpS} {A : Nat → Prop} (h : w.ownsRow B 39 4 v l.length (opsC l)) (hl : ∀ o ∈ l, o.Ok) (hA : ∀ g, v.ownBlock = some g → A g) : (kSlice kOpS).rep A w [v] l :=
  ownsRow_rep (K := kOpS) (e := 39) (xs := opsC l) h (fun i hi => ⟨_, opS_wf (hl _ (List.getElem_mem hi)), fun j hj => opsC_get l i hi j hj⟩) hA
theorem ops_cells {A : Nat → Prop} {w : World} {b o : Nat} {l : List OpS} (h : Elems kOpS A w b o l) : ∀ j u, (opsC l)[j]? = some u → w.cell? (Addr.add ⟨b, o, none⟩ j) = some u := by
  intro j u hj
  have hjl := (List.getElem?_eq_some_iff.1 hj).1
  rw [opsC_len] at hjl
  obtain ⟨i, r, hr, rfl⟩ : ∃ i r, r < 4 ∧ j = i * 4 + r := ⟨j / 4, j % 4, by omega, by omega⟩
  have hi : i < l.length := by omega
  rw [opsC_get l i hi r hr] at hj
  obtain ⟨cs, h1, h2⟩ := h.cell hi
  obtain ⟨rfl, _⟩ := opS_rep h1
  rw [Addr.add_lit, ← Nat.add_assoc]
  exact (h2 r hr).trans hj
theorem append_none {P : Program} {w : World} {base n c : Nat} {t ty e : TypeId} {size bytes : Nat} (T : ElemTy P t e size bytes) {v : Value} {xs : List Value} (hown : w.ownsRow base e size v n xs) :
    (Builtin.append_ #[t, t] ty #[v, .slice none 0 c]).run P w = .ok v w := by
  obtain ⟨ht, ⟨i, z, hi, _⟩, _⟩ := T
  rcases hown.2 with ⟨rfl, rfl⟩ | ⟨g, cap, cur, rfl, _, _, hnc, _⟩
  · simp [Builtin.append_, run_underlying ht, sizeOf, typeInfo, hi, Builtin.lenOf, Builtin.firstCells]
  · simp [Builtin.append_, run_underlying ht, sizeOf, typeInfo, hi, Builtin.lenOf, Builtin.firstCells, hnc, storeCells]
/-- All operations of a slice are appended. -/
theorem append_ops {A : Nat → Prop} {w : World} {B : Nat} {v : Value} {L l : List OpS} {a : Option Addr} {c : Nat} (hown : w.ownsRow B 39 4 v L.length (opsC L)) (hl : (kSlice kOpS).rep A w [.slice a l.length c] l) (hn : L.length + l.length ≤ 1000000) (hb : B ≤ w.heap.size) :
    ∃ a' c' w', (Builtin.append_ #[22, 22] 22 #[v, .slice a l.length c]).run Tryz.prog w = .ok (.slice a' (L.length + l.length) c') w' ∧ w'.ownsRow B 39 4 (.slice a' (L.length + l.length) c') (L ++ l).length (opsC (L ++ l)) ∧ w.grownBy w' v.ownBlock := by
  obtain ⟨a0, c0, e0, _, _, hel⟩ := slice_open hl
  injection e0 with e1 _ _
  subst e1
  have fitv : ∀ {w' : World} {v' : Value} {n : Nat} {xs : List Value}, w'.ownsRow B 39 4 v' n xs → ∃ a' c', v' = .slice a' n c' := fun h => by
    rcases ownsRow_fits h with ⟨rfl, rfl⟩ | ⟨g, cap, rfl, _⟩
    · exact ⟨none, 0, rfl⟩
    · exact ⟨_, cap, rfl⟩
  by_cases h0 : l = []
  · subst h0
    obtain ⟨a', c', rfl⟩ := fitv hown
    rw [List.append_nil]
    cases a with
    | none => exact ⟨a', c', w, append_none elemOp hown, hown, ⟨rfl, rfl, rfl, Nat.le_refl _, fun _ _ _ => rfl⟩⟩
    | some ad =>
      obtain ⟨v', w', hr, ho, hg, _⟩ := append_own2 elemOp hown ad 0 c [] rfl (fun j u hj => by simp at hj) (fun u hu => by simp at hu) (by unfold maxLen; omega) (by simp at hn ⊢; omega) hb 22
      obtain ⟨a2, c2, rfl⟩ := fitv ho
      rw [List.append_nil] at ho
      exact ⟨a2, c2, w', hr, ho, hg⟩
  · obtain ⟨b, o, rfl, _, hE⟩ := hel (List.length_pos_iff.2 h0)
    obtain ⟨v', w', hr, ho, hg, _⟩ := append_own2 elemOp hown ⟨b, o, none⟩ l.length c (opsC l) (opsC_len l) (ops_cells hE) (opsC_one l) (by unfold maxLen; omega) (by omega) hb 22
    obtain ⟨a2, c2, rfl⟩ := fitv ho
    rw [← opsC_append] at ho
    exact ⟨a2, c2, w', hr, by rw [List.length_append]; exact ho, hg⟩
theorem ops_ok {A : Nat → Prop} {w : World} {v : Value} {l : List OpS} (h : (kSlice kOpS).rep A w [v] l) : ∀ o ∈ l, o.Ok := by
  intro o ho
  obtain ⟨i, hi, rfl⟩ := List.getElem_of_mem ho
  obtain ⟨a, c, _, _, _, hel⟩ := slice_open h
  obtain ⟨b, f, _, _, hE⟩ := hel (by omega)
  exact (opS_cells hE hi).2
end Go.Proofs.YtlefilfdomjkeaaGreatDoor
