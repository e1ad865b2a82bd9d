/- slices.DeleteFunc at spans, with Norm's predicate. -/
/- Walks: Norm. -/
import Derived.Test.YtdcahnkcnbhknaaGreatDoorEnRow
import Derived.Test.YtdcahnkcnbhknaaGreatDoorSortT
import Derived.Shelf.SlicesQ.IndexFunc
import Derived.Lib.SliceRun
import Derived.Deep.RegionWith
import Derived.StillTailTactics
namespace Go.Proofs.YtdcahnkcnbhknaaGreatDoor
open Go.RowKit Go.Deep

instance : Inhabited Sp := ⟨⟨0, 0, 0⟩⟩
theorem norm1_any (s : Sp) (W : World) : Calls Tryz.prog 91 #[spVal s] W fun e w' => e = .returned (.bool (!decide s.Ok)) ∧ Upd (fun _ => False) W w' := by
  unfold spVal
  go_enter Tryz.func91, Tryz.ntmps91
  go_wp2_with fail
  refine (valid_any s _).mono ?_
  rintro e w' ⟨rfl, u⟩
  have U := hid (((Upd.refl (fun _ => False) W).alloc _).trans u)
  clear u
  go_wp2_with fail
  go_ret
  exact ⟨rfl, U.out⟩
def bad1 (s : Sp) : Bool := !decide s.Ok
theorem pred1 (w : World) : PredBelow Tryz.prog 91 #[] (fun x => .agg (spCells x).toArray) bad1 w := fun W x hb =>
  (norm1_any x W).mono fun e w' ⟨he, u⟩ => ⟨he, hb.trans (u.below hb.size fun _ h => h.elim)⟩
theorem eg1 : ∀ args w, (callFunc 91 args).run Tryz.prog w = .ok (.enter 91 args) w := enters_of Tryz.func91 (by kernel_rfl) rfl
def okL (l : List Sp) : List Sp := l.filter fun s => decide s.Ok
/-- The first span that is not valid. -/
def firstBad (l : List Sp) : Int := Lib.idxBy (fun _ y => bad1 y) (l.take l.length) default
theorem bad_get {l : List Sp} {i : Nat} (h : i < l.length) : bad1 l[i]! = !decide (l[i]).Ok := by
  unfold bad1
  rw [getElem!_pos l i h]
theorem least {p : Nat → Prop} (h : ∃ i, p i) : ∃ i, p i ∧ ∀ j, j < i → ¬ p j := by
  obtain ⟨i, hi⟩ := h
  induction i using Nat.strongRecOn with
  | _ i ih =>
    by_cases hx : ∃ j, j < i ∧ p j
    · obtain ⟨j, hj, hp⟩ := hx
      exact ih j hj hp
    · exact ⟨i, hi, fun j hj hp => hx ⟨j, hj, hp⟩⟩
theorem first_cases (l : List Sp) : (firstBad l = -1 ∧ okL l = l) ∨ ∃ i, ∃ h : i < l.length, firstBad l = (i : Int) ∧ ¬ (l[i]).Ok ∧ okL (l.take (i + 1)) = l.take i := by
  by_cases ha : ∃ i, ∃ h : i < l.length, ¬ (l[i]).Ok
  · right
    have hex : ∃ i, i < l.length ∧ bad1 l[i]! = true := by
      obtain ⟨i, h, hn⟩ := ha
      exact ⟨i, h, by rw [bad_get h, decide_eq_false hn]; rfl⟩
    obtain ⟨i, hi, hb, hmin⟩ : ∃ i, i < l.length ∧ bad1 l[i]! = true ∧ ∀ j, j < i → ¬ (j < l.length ∧ bad1 l[j]! = true) :=
      let ⟨i, h1, h2⟩ := least hex; ⟨i, h1.1, h1.2, h2⟩
    have hlow : ∀ j (h : j < l.length), j < i → (l[j]).Ok := fun j h hj => by
      have := hmin j hj
      rw [bad_get h] at this
      by_cases ho : (l[j]).Ok
      · exact ho
      · exact absurd ⟨h, by rw [decide_eq_false ho]; rfl⟩ this
    have hni : ¬ (l[i]).Ok := fun ho => by rw [bad_get hi, decide_eq_true ho] at hb; cases hb
    refine ⟨i, hi, ?_, hni, ?_⟩
    · unfold firstBad
      exact Lib.idxBy_hit _ l l.length i default hi (Nat.le_refl _) hb fun j hj => by
        have := hmin j hj
        have hjl : j < l.length := by omega
        cases hx : bad1 l[j]! with
        | true => exact absurd ⟨hjl, hx⟩ this
        | false => rfl
    · unfold okL
      rw [List.take_succ_eq_append_getElem hi, List.filter_append, List.filter_eq_self.2 fun s hs => ?_]
      · simp [hni]
      · obtain ⟨j, hj, rfl⟩ := List.mem_iff_getElem.1 hs
        rw [List.getElem_take]
        simp at hj
        exact decide_eq_true (hlow j (by omega) (by omega))
  · left
    have hall : ∀ s ∈ l, s.Ok := fun s hs => by
      obtain ⟨j, hj, rfl⟩ := List.mem_iff_getElem.1 hs
      exact Classical.byContradiction fun hn => ha ⟨j, hj, hn⟩
    refine ⟨Lib.idxBy_miss _ l l.length default fun j hj => ?_, List.filter_eq_self.2 fun s hs => decide_eq_true (hall s hs)⟩
    show bad1 l[j]! = false
    rw [bad_get hj, decide_eq_true (hall _ (List.getElem_mem hj))]; rfl
/-- What DeleteFunc's loop has done with the spans before j. -/
structure DelInv (l L : List Sp) (i j : Nat) : Prop where
  len : L.length = l.length
  lt : i < j
  le : j ≤ l.length
  low : L.take i = okL (l.take j)
  high : ∀ t (h : t < l.length) (h' : t < L.length), j ≤ t → L[t] = l[t]
theorem DelInv.start {l : List Sp} {i : Nat} (h : i < l.length) (he : okL (l.take (i + 1)) = l.take i) : DelInv l l i (i + 1) :=
  ⟨rfl, Nat.lt_succ_self _, h, he.symm, fun _ _ _ _ => rfl⟩
theorem okL_snoc (l : List Sp) {j : Nat} (h : j < l.length) : okL (l.take (j + 1)) = okL (l.take j) ++ if (l[j]).Ok then [l[j]] else [] := by
  unfold okL
  rw [List.take_succ_eq_append_getElem h, List.filter_append]
  by_cases ho : (l[j]).Ok <;> simp [ho]
theorem DelInv.skip {l L : List Sp} {i j : Nat} (h : DelInv l L i j) (hj : j < l.length) (hn : ¬ (l[j]).Ok) : DelInv l L i (j + 1) :=
  ⟨h.len, Nat.lt_succ_of_lt h.lt, hj, by rw [okL_snoc l hj, if_neg hn, List.append_nil]; exact h.low, fun t a b c => h.high t a b (by omega)⟩
theorem DelInv.keep {l L : List Sp} {i j : Nat} (h : DelInv l L i j) (hj : j < l.length) (ho : (l[j]).Ok) : DelInv l (L.set i l[j]) (i + 1) (j + 1) := by
  have h1 := h.len; have h2 := h.lt
  refine ⟨by rw [List.length_set]; exact h1, by omega, hj, ?_, fun t a b c => ?_⟩
  · rw [okL_snoc l hj, if_pos ho, ← h.low, List.take_add_one, List.getElem?_set_self (by omega), List.take_set_of_le (Nat.le_refl i)]
    rfl
  · rw [List.getElem_set_ne (by omega)]
    exact h.high t a _ (by omega)
theorem DelInv.last {l L : List Sp} {i : Nat} (h : DelInv l L i l.length) : L.take i = okL l ∧ (okL l).length = i ∧ i < l.length := by
  have h1 := h.low
  rw [List.take_length] at h1
  refine ⟨h1, ?_, h.lt⟩
  rw [← h1, List.length_take, h.len]
  have := h.lt; omega
theorem zero_cells (a : Value) (m : Nat) : (Builtin.zeroCells #[a, a, a] m).toList = List.replicate (m * 3) a := by
  unfold Builtin.zeroCells
  apply List.ext_getElem
  · simp
  · intro i h1 h2
    simp only [List.size_toArray, List.length_cons, List.length_nil, Array.toList_map, List.getElem_map, List.getElem_replicate]
    have hm : i % 3 = 0 ∨ i % 3 = 1 ∨ i % 3 = 2 := by omega
    simp only [Array.getElem_toList, Array.getElem_range, Nat.zero_add, Nat.reduceAdd]
    rcases hm with hm | hm | hm <;> (rw [hm]; rfl)
/-- The builtin clear on the rest of a row. -/
theorem clear_sps {w : World} {g i n c : Nat} {L : List Sp} {rest : List Value} (h : SpBlk w g L rest) (hn : i + n = L.length) (h0 : 0 < n) :
    ∃ w', (∀ ty, (Builtin.clear_ #[23] ty #[.slice (some ⟨g, i * 3, none⟩) n c]).run Tryz.prog w = .ok (.tuple #[]) w') ∧ SpBlk w' g (L.take i) (List.replicate (n * 3) (.int .i64 0) ++ rest) ∧ Upd (· = g) w w' := by
  have hl := flatS_len L
  have hst := run_storeCells_cells (P := Tryz.prog) g (i * 3) (List.replicate (n * 3) (.int .i64 0)) 0 w (fun j hj => by
      rw [List.length_replicate] at hj
      rw [cell_of_block h, List.getElem?_toArray, List.getElem?_append_left (by omega), List.getElem?_eq_getElem (by omega)]; rfl)
    (fun j _ => h.frozen _) (fun v hv => by rw [List.eq_of_mem_replicate hv]; rfl)
  simp only [Nat.add_zero] at hst
  refine ⟨w.setCells g (i * 3) (List.replicate (n * 3) (.int .i64 0)), fun ty => ?_, ?_, upd_setCells' (S := (· = g)) g (.inl rfl) _ _ _ (Upd.refl _ _)⟩
  · obtain ⟨m, rfl⟩ : ∃ m, n = m + 1 := ⟨n - 1, by omega⟩
    have hzc := zero_cells (.int .i64 0) (m + 1)
    simp [Builtin.clear_, run_underlying Tryz.underlying23, Tryz.zeroValue39, Value.cells, hzc, hst]
  · have := heap_setCells g 39 (0, 0) (List.replicate (n * 3) (.int .i64 0)) (i * 3) w (flatS L ++ rest) h (by simp; omega)
    unfold SpBlk
    rw [this]
    congr 2
    rw [List.length_replicate, List.take_append_of_le_length (by omega)]
    have e1 : (flatS L).take (i * 3) = flatS (L.take i) := by
      have : L = L.take i ++ L.drop i := (List.take_append_drop i L).symm
      have e2 := flatS_append (L.take i) (L.drop i)
      rw [← this] at e2
      rw [e2, List.take_left']
      rw [flatS_len, List.length_take]; omega
    rw [e1, List.drop_append_of_le_length (by omega)]
    have e3 : (flatS L).drop (i * 3 + n * 3) = [] := List.drop_eq_nil_of_le (by omega)
    rw [e3]
    simp
theorem idx_any (g cap : Nat) (l : List Sp) (rest : List Value) (w : World) (h : SpBlk w g l rest) (hl : l.length ≤ 1000000) :
    Calls Tryz.prog 114 #[.slice (some ⟨g, 0, none⟩) l.length cap, .func (.func 91) #[] #[]] w fun e w' => e = .returned (.int .i64 (firstBad l)) ∧ Upd (fun _ => False) w w' := by
  have hcon := AnyQ.slices_IndexFunc Tryz.idxA 3 Tryz.isAgg39 Tryz.sizeOf39 spCells (fun _ => rfl) bad1 91 #[] eg1 g 0 l.length cap l w (pred1 w) (Nat.le_refl _) (by omega) h.lt (fun j hj i v hv => by
    obtain ⟨h0, h1, h2⟩ := h.cell hj
    rw [getElem!_pos l j hj] at hv
    rw [Nat.zero_add]
    have : i < 3 := (List.getElem?_eq_some_iff.1 hv).1
    have : i = 0 ∨ i = 1 ∨ i = 2 := by omega
    rcases this with rfl | rfl | rfl
    · rw [show j * 3 + 0 = j * 3 from rfl, h0]; exact hv
    · rw [h1]; exact hv
    · rw [h2]; exact hv)
  change Calls Tryz.prog 114 _ _ _ at hcon
  exact hcon.mono fun e w' ⟨he, hb⟩ => ⟨he, Upd.of_below hb fun i hi _ => hi⟩
def DelPost (g cap : Nat) (l : List Sp) (rest : List Value) (w : World) (e : Ending) (w' : World) : Prop :=
  e = .returned (.slice (some ⟨g, 0, none⟩) (okL l).length cap) ∧ (∃ rest', rest'.length + (okL l).length * 3 = rest.length + l.length * 3 ∧ SpBlk w' g (okL l) rest') ∧ Upd (· = g) w w'
set_option maxRecDepth 100000 in
set_option maxHeartbeats 4000000 in
theorem del_any (g cap : Nat) (l : List Sp) (rest : List Value) (w : World) (h : SpBlk w g l rest) (hl : l.length ≤ 1000000) (hc : l.length ≤ cap) (hm : cap ≤ 9223372036854775807) :
    Calls Tryz.prog 89 #[.slice (some ⟨g, 0, none⟩) l.length cap, .func (.func 91) #[] #[]] w (DelPost g cap l rest w) := by
  have HB := hid h
  have hgl := h.lt
  have eg := eg1
  rcases first_cases l with ⟨e1, e2⟩ | ⟨i0, hi0, e1, hno, e2⟩
  · have E2 := hid e2; have E1 := hid e1
    clear h e1 e2
    go_enter Tryz.func89, Tryz.ntmps89
    go_wp2_with (go_at_call 114; refine (idx_any g cap l rest _ HB.out hl).mono ?_; rw [E1.out]; rintro e w1 ⟨rfl, u⟩; have U := hid u; clear u)
    go_ret
    unfold DelPost
    rw [E2.out]
    exact ⟨rfl, ⟨rest, rfl, HB.out.upd U.out id⟩, U.out.mono fun _ h => h.elim⟩
  have HI := hid (DelInv.start hi0 e2); have E1 := hid e1
  have hne1 : ((i0 : Int) == -1) = false := beq_eq_false_iff_ne.2 (by omega)
  have hi0b : (i0 : Int) < 1000000 := by omega
  clear h e1 e2 hno hi0
  go_enter Tryz.func89, Tryz.ntmps89
  go_wp2_with (go_at_call 114; refine (idx_any g cap l rest _ HB.out hl).mono ?_; rw [E1.out]; rintro e w1 ⟨rfl, u⟩; have U := hid u; clear u)
  go_loopg [5, 6, 7] l.length (fun gg s5 s6 _ wr => ∃ (i j : Nat) (L : List Sp), l.length - j ≤ gg ∧ s5 = .int .i64 i ∧ s6 = .int .i64 j ∧ DelInv l L i j ∧ SpBlk wr g L rest ∧ Upd (· = g) w wr)
  case atStart => exact ⟨i0, i0 + 1, l, Nat.sub_le _ _, rfl, by go_num, HI.out, HB.out.upd U.out id, U.out.mono fun _ h => h.elim⟩
  case round =>
    obtain ⟨i, j, L, hg, rfl, rfl, hI, hb, u⟩ := hrel
    have II := hid hI; have BB := hid hb; have UU := hid u; have HG := hid hg
    have hij := hI.lt; have hjl := hI.le; have hLl := hI.len
    have hbr := hb.lt
    by_cases hlt : j < l.length
    · have hlti : (j : Int) < l.length := by omega
      have hilt : (i : Int) < l.length := by omega
      have hjb : (j : Int) + 1 ≤ 1000000 := by omega
      obtain ⟨m0, m1, m2⟩ := hb.cell (i := j) (by omega)
      rw [hI.high j hlt (by omega) (Nat.le_refl _)] at m0 m1 m2
      obtain ⟨y, hy⟩ : ∃ y, l[j] = y := ⟨_, rfl⟩
      rw [hy] at m0 m1 m2
      have HY := hid hy
      clear hy hI hb u hg
      by_cases ho : y.Ok
      · have HO := hid ho
        have hv : ∀ w, Calls Tryz.prog 91 #[.agg #[.int .i64 y.mark, .int .i64 y.fr, .int .i64 y.to]] w fun e w' => e = .returned (.bool false) ∧ Upd (fun _ => False) w w' := fun w => (norm1_any y w).mono fun e w' h => ⟨by rw [h.1, decide_eq_true ho]; rfl, h.2⟩
        have HV := hid hv
        clear hv ho
        go_wp2_with (go_at_fn 91; refine (HV.out _).mono ?_; rintro e w2 ⟨rfl, u2⟩
                     have hbox := (u2.block _ (by simp) id).trans heap_alloc_new
                     have hb2 := (BB.out.upd ((Upd.refl (fun _ => False) _).alloc _) id).upd u2 id
                     have U2 := hid (((Upd.refl (fun _ => False) wr).alloc _).trans u2)
                     have c0 := cell_of_block (o := 0) hbox; have c1 := cell_of_block (o := 1) hbox; have c2 := cell_of_block (o := 2) hbox
                     obtain ⟨q0, q1, q2⟩ := hb2.cell (i := i) (by omega)
                     have f0 := hb2.frozen (i * 3); have f1 := hb2.frozen (i * 3 + 1); have f2 := hb2.frozen (i * 3 + 2)
                     have hsz2 := U2.out.size
                     have B2 := hid hb2
                     clear u2 hbox hb2)
        go_roundg (l.length - (j + 1))
        case measure => have := HG.out; omega
        case rel => exact ⟨i + 1, j + 1, L.set i y, Nat.le_refl _, by go_num, by go_num, by rw [← HY.out]; exact II.out.keep hlt (by rw [HY.out]; exact HO.out), B2.out.set (by omega) y, ((UU.out.trans (U2.out.mono fun _ h => h.elim)).at_ _ _).at_ _ _ |>.at_ _ _⟩
      · have HO := hid ho
        have hv : ∀ w, Calls Tryz.prog 91 #[.agg #[.int .i64 y.mark, .int .i64 y.fr, .int .i64 y.to]] w fun e w' => e = .returned (.bool true) ∧ Upd (fun _ => False) w w' := fun w => (norm1_any y w).mono fun e w' h => ⟨by rw [h.1, decide_eq_false ho]; rfl, h.2⟩
        have HV := hid hv
        clear hv ho
        go_wp2_with (go_at_fn 91; refine (HV.out _).mono ?_; rintro e w2 ⟨rfl, u2⟩
                     have U2 := hid (((Upd.refl (fun _ => False) wr).alloc _).trans u2)
                     clear u2)
        go_roundg (l.length - (j + 1))
        case measure => have := HG.out; omega
        case rel => exact ⟨i, j + 1, L, Nat.le_refl _, rfl, by go_num, II.out.skip hlt (by rw [HY.out]; exact HO.out), BB.out.upd U2.out id, UU.out.trans (U2.out.mono fun _ h => h.elim)⟩
    · obtain rfl : j = l.length := by omega
      obtain ⟨la1, la2, la3⟩ := hI.last
      obtain ⟨wc, hcl, hbc, uc⟩ := clear_sps (i := i) (c := cap - i) (n := l.length - i) hb (by omega) (by omega)
      have LA1 := hid la1; have LA2 := hid la2; have BC := hid hbc; have UC := hid (u.trans uc)
      have hilt : (i : Int) ≤ l.length := by omega
      have hcap : ¬ cap = i := by omega
      have hcapi : (l.length : Int) ≤ cap := by omega
      have gs : IntKind.i64.wrap ((l.length : Int) - i) = ((l.length - i : Nat) : Int) := by rw [IntWalk.i64_in _ (by omega)]; omega
      clear hI hb u hg la1 la2 uc hbc
      go_wp2_with fail
      go_ret
      unfold DelPost
      refine ⟨by rw [LA2.out]; rfl, ⟨_, ?_, by rw [← LA1.out]; exact BC.out⟩, UC.out⟩
      rw [LA2.out, List.length_append, List.length_replicate]; omega
end Go.Proofs.YtdcahnkcnbhknaaGreatDoor
namespace Go.Proofs.YtdcahnkcnbhknaaGreatDoor
open Go.RowKit Go.Deep

set_option maxRecDepth 100000 in
set_option maxHeartbeats 2000000 in
theorem clone_any (A : Nat → Prop) (a : Option Addr) (c : Nat) (l : List Sp) (w : World) (hl : kSps.rep A w [.slice a l.length c] l) (hlen : l.length ≤ 1000000) :
    Calls Tryz.prog 90 #[.slice a l.length c] w (SpsPost l w) := by
  have q22 : ∀ (w : World) (a : Option Addr) (n c n' c' : Nat), (binOp .eql 23 (.slice a n c) (.slice none n' c')).run Tryz.prog w = .ok (.bool a.isNone) w := fun w a n c n' c' => Lib.run_eql_slice_nil w _ _ a n c n' c' Tryz.underlying23
  cases a with
  | none =>
    have h0 : l = [] := by
      rcases Nat.eq_zero_or_pos l.length with h | h
      · exact List.length_eq_zero_iff.1 h
      · obtain ⟨_, _, e, _⟩ := slice_at hl h; cases e
    have H0 := hid h0
    clear hl
    go_enter Tryz.func90, Tryz.ntmps90
    go_wp2_with fail
    go_ret
    rw [H0.out]
    exact ⟨_, rfl, World.ownsRow_nil _ _ _ _, Upd.refl _ _⟩
  | some ad =>
    have hne := sps_cells hl
    have u0 : Upd (fun _ => False) w (w.alloc (.cells #[] 39 (0, 0))) := (Upd.refl _ _).alloc _
    obtain ⟨v', w1, hr, ho, hgr, _⟩ := append_own2 elemSp (World.ownsRow_made w #[] 0 (Nat.le_refl _) (Nat.zero_le _) (by simp)) ad l.length c (flatS l) (by rw [flatS_len]) (fun j u hj => Lib.cell?_alloc_some _ (hne j u hj)) (flatS_one l) (by unfold maxLen; omega) (by omega) (by simp) 23
    have HO := hid ho; have HU := hid (u0.grown hgr fun k hk => .inr (by cases hk; exact Nat.le_refl _))
    clear hne hl ho hgr u0
    go_enter Tryz.func90, Tryz.ntmps90
    go_wp2_with (at_builtin; refine wpList_append_run rfl _ _ _ _ rfl rfl rfl hr ?_)
    go_ret
    exact ⟨v', rfl, by have := HO.out; simpa using this, HU.out⟩
theorem idx_none (a : Option Addr) (c : Nat) (fv : Value) (w : World) : Calls Tryz.prog 114 #[.slice a 0 c, fv] w fun e w' => e = .returned (.int .i64 (-1)) ∧ w = w' := by
  go_enter Tryz.func114, Tryz.ntmps114
  go_wp2_with fail
  go_loopg [8] 0 (fun _ s8 wr => s8 = .int .i64 0 ∧ w = wr)
  case atStart => exact ⟨rfl, rfl⟩
  case round =>
    obtain ⟨rfl, rfl⟩ := hrel
    go_wp2_with fail
    go_ret
    exact ⟨rfl, rfl⟩
theorem del_none (a : Option Addr) (c : Nat) (fv : Value) (w : World) : Calls Tryz.prog 89 #[.slice a 0 c, fv] w fun e w' => e = .returned (.slice a 0 c) ∧ w = w' := by
  go_enter Tryz.func89, Tryz.ntmps89
  go_wp2_with (go_at_call 114; refine (idx_none _ _ _ _).mono ?_; rintro e w1 ⟨rfl, rfl⟩)
  go_ret
  exact ⟨rfl, rfl⟩
end Go.Proofs.YtdcahnkcnbhknaaGreatDoor
