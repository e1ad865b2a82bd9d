/- Rows of pairs of numbers (turned from Fork/XFkC.lean.tpl). -/
import Derived.Test.YtjkmalddfoemhaaGreatDoorJ14
import Derived.Test.YtjkmalddfoemhaaGreatDoorJ11
import Derived.Test.YtjkmalddfoemhaaGreatDoorJ10
import Derived.Test.YtjkmalddfoemhaaGreatDoorJ13
import Derived.Test.YtjkmalddfoemhaaGreatDoorJ20
import Derived.Test.YtjkmalddfoemhaaGreatDoorJ6
import Derived.Test.YtjkmalddfoemhaaGreatDoorJ7
namespace Go.Proofs.YtjkmalddfoemhaaGreatDoor
open Go.RowKit Go.Deep
def prCells (p : Int × Int) : List Value := [.int .i64 p.1, .int .i64 p.2]
def prFlat (l : List (Int × Int)) : List Value := (l.map prCells).flatten
theorem prFlat_snoc (l : List (Int × Int)) (p : Int × Int) : prFlat (l ++ [p]) = prFlat l ++ prCells p := by unfold prFlat; simp
theorem prFlat_get (l : List (Int × Int)) (i : Nat) (h : i < l.length) (j : Nat) (hj : j < 2) : (prFlat l)[i * 2 + j]? = (prCells l[i])[j]? := flat_get (f := prCells) (n := 2) (fun _ => rfl) l i h j hj
def PrsAt (w : World) (B : Nat) (v : Value) (l : List (Int × Int)) : Prop := w.ownsRow B 38 2 v l.length (prFlat l)
theorem PrsAt.get {w : World} {B : Nat} {v : Value} {l : List (Int × Int)} (h : PrsAt w B v l) (hp : 0 < l.length) : ∃ g cap, v = .slice (some ⟨g, 0, none⟩) l.length cap ∧ l.length ≤ cap ∧ cap ≤ maxLen ∧ B ≤ g ∧ g < w.heap.size ∧
    ∀ i (hi : i < l.length), w.cell? ⟨g, i * 2, none⟩ = some (.int .i64 l[i].1) ∧ w.cell? ⟨g, i * 2 + 1, none⟩ = some (.int .i64 l[i].2) := by
  obtain ⟨h1, ⟨h2, h3⟩ | ⟨g, cap, cur, hv, hb, hg, hn, hc, hs, ht⟩⟩ := h
  · omega
  · refine ⟨g, cap, hv, hn, hc, hb, heap_lt hg, fun i hi => ?_⟩
    have key : ∀ j, j < 2 → w.cell? ⟨g, i * 2 + j, none⟩ = (prCells l[i])[j]? := fun j hj => by
      rw [cell_of_block hg, ← prFlat_get l i hi j hj, ← ht, List.getElem?_take, if_pos, Array.getElem?_toList]
      calc i * 2 + j < i * 2 + 2 := by omega
        _ = (i + 1) * 2 := by omega
        _ ≤ l.length * 2 := Nat.mul_le_mul_right _ hi
    exact ⟨key 0 (by decide), key 1 (by decide)⟩
theorem elemPr : ElemTy Tryz.prog 33 38 2 16 := ElemTy.mk' (z := .agg #[.int .i64 0, .int .i64 0]) Tryz.underlying33 (by kernel_rfl) (by rfl) (by decide)
def PrsPost (l : List (Int × Int)) (w : World) (e : Ending) (w' : World) : Prop := ∃ v, e = .returned v ∧ PrsAt w' w.heap.size v l ∧ Upd (fun _ => False) w w'
theorem prs_lt {w : World} {B : Nat} {v : Value} {l : List (Int × Int)} (h : PrsAt w B v l) : ∀ g, v.ownBlock = some g → B ≤ g ∧ g < w.heap.size := by
  intro g hg
  rcases ownsRow_fits h with ⟨rfl, _⟩ | ⟨g', cap, rfl, h1, h2, _⟩
  · cases hg
  · cases hg; exact ⟨h1, h2⟩
theorem prs_slice {w : World} {B : Nat} {v : Value} {l : List (Int × Int)} (h : PrsAt w B v l) : ∃ a c, v = .slice a l.length c ∧ l.length ≤ c ∧ c ≤ maxLen := own_slice h

theorem Upd.shut {S : Nat → Prop} {a b : World} (u : Upd S a b) (h : ∀ i, i < a.heap.size → ¬ S i) : Upd (fun _ => False) a b := ⟨u.os, u.tape, u.output, u.size, fun i hi _ => u.block i hi (h i hi)⟩
theorem own_frozen {w : World} {B g n cap s : Nat} {e : TypeId} {xs : List Value} (h : w.ownsRow B e s (.slice (some ⟨g, 0, none⟩) n cap) n xs) : ∀ o, w.frozen? ⟨g, o, none⟩ = false := by
  obtain ⟨h1, ⟨h2, _⟩ | ⟨g', cap', cur, hv, hb, hg, hn, hc, hs, ht⟩⟩ := h
  · cases h2
  · cases hv
    exact fun _ => frozen_of_block hg
theorem row_set {w : World} {B g n cap s : Nat} {e : TypeId} {xs : List Value} (h : w.ownsRow B e s (.slice (some ⟨g, 0, none⟩) n cap) n xs) (k : Nat) (x : Value) :
    (w.setCell ⟨g, k, none⟩ x).ownsRow B e s (.slice (some ⟨g, 0, none⟩) n cap) n (xs.set k x) ∧ Upd (· = g) w (w.setCell ⟨g, k, none⟩ x) := by
  obtain ⟨h1, ⟨h2, _⟩ | ⟨g', cap', cur, hv, hb, hg, hn, hc, hs, ht⟩⟩ := h
  · cases h2
  · cases hv
    refine ⟨⟨by rw [List.length_set]; exact h1, .inr ⟨g, cap, cur.setIfInBounds k x, rfl, hb, heap_setCell_same (p := ⟨g, k, none⟩) rfl hg, hn, hc, by simpa using hs, ?_⟩⟩, (Upd.refl _ _).setCell _ _ (.inl rfl)⟩
    rw [Array.toList_setIfInBounds, List.take_set, ht]
theorem prFlat_len (l : List (Int × Int)) : (prFlat l).length = l.length * 2 := by
  induction l with
  | nil => rfl
  | cons p l ih =>
    have e : prFlat (p :: l) = prCells p ++ prFlat l := rfl
    rw [e, List.length_append, ih, List.length_cons]
    show 2 + l.length * 2 = _
    omega
/-- The end of the last range is moved by one. -/
theorem prs_bump {w : World} {B g cap k : Nat} {l : List (Int × Int)} {a b : Int} (h : PrsAt w B (.slice (some ⟨g, 0, none⟩) l.length cap) l) (hk : l.length = k + 1) (hl : l[k]? = some (a, b)) (c : Int) :
    PrsAt (w.setCell ⟨g, k * 2 + 1, none⟩ (.int .i64 c)) B (.slice (some ⟨g, 0, none⟩) l.length cap) (l.take k ++ [(a, c)]) ∧ Upd (· = g) w (w.setCell ⟨g, k * 2 + 1, none⟩ (.int .i64 c)) := by
  obtain ⟨h1, h2⟩ := row_set h (k * 2 + 1) (.int .i64 c)
  refine ⟨?_, h2⟩
  have hk' : k < l.length := by omega
  have e : l = l.take k ++ [(a, b)] := by
    rw [List.getElem?_eq_getElem hk'] at hl
    injection hl with hl
    rw [← hl, ← List.take_succ_eq_append_getElem hk', List.take_of_length_le (by omega)]
  have e2 : (prFlat l).set (k * 2 + 1) (.int .i64 c) = prFlat (l.take k ++ [(a, c)]) := by
    have e3 : prFlat l = prFlat (l.take k) ++ [.int .i64 a, .int .i64 b] := by
      have := prFlat_snoc (l.take k) (a, b)
      rw [← e] at this
      exact this
    have hlen : (prFlat (l.take k)).length = k * 2 := by rw [prFlat_len, List.length_take]; omega
    rw [e3, prFlat_snoc, List.set_append_right _ _ (by rw [hlen]; omega), hlen, Nat.add_sub_cancel_left]
    rfl
  unfold PrsAt
  have hlen : (l.take k ++ [(a, c)]).length = l.length := by rw [List.length_append, List.length_take, List.length_singleton]; omega
  rw [hlen, ← e2]
  exact h1
end Go.Proofs.YtjkmalddfoemhaaGreatDoor
namespace Go.Proofs.YtjkmalddfoemhaaGreatDoor
open Go.RowKit Go.Deep

set_option maxRecDepth 100000 in
set_option maxHeartbeats 4000000 in
theorem ranges_any (A : Nat → Prop) (v : Value) (l : List Int) (w : World) (h : kInts.rep A w [v] l) (hA : ∀ g, A g → g < w.heap.size) (hl : l.length ≤ 1000) (hb : ∀ x ∈ l, 0 ≤ x ∧ x ≤ 1000000) : Calls Tryz.prog 98 #[v] w (PrsPost (rangesF l) w) := by
  obtain ⟨a, cap, rfl, p1, p2, p3⟩ := slice_open h
  have p2 : cap ≤ 9223372036854775807 := p2
  have HB := hid hb
  have CELL := hid (fun (y : World) (u : Upd (fun j => w.heap.size ≤ j) w y) (hp : 0 < l.length) => (show ∃ g o, a = some ⟨g, o, none⟩ ∧ ∀ k (hk : k < l.length), y.cell? ⟨g, o + k, none⟩ = some (.int .i64 l[k]) from by
    obtain ⟨g, o, e, hg, hel⟩ := p3 hp
    exact ⟨g, o, e, fun k hk => cell_kept (int_cells hel hk) (u.block g (hA g hg) (by have := hA g hg; omega))⟩))
  clear h p3 hA hb
  go_enter Tryz.func98, Tryz.ntmps98
  go_wp2_with fail
  go_loopg [3, 9] l.length (fun gg s3 s9 wr => ∃ k : Nat, k ≤ l.length ∧ gg = l.length - k ∧ s9 = .int .i64 k ∧ PrsAt wr w.heap.size s3 (rangesTo l k) ∧ Upd (fun j => w.heap.size ≤ j) w wr)
  case atStart => exact ⟨0, Nat.zero_le _, rfl, rfl, World.ownsRow_nil _ _ _ _, Upd.refl _ _⟩
  case round =>
    obtain ⟨k, hk, hg, rfl, ho, hu⟩ := hrel
    have HG := hid hg; have OW := hid ho; have UP := hid hu
    have UF := hid (hu.shut fun i hi q => by omega)
    clear hg ho hu
    by_cases hlt : k < l.length
    case neg =>
      have hlti : ¬ (k : Int) < l.length := by omega
      have KE := hid (rangesTo_all (l := l) (k := k) (by omega))
      go_wp2_with fail
      go_ret
      exact ⟨_, rfl, by rw [← KE.out]; exact OW.out, UF.out⟩
    have hlti : (k : Int) < l.length := by omega
    have hk1 : (k : Int) + 1 ≤ 1000 := by omega
    obtain ⟨g, o, rfl, hcell⟩ := CELL.out _ UP.out (by omega)
    have m0 := hcell k hlt
    obtain ⟨x, hx⟩ : ∃ x, l[k] = x := ⟨_, rfl⟩
    have XB := HB.out x (hx ▸ List.getElem_mem hlt)
    have x1 : x + 1 ≤ 9223372036854775807 := by omega
    have x0 : -9223372036854775808 ≤ x + 1 := by omega
    have STEP := hid (show rangesTo l (k + 1) = rangesStep (rangesTo l k) x by rw [rangesTo_succ hlt, hx])
    have RL := hid (rangesTo_len l k)
    rw [hx] at m0
    obtain ⟨out, hout⟩ : ∃ out, rangesTo l k = out := ⟨_, rfl⟩
    rw [hout] at STEP RL OW
    have o9 := OW.out
    obtain ⟨asl, cs, rfl, hs1, hs2⟩ := prs_slice o9
    have hs2 : cs ≤ 9223372036854775807 := hs2
    clear hcell hx hout
    cases hn : out.length with
    | zero =>
      have hnil : out = [] := List.length_eq_zero_iff.1 hn
      have SN := hid (step_nil (n := x) hnil)
      subst hnil
      obtain ⟨v', w4, r4, o4, u4, n4⟩ := append_one elemPr o9 #[.int .i64 x, .int .i64 (x + 1)] rfl (by simp [Value.oneCell']) (by unfold maxLen; decide) (by decide) UP.out.size 33 (0, 0)
      have O4 := hid o4; have R4 := hid r4
      have U4 := hid (show Upd (fun j => w.heap.size ≤ j) wr w4 from u4.mono fun j hj => (prs_lt OW.out j hj).1)
      clear o9 o4 u4 n4 r4
      go_wp2_with (at_builtin; refine wpList_append_run rfl _ _ _ _ rfl rfl rfl R4.out ?_)
      go_roundg (l.length - (k + 1))
      case measure => have := HG.out; omega
      case rel =>
        refine ⟨k + 1, by omega, rfl, by go_num, ?_, UP.out.trans U4.out⟩
        rw [STEP.out, SN.out]
        exact O4.out
    | succ n =>
      have hn' : n < out.length := by omega
      obtain ⟨p, hp⟩ : ∃ p, out[n] = p := ⟨_, rfl⟩
      have hpq : out[n]? = some p := by rw [List.getElem?_eq_getElem hn', hp]
      obtain ⟨gs, cap2, e, _, _, hgb, hgl, hcells⟩ := PrsAt.get o9 (by omega)
      have e : asl = some ⟨gs, 0, none⟩ := by injection e
      subst e
      obtain ⟨c1, c2⟩ := hcells n hn'
      rw [hp] at c1 c2
      have mf : ∀ o, wr.frozen? ⟨gs, o, none⟩ = false := own_frozen o9
      obtain ⟨pa, pb⟩ := p
      dsimp only at c1 c2
      have SL := step_last (n := x) hn hpq
      have BUMP := hid (fun c => prs_bump o9 hn hpq c)
      have GSB := hid hgb
      have e1 : ((n + 1 : Nat) : Int) - 1 = n := by omega
      have e2 : (0 : Int) ≤ n := by omega
      have hni : (n : Int) < ((n + 1 : Nat) : Int) := by omega
      have hn9 : (n : Int) ≤ 1000 := by have := RL.out; omega
      have hn1 : ((n + 1 : Nat) : Int) ≤ cs := by omega
      have HN := hid hn
      clear hp hpq hcells e hn'
      by_cases hx : pb = x
      case pos =>
        subst hx
        have t1 : (pb == pb) = true := beq_self_eq_true pb
        have SN := hid (show rangesStep out pb = out.take n ++ [(pa, pb + 1)] by rw [SL]; exact if_pos rfl)
        clear SL o9
        try rw [hn]
        go_wp2_with fail
        go_region
        all_goals
          go_wp2_with fail
          go_roundg (l.length - (k + 1))
          case measure => have := HG.out; omega
          case rel =>
            obtain ⟨b1, b2⟩ := BUMP.out (pb + 1)
            refine ⟨k + 1, by omega, rfl, by go_num, ?_, ?_⟩
            · rw [STEP.out, SN.out, ← HN.out]
              exact b1.drew
            · exact UP.out.trans ((b2.mono fun j hj => by rw [hj]; exact GSB.out).drew)
      have t1 : (pb == x) = false := beq_eq_false_iff_ne.2 hx
      have SN := hid (show rangesStep out x = out ++ [(x, x + 1)] by rw [SL]; exact if_neg hx)
      obtain ⟨v', w4, r4, o4, u4, n4⟩ := append_one elemPr o9 #[.int .i64 x, .int .i64 (x + 1)] rfl (by simp [Value.oneCell']) (by have := RL.out; unfold maxLen; omega) (by have := RL.out; omega) UP.out.size 33 (0, 0)
      have O4 := hid o4; have R4 := hid r4
      have U4 := hid (show Upd (fun j => w.heap.size ≤ j) wr w4 from u4.mono fun j hj => (prs_lt OW.out j hj).1)
      clear o9 o4 u4 n4 r4 SL hx
      replace R4 := hid (by have q := R4.out; rw [hn] at q; exact q)
      try rw [hn]
      go_wp2_with (at_builtin; refine wpList_append_run rfl _ _ _ _ rfl rfl rfl R4.out ?_)
      go_roundg (l.length - (k + 1))
      case measure => have := HG.out; omega
      case rel =>
        refine ⟨k + 1, by omega, rfl, by go_num, ?_, UP.out.trans U4.out⟩
        rw [STEP.out, SN.out]
        unfold PrsAt
        rw [prFlat_snoc, List.length_append]
        exact O4.out
theorem inR_cons (p : Int × Int) (l : List (Int × Int)) (n : Int) : InR (p :: l) n ↔ (p.1 ≤ n ∧ n < p.2) ∨ InR l n := by
  have := inR_append [p] l n
  rw [inR_one] at this
  exact this
set_option maxRecDepth 100000 in
set_option maxHeartbeats 4000000 in
theorem in_any (B : Nat) (v : Value) (l : List (Int × Int)) (n : Int) (w : World) (h : PrsAt w B v l) (hl : l.length ≤ 1000000000) : Calls Tryz.prog 105 #[v, .int .i64 n] w fun e w' => e = .returned (.bool (decide (InR l n))) ∧ Upd (fun _ => False) w w' := by
  obtain ⟨a, cap, rfl, hs1, hs2⟩ := prs_slice h
  have hs2 : cap ≤ 9223372036854775807 := hs2
  have CELL := hid (fun (y : World) (u : Upd (fun _ => False) w y) (hp : 0 < l.length) => (show ∃ g, a = some ⟨g, 0, none⟩ ∧ ∀ k (hk : k < l.length), y.cell? ⟨g, k * 2, none⟩ = some (.int .i64 l[k].1) ∧ y.cell? ⟨g, k * 2 + 1, none⟩ = some (.int .i64 l[k].2) from by
    obtain ⟨g, c2, e, _, _, _, hgl, hc⟩ := PrsAt.get h hp
    injection e with e1 _ _
    exact ⟨g, e1, fun k hk => ⟨cell_kept (hc k hk).1 (u.block g hgl id), cell_kept (hc k hk).2 (u.block g hgl id)⟩⟩))
  have HL := hid hl
  clear h hl
  go_enter Tryz.func105, Tryz.ntmps105
  go_wp2_with fail
  go_loopg [6, 9] l.length (fun gg _ s9 wr => ∃ k : Nat, k ≤ l.length ∧ gg = l.length - k ∧ s9 = .int .i64 k ∧ (InR l n ↔ InR (l.drop k) n) ∧ Upd (fun _ => False) w wr)
  case atStart => exact ⟨0, Nat.zero_le _, rfl, rfl, by rw [List.drop_zero], Upd.refl _ _⟩
  case round =>
    obtain ⟨k, hk, hg, rfl, hi, u⟩ := hrel
    have HG := hid hg; have HI := hid hi; have UR := hid u
    clear hg hi u
    by_cases hlt : k < l.length
    case neg =>
      have hlti : ¬ (k : Int) < l.length := by omega
      have NO := hid (show ¬ InR l n from fun q => by
        have q := HI.out.1 q
        rw [List.drop_of_length_le (by omega)] at q
        obtain ⟨p, hp, _⟩ := q
        cases hp)
      go_wp2_with fail
      go_ret
      exact ⟨by rw [decide_eq_false NO.out] <;> rfl, UR.out⟩
    have hlti : (k : Int) < l.length := by omega
    have hk1 : (k : Int) + 1 ≤ 9223372036854775807 := by have := HL.out; omega
    obtain ⟨g, rfl, hc⟩ := CELL.out _ UR.out (by omega)
    obtain ⟨c0, c1⟩ := hc k hlt
    have DR := hid (show InR l n ↔ (l[k].1 ≤ n ∧ n < l[k].2) ∨ InR (l.drop (k + 1)) n by rw [HI.out, List.drop_eq_getElem_cons hlt, inR_cons])
    obtain ⟨p, hp⟩ : ∃ p, l[k] = p := ⟨_, rfl⟩
    rw [hp] at c0 c1 DR
    obtain ⟨x1, x2⟩ := p
    obtain ⟨y2, hy2⟩ : ∃ y2, y2 = wr.alloc (.cells #[.int .i64 x1, .int .i64 x2] 38 (0, 0)) := ⟨_, rfl⟩
    have uy : Upd (fun _ => False) wr y2 := by rw [hy2]; exact (Upd.refl _ _).alloc _
    have YB := hid (show y2.heap[wr.heap.size]? = some (.cells #[.int .i64 x1, .int .i64 x2] 38 (0, 0)) by rw [hy2]; exact heap_alloc_new)
    have HY2 := hid hy2
    have UY := hid (UR.out.trans uy)
    have m1 : y2.cell? ⟨wr.heap.size, 0, none⟩ = some (.int .i64 x1) := by rw [cell_of_block YB.out]; rfl
    have m2 : y2.cell? ⟨wr.heap.size, 1, none⟩ = some (.int .i64 x2) := by rw [cell_of_block YB.out]; rfl
    clear hc hp hy2 uy
    go_upto_region 4 with (fail)
    try rw [← HY2.out]
    by_cases t1 : x1 ≤ n
    case neg =>
      have d1 : decide (x1 ≤ n) = false := decide_eq_false t1
      have ST := hid (show InR l n ↔ InR (l.drop (k + 1)) n from ⟨fun q => (DR.out.1 q).elim (fun z => absurd z.1 t1) id, fun q => DR.out.2 (.inr q)⟩)
      go_wp2_with fail
      go_roundg (l.length - (k + 1))
      case measure => have := HG.out; omega
      case rel => exact ⟨k + 1, by omega, rfl, by go_num, ST.out, UY.out⟩
    have d1 : decide (x1 ≤ n) = true := decide_eq_true t1
    by_cases t2 : n < x2
    case neg =>
      have d2 : decide (n < x2) = false := decide_eq_false t2
      have ST := hid (show InR l n ↔ InR (l.drop (k + 1)) n from ⟨fun q => (DR.out.1 q).elim (fun z => absurd z.2 t2) id, fun q => DR.out.2 (.inr q)⟩)
      go_wp2_with fail
      go_roundg (l.length - (k + 1))
      case measure => have := HG.out; omega
      case rel => exact ⟨k + 1, by omega, rfl, by go_num, ST.out, UY.out⟩
    have d2 : decide (n < x2) = true := decide_eq_true t2
    have YES := hid (DR.out.2 (.inl ⟨t1, t2⟩))
    go_wp2_with fail
    go_ret
    exact ⟨by rw [decide_eq_true YES.out] <;> rfl, UY.out⟩
end Go.Proofs.YtjkmalddfoemhaaGreatDoor
namespace Go.Proofs.YtjkmalddfoemhaaGreatDoor
open Go.RowKit Go.Deep

theorem cells_p {w : World} {p : Nat} {a b : Value} {t : TypeId} (h : w.heap[p]? = some (.cells #[a, b] t (0, 0))) : w.cell? ⟨p, 0, none⟩ = some a ∧ w.cell? ⟨p, 1, none⟩ = some b := by
  refine ⟨?_, ?_⟩ <;> (rw [cell_of_block h]; rfl)
theorem rgsTo_len {l : List (Int × Int)} (hl : l.length ≤ 1000) (hb : ∀ p ∈ l, I64 p.1 ∧ I64 p.2) : ∀ k, k ≤ l.length → (rgsTo l k).length ≤ 21 + 42 * k
  | 0, _ => by rw [rgsTo_zero]; have := numE_len (n := (l.length : Int)) (by unfold I64; omega); omega
  | k + 1, hk => by
    rw [rgsTo_succ (by omega), List.length_append, rgE, List.length_append]
    have h1 := rgsTo_len hl hb k (by omega)
    obtain ⟨i1, i2⟩ := hb _ (List.getElem_mem (show k < l.length by omega))
    have h2 := numE_len i1
    have h3 := numE_len i2
    omega
set_option maxRecDepth 100000 in
set_option maxHeartbeats 8000000 in
theorem rgtext_any (B : Nat) (v : Value) (l : List (Int × Int)) (w : World) (E : Env w) (h : PrsAt w B v l) (hl : l.length ≤ 1000) (hb : ∀ p ∈ l, I64 p.1 ∧ I64 p.2) :
    Calls Tryz.prog 97 #[v] w fun e w' => e = .returned (.string ⟨(rgsE l).toArray⟩) ∧ Upd (fun _ => False) w w' := by
  have HE := hid E; have HB := hid hb; have HLN := hid (rgsTo_len hl hb); have HL := hid hl
  have hin : I64 (l.length : Int) := by unfold I64; omega
  have HI := hid hin
  obtain ⟨a, cap, rfl, hs1, hs2⟩ := prs_slice h
  have hs2 : cap ≤ 9223372036854775807 := hs2
  have CELL := hid (fun (y : World) (u : Upd (fun _ => False) w y) (hp : 0 < l.length) => (show ∃ g, a = some ⟨g, 0, none⟩ ∧ ∀ k (hk : k < l.length), y.cell? ⟨g, k * 2, none⟩ = some (.int .i64 l[k].1) ∧ y.cell? ⟨g, k * 2 + 1, none⟩ = some (.int .i64 l[k].2) from by
    obtain ⟨g, c2, e, _, _, _, hgl, hc⟩ := PrsAt.get h hp
    injection e with e1 _ _
    exact ⟨g, e1, fun k hk => ⟨cell_kept (hc k hk).1 (u.block g hgl id), cell_kept (hc k hk).2 (u.block g hgl id)⟩⟩))
  have B0 := hid (Lib.fresh_isBuilder 204 5 w)
  have bl0 : Below w.heap.size w (w.alloc (.cells #[.pointer none, .slice none 0 0] 204)) := (Below.refl _ _).alloc (Nat.le_refl _) _
  have BL0 := hid bl0
  have HE0 := hid (E.keep0 (upd_of_below bl0))
  obtain ⟨SB, hSB⟩ : ∃ x, w.heap.size = x := ⟨_, rfl⟩
  have SBL : Hid (w.heap.size ≤ SB) := hid (Nat.le_of_eq hSB)
  clear h hl hb E bl0 hin
  go_enter Tryz.func97, Tryz.ntmps97
  go_wp2_with fail
  refine (numE_any (l.length : Int) HI.out _ HE0.out).mono ?_
  rintro e w1 ⟨rfl, u⟩
  have bl1 : Below w.heap.size w w1 := BL0.out.trans (u.below (by simp) fun _ h => h.elim)
  have hb1 : Lib.IsBuilder 204 5 w.heap.size w.heap.size (Lib.byteCells []) w1 := builder_keep B0.out u
  rw [hSB] at hb1 bl1
  have B1 := hid hb1; have BL1 := hid bl1; have HZ := hid (show SB ≤ w1.heap.size from Nat.le_trans (Nat.le_of_eq hSB.symm) bl1.size); have HSB := hid hSB
  try rw [hSB]
  clear u bl1 hb1 B0 BL0 HE0 hSB
  have n0 : (([] : List UInt8).length + (numE (l.length : Int)).length) ≤ 100000000 := by have := numE_len HI.out; rw [List.length_nil]; omega
  go_wp2_with fail
  refine (writeString_any SB SB [] (numE (l.length : Int)) _ B1.out n0 HZ.out).mono ?_
  rintro e w2 ⟨rfl, hb, bl⟩
  rw [List.nil_append, ← rgsTo_zero l] at hb
  have bl2 := BL1.out.trans bl
  have B2 := hid hb; have UX2 := hid (show Upd (fun _ => False) w w2 from by rw [← HSB.out] at bl2; exact upd_of_below bl2); have SX2 := hid (show SB ≤ w2.heap.size from Nat.le_trans (Nat.le_of_eq HSB.out.symm) bl2.size)
  clear hb bl B1 BL1 HZ bl2 n0
  go_wp2_with fail
  go_loopg [5, 12] l.length (fun gg _ s12 wr => ∃ k : Nat, k ≤ l.length ∧ gg = l.length - k ∧ s12 = .int .i64 k ∧ Lib.IsBuilder 204 5 SB SB (Lib.byteCells (rgsTo l k)) wr ∧ SB ≤ wr.heap.size ∧ Upd (fun _ => False) w wr)
  case atStart => exact ⟨0, Nat.zero_le _, rfl, rfl, B2.out, SX2.out, UX2.out⟩
  case round =>
    clear B2 UX2 SX2
    obtain ⟨k, hk, hg, rfl, hb, hsz, u⟩ := hrel
    have HG := hid hg; have BB := hid hb; have SZ := hid hsz; have UR := hid u
    clear hg hb hsz u
    by_cases hlt : k < l.length
    case neg =>
      have hlti : ¬ (k : Int) < l.length := by omega
      have KE := hid (rgsTo_all (l := l) (k := k) (by omega))
      go_wp2_with fail
      refine (string_any SB SB _ _ BB.out SZ.out).mono ?_
      rintro en w7 ⟨rfl, bl⟩
      have U7 := hid (upd_below UR.out bl SBL.out)
      clear bl
      go_wp2_with fail
      go_ret
      exact ⟨by rw [KE.out] <;> rfl, U7.out⟩
    have hlti : (k : Int) < l.length := by omega
    have hk1 : (k : Int) + 1 ≤ 1001 := by have := HL.out; omega
    obtain ⟨g, rfl, hc⟩ := CELL.out _ UR.out (by omega)
    obtain ⟨m0, m1⟩ := hc k hlt
    have HSC := hid (rgsTo_succ hlt)
    have hpk := HLN.out (k + 1) hlt
    have hpk0 := HLN.out k (by omega)
    obtain ⟨xp, hx⟩ : ∃ x, l[k] = x := ⟨_, rfl⟩
    have hxo := HB.out xp (hx ▸ List.getElem_mem hlt)
    obtain ⟨x1, x2⟩ := xp
    rw [hx] at m0 m1 HSC
    have J0 : Hid (I64 x1) := hid hxo.1
    have J1 : Hid (I64 x2) := hid hxo.2
    have n0 : (numE x1).length ≤ 21 := numE_len hxo.1
    have n1 : (numE x2).length ≤ 21 := numE_len hxo.2
    obtain ⟨p1, v1⟩ : ∃ y, numE x1 ++ numE x2 = y := ⟨_, rfl⟩
    have hsp : rgE (x1, x2) = p1 := by unfold rgE; rw [← v1]
    have vl1 : p1.length = (numE x1).length + (numE x2).length := by rw [← v1, List.length_append]
    rw [hsp] at HSC
    have va1 : ∀ w, (Op.stringOp .add ⟨(numE x1).toArray⟩ ⟨(numE x2).toArray⟩).run Tryz.prog w = .ok (.string ⟨p1.toArray⟩) w := fun w => by rw [← v1]; exact add_lists _ _ (by omega) w
    have hl9 := HL.out
    have HLq : Hid ((rgsTo l k).length + p1.length ≤ 100000000) := hid (by omega)
    obtain ⟨W1, hW1⟩ : ∃ W1, W1 = wr.alloc (.cells #[.int .i64 x1, .int .i64 x2] 38 (0, 0)) := ⟨_, rfl⟩
    have hb1 : W1.heap[wr.heap.size]? = some (.cells #[.int .i64 x1, .int .i64 x2] 38 (0, 0)) := by rw [hW1]; exact heap_alloc_new
    have u1 : Upd (fun _ => False) wr W1 := by rw [hW1]; exact (Upd.refl _ _).alloc _
    have HW1 := hid hW1
    have UW := hid (UR.out.trans u1)
    have SZq := hid (Nat.le_trans SZ.out u1.size)
    have qY0 : Hid (W1.drew.heap[wr.heap.size]? = _) := hid hb1
    have qV0 := hid ((Upd.refl (fun _ => False) W1).drew)
    have U1 := hid u1
    clear hc hx hxo v1 vl1 hsp hpk hpk0 n0 n1 hl9 hW1 hb1 u1
    go_upto_region 6 with (fail)
    try rw [← HW1.out]
    first | (go_region_held3 (fun w' => w'.cell? ⟨wr.heap.size, 0, none⟩ = some (.int .i64 x1) ∧ w'.cell? ⟨wr.heap.size, 1, none⟩ = some (.int .i64 x2)) (first | with_reducible exact cells_p qY0.out | with_reducible exact cells_p qY1.out | with_reducible exact cells_p qY2.out | with_reducible exact cells_p qY3.out | go_keep) (first | (go_at_call 25; with_reducible refine (numE_any x1 J0.out _ (HE.out.keep0 (UW.out.trans qV0.out))).mono ?_; rintro en wq1 ⟨rfl, u⟩; have qY1 := hid ((u.block _ (heap_lt qY0.out) id).trans qY0.out); have qV1 := hid (qV0.out.trans u); clear u) | (go_at_call 25; with_reducible refine (numE_any x2 J1.out _ (HE.out.keep0 (UW.out.trans qV1.out))).mono ?_; rintro en wq2 ⟨rfl, u⟩; have qY2 := hid ((u.block _ (heap_lt qY1.out) id).trans qY1.out); have qV2 := hid (qV1.out.trans u); clear u) | (go_at_call 158; with_reducible refine (writeString_old _ _ (rgsTo l k) p1 _ _ BB.out (U1.out.trans qV2.out) HLq.out (Nat.le_trans SZq.out qV2.out.size)).mono ?_; rintro en wq3 ⟨rfl, hb, bl⟩; have qY3 := hid ((bl.block _ (heap_lt qY2.out) (fun h => absurd h.2 (Nat.lt_irrefl _))).trans qY2.out); have qV3 := hid bl; have qB3 := hid hb; clear hb bl))) | fail
    have UX := hid (upd_bel (UW.out.trans qV2.out) qV3.out SBL.out)
    have SX := hid (Nat.le_trans (Nat.le_trans SZq.out qV2.out.size) qV3.out.size)
    have BX := hid (show Lib.IsBuilder 204 5 SB SB (Lib.byteCells (rgsTo l (k + 1))) wq3 from by rw [HSC.out]; exact qB3.out)
    clear qY0 qY1 qY2 qV0 qV1 qV2 qV3 qY3 qB3 va1
    go_wp2_with fail
    go_roundg (l.length - (k + 1))
    case measure => have := HG.out; omega
    case rel => exact ⟨k + 1, by omega, rfl, by go_num, BX.out, SX.out, UX.out⟩

set_option maxRecDepth 100000 in
set_option maxHeartbeats 2000000 in
theorem offer_any {O Or : Nat → Prop} {b r : Nat} {hs : Hs} {R : Rg} {w : World} (h : HPre w O Or b r hs R) : Calls Tryz.prog 23 #[.pointer (some ⟨b, 0, none⟩)] w fun e w' => e = .returned (.string ⟨(offerF hs).toArray⟩) ∧ Upd (fun _ => False) w w' := by
  have HH := hid h
  have MB := hid (show ∀ x ∈ marksF hs, 0 ≤ x ∧ x ≤ 1000000 from fun x hx => by have := marks_small h.plain hx; have := h.few; omega)
  have ML := hid (show (marksF hs).length ≤ 1000 by rw [marksF_len]; have := h.plain.len; have := h.few; omega)
  have OB := hid (show ∀ p ∈ offerR hs, I64 p.1 ∧ I64 p.2 from fun p hp => by
    have h1 := (offer_inv h.plain).ap.each p hp
    have h2 := offer_end h.plain p hp
    have := h.few
    unfold I64; omega)
  have OL := hid (show (offerR hs).length ≤ 1000 by have := offer_len hs; have := h.plain.len; have := h.few; omega)
  clear h
  go_enter Tryz.func23, Tryz.ntmps23
  go_wp2_with fail
  refine (hmarks_any HH.out.his).mono ?_
  rintro en y1 ⟨vm, rfl, ho, u⟩
  have R1 := hid (ints_rep ho fun x hx => by have := MB.out x hx; unfold I64; omega)
  have U1 := hid u
  clear ho u
  go_wp2_with fail
  refine (ranges_any _ _ (marksF hs) _ R1.out (fun g hg => hg.2) ML.out MB.out).mono ?_
  rintro en y2 ⟨vp, rfl, ho, u⟩
  have OP := hid ho
  have U2 := hid (U1.out.trans u)
  clear ho u
  go_wp2_with fail
  refine (rgtext_any _ _ (offerR hs) _ (HH.out.gnd.env.keep0 U2.out) OP.out OL.out OB.out).mono ?_
  rintro en y3 ⟨rfl, u⟩
  have U3 := hid (U2.out.trans u)
  clear u
  go_wp2_with fail
  go_ret
  exact ⟨rfl, U3.out⟩
end Go.Proofs.YtjkmalddfoemhaaGreatDoor
namespace Go.Proofs.YtjkmalddfoemhaaGreatDoor
open Go.RowKit Go.Deep

def ReadOPost (s : List UInt8) (w : World) (e : Ending) (w' : World) : Prop :=
  ∃ v, e = .returned (.tuple #[v, .int .i64 (readO MM s).2]) ∧ PrsAt w' w.heap.size v (readO MM s).1 ∧ Upd (fun _ => False) w w'
theorem done_yes {r : RS} (h : r.bad = false ∧ r.rest = []) : doneF r = true := by unfold doneF; rw [h.1, h.2]; rfl
theorem done_no {r : RS} (h : ¬ (r.bad = false ∧ r.rest = [])) : doneF r = false := by
  unfold doneF
  obtain ⟨l, b⟩ := r
  cases b
  · cases l
    · exact absurd ⟨rfl, rfl⟩ h
    · rfl
  · rfl
set_option maxRecDepth 100000 in
set_option maxHeartbeats 8000000 in
theorem readO_any (s : List UInt8) (w : World) (E : Env w) (hz : 6 ≤ w.heap.size) (hl : s.length ≤ 1000000) : Calls Tryz.prog 22 #[.string ⟨s.toArray⟩] w (ReadOPost s w) := by
  have HE := hid E; have HL := hid hl
  clear E hl
  go_enter Tryz.func22, Tryz.ntmps22
  go_wp2_with fail
  refine (open_any s w).mono ?_
  rintro e w1 ⟨rfl, hr, u⟩
  have R1 := hid hr; have U1 := hid u
  have HBL := hid (show w.heap.size < w1.heap.size from heap_lt hr)
  clear hr u
  obtain ⟨pb, hpb⟩ : ∃ x, w.heap.size = x := ⟨_, rfl⟩
  have HPB := hid hpb
  have PB6 := hid (show 6 ≤ pb by rw [← hpb]; exact hz)
  replace R1 := hid (hpb ▸ R1.out)
  have HBL := hid (hpb ▸ HBL.out)
  rw [hpb]
  clear hpb hz
  go_wp2_with fail
  refine (numR_any pb ⟨s, false⟩ _ (HE.out.keep0 U1.out) R1.out PB6.out (Nat.le_trans HL.out (by decide))).mono ?_
  rintro e w2 ⟨rfl, hr, u⟩
  have hlen0 := numF_len ⟨s, false⟩
  have TOT := hid (show readO MM s = readEnd (numF ⟨s, false⟩).1 (readL MM (numF ⟨s, false⟩).1 s.length (numF ⟨s, false⟩).2 (-1) []) from rfl)
  obtain ⟨r1, hr1⟩ : ∃ x, (numF ⟨s, false⟩).2 = x := ⟨_, rfl⟩
  obtain ⟨n, hn⟩ : ∃ x, (numF ⟨s, false⟩).1 = x := ⟨_, rfl⟩
  rw [hr1] at hr hlen0 TOT
  rw [hn] at TOT ⊢
  have hlen0 : r1.rest.length ≤ s.length - 1 := hlen0
  have HLEN0 := hid (show r1.rest.length ≤ s.length by omega)
  have R2 := hid hr
  have U2 := hid (show Upd (fun j => j = pb ∨ w1.heap.size ≤ j) w1 w2 from u.mono fun _ q => .inl q)
  clear hr u R1 hlen0 hr1 hn
  go_wp2_with fail
  go_loopg [6, 7, 8] r1.rest.length (fun gg s6 s7 _ wr => ∃ (k : Nat) (r : RS) (last : Int) (out : List (Int × Int)), gg = r.rest.length ∧ s7 = .int .i64 last ∧ RdAt wr pb r ∧ PrsAt wr w1.heap.size s6 out ∧ readL MM n k r last out = readL MM n s.length r1 (-1) [] ∧ (r.rest.length ≤ k ∧ out.length + r.rest.length ≤ s.length) ∧ I64 last ∧ Upd (fun j => j = pb ∨ w1.heap.size ≤ j) w1 wr)
  case atStart => exact ⟨s.length, r1, -1, [], rfl, rfl, R2.out, World.ownsRow_nil _ _ _ _, rfl, ⟨HLEN0.out, by have := HLEN0.out; simpa using this⟩, by unfold I64; omega, U2.out⟩
  case round =>
    clear R2 U2
    obtain ⟨k, r, last, out, hg, rfl, hr, ho, htot, hbd, hi, u⟩ := hrel
    have HG := hid hg; have RR := hid hr; have OW := hid ho; have TOT2 := hid htot; have BD := hid hbd; have HI := hid hi; have UP := hid u
    have UF := hid (show Upd (fun _ => False) w wr from (U1.out.comp u fun i hi q => by have := HPB.out; have := HBL.out; omega).mono fun _ q => q)
    clear hg hr htot hbd hi u
    obtain ⟨asl, cs, rfl, hs1, hs2⟩ := prs_slice ho
    have hs2 : cs ≤ 9223372036854775807 := hs2
    clear ho
    by_cases t1 : (out.length : Int) < n
    case neg =>
      have td : decide ((out.length : Int) < n) = false := decide_eq_false t1
      have T1 := hid t1
      go_wp2_with fail
      have ST := hid (TOT2.out.symm.trans (readL_stop (M := MM) (n := n) (k := k) (r := r) (last := last) (out := out) (fun q => by have := T1.out; omega)))
      have TT := hid (show readO MM s = readEnd n (some (out, r)) by rw [TOT.out, ST.out])
      refine (done_any pb r _ RR.out).mono ?_
      rintro en w8 ⟨rfl, rfl⟩
      by_cases hd : r.bad = false ∧ r.rest = []
      case neg =>
        rw [done_no hd]
        have EE := hid (show readO MM s = ([], 2) by rw [TT.out]; exact if_neg fun q => hd ⟨q.1, q.2.1⟩)
        clear hd
        go_wp2_with fail
        go_ret2
        exact ⟨_, by rw [EE.out] <;> rfl, by rw [EE.out]; exact World.ownsRow_nil _ _ _ _, UF.out⟩
      rw [done_yes hd]
      by_cases he : (out.length : Int) = n
      case neg =>
        have EE := hid (show readO MM s = ([], 2) by rw [TT.out]; exact if_neg fun q => he q.2.2)
        have t5 : ((out.length : Int) == n) = false := beq_eq_false_iff_ne.2 he
        clear hd
        go_wp2_with fail
        go_ret2
        exact ⟨_, by rw [EE.out] <;> rfl, by rw [EE.out]; exact World.ownsRow_nil _ _ _ _, UF.out⟩
      have EE := hid (show readO MM s = (out, 0) by rw [TT.out]; exact if_pos ⟨hd.1, hd.2, he⟩)
      have t5 : ((out.length : Int) == n) = true := beq_iff_eq.2 he
      clear hd
      go_wp2_with fail
      go_ret2
      exact ⟨_, by rw [EE.out] <;> rfl, by rw [EE.out]; exact ownsRow_base OW.out (by have := HPB.out; have := HBL.out; omega), UF.out⟩
    have td : decide ((out.length : Int) < n) = true := decide_eq_true t1
    go_wp2_with fail
    refine (left_any pb r _ RR.out).mono ?_
    rintro en w9 ⟨rfl, rfl⟩
    by_cases t2 : 0 < r.rest.length
    case neg =>
      have t2i : ¬ (0 : Int) < (r.rest.length : Int) := by omega
      have t2d : decide ((0 : Int) < (r.rest.length : Int)) = false := decide_eq_false t2i
      have T2 := hid t2
      go_wp2_with fail
      have ST := hid (TOT2.out.symm.trans (readL_stop (M := MM) (n := n) (k := k) (r := r) (last := last) (out := out) (fun q => by have := T2.out; omega)))
      have TT := hid (show readO MM s = readEnd n (some (out, r)) by rw [TOT.out, ST.out])
      refine (done_any pb r _ RR.out).mono ?_
      rintro en w8 ⟨rfl, rfl⟩
      by_cases hd : r.bad = false ∧ r.rest = []
      case neg =>
        rw [done_no hd]
        have EE := hid (show readO MM s = ([], 2) by rw [TT.out]; exact if_neg fun q => hd ⟨q.1, q.2.1⟩)
        clear hd
        go_wp2_with fail
        go_ret2
        exact ⟨_, by rw [EE.out] <;> rfl, by rw [EE.out]; exact World.ownsRow_nil _ _ _ _, UF.out⟩
      rw [done_yes hd]
      by_cases he : (out.length : Int) = n
      case neg =>
        have EE := hid (show readO MM s = ([], 2) by rw [TT.out]; exact if_neg fun q => he q.2.2)
        have t5 : ((out.length : Int) == n) = false := beq_eq_false_iff_ne.2 he
        clear hd
        go_wp2_with fail
        go_ret2
        exact ⟨_, by rw [EE.out] <;> rfl, by rw [EE.out]; exact World.ownsRow_nil _ _ _ _, UF.out⟩
      have EE := hid (show readO MM s = (out, 0) by rw [TT.out]; exact if_pos ⟨hd.1, hd.2, he⟩)
      have t5 : ((out.length : Int) == n) = true := beq_iff_eq.2 he
      clear hd
      go_wp2_with fail
      go_ret2
      exact ⟨_, by rw [EE.out] <;> rfl, by rw [EE.out]; exact ownsRow_base OW.out (by have := HPB.out; have := HBL.out; omega), UF.out⟩
    have t2i : (0 : Int) < (r.rest.length : Int) := by omega
    have t2d : decide ((0 : Int) < (r.rest.length : Int)) = true := decide_eq_true t2i
    have rl := BD.out.2
    have hLL := HL.out
    go_wp2_with fail
    refine (numR_any pb r _ (HE.out.keep0 UF.out) RR.out PB6.out (by omega)).mono ?_
    rintro e w3 ⟨rfl, hr, u⟩
    have R3 := hid hr
    have UF3 := hid (show Upd (fun _ => False) w w3 from UF.out.comp u fun i hi q => by have := HPB.out; omega)
    have UP3 := hid (show Upd (fun j => j = pb ∨ w1.heap.size ≤ j) w1 w3 from UP.out.trans (u.mono fun _ q => .inl q))
    have row3 := ownsRow_upd OW.out u fun g hg q => by have := (prs_lt OW.out g hg).1; have := HBL.out; omega
    have l1 := numF_len r
    have i1 := numberF_i64 59 0 r
    have g1 := numberF_ge 59 r
    have OW3 := hid row3
    clear hr u row3
    go_wp2_with fail
    refine (numR_any pb (numF r).2 _ (HE.out.keep0 UF3.out) R3.out PB6.out (by omega)).mono ?_
    rintro e w4 ⟨rfl, hr, u⟩
    have R4 := hid hr
    have UF4 := hid (show Upd (fun _ => False) w w4 from UF3.out.comp u fun i hi q => by have := HPB.out; omega)
    have UP4 := hid (show Upd (fun j => j = pb ∨ w1.heap.size ≤ j) w1 w4 from UP3.out.trans (u.mono fun _ q => .inl q))
    have row4 := ownsRow_upd OW3.out u fun g hg q => by have := (prs_lt OW3.out g hg).1; have := HBL.out; omega
    have i2 := numberF_i64 59 0 (numF r).2
    have NO := hid (fun q => readL_no (M := MM) (n := n) (k := k) (r := r) (last := last) (out := out) BD.out.1 ⟨t1, t2⟩ q)
    have GO := hid (fun q => readL_go (M := MM) (n := n) (k := k) (r := r) (last := last) (out := out) BD.out.1 ⟨t1, t2⟩ q)
    change I64 (numF r).1 at i1
    change I64 (numF (numF r).2).1 at i2
    obtain ⟨a, ha⟩ : ∃ x, (numF r).1 = x := ⟨_, rfl⟩
    obtain ⟨b, hb⟩ : ∃ x, (numF (numF r).2).1 = x := ⟨_, rfl⟩
    rw [ha] at i1 NO GO ⊢
    rw [hb] at i2 NO GO ⊢
    have I1 := hid i1; have I2 := hid i2
    obtain ⟨y2, hy2⟩ : ∃ y2, y2 = w4.alloc (.cells #[.int .i64 a, .int .i64 b] 38 (0, 0)) := ⟨_, rfl⟩
    have uy : Upd (fun _ => False) w4 y2 := by rw [hy2]; exact (Upd.refl _ _).alloc _
    have YB := hid (show y2.heap[w4.heap.size]? = some (.cells #[.int .i64 a, .int .i64 b] 38 (0, 0)) by rw [hy2]; exact heap_alloc_new)
    have HY2 := hid hy2
    have RY := hid (R4.out.upd uy id)
    have OWY := hid (ownsRow_upd row4 uy fun _ _ => id)
    have UFY := hid (UF4.out.trans uy)
    have UPY := hid (UP4.out.trans (uy.mono fun _ q => q.elim))
    have m1 : y2.cell? ⟨w4.heap.size, 0, none⟩ = some (.int .i64 a) := by rw [cell_of_block YB.out]; rfl
    have m2 : y2.cell? ⟨w4.heap.size, 1, none⟩ = some (.int .i64 b) := by rw [cell_of_block YB.out]; rfl
    clear hr u row4 hy2 uy OW OW3 R3 R4 UF UF3 UF4 UP UP3 UP4 RR ha hb l1 rl hLL g1
    go_upto_region 7 with (fail)
    try rw [← HY2.out]
    by_cases c1 : a ≤ last
    case pos =>
      have EE := hid (show readO MM s = ([], 2) by rw [TOT.out, ← TOT2.out, NO.out (.inl c1)]; rfl)
      have d1 : decide (a ≤ last) = true := decide_eq_true c1
      go_wp2_with fail
      go_ret2
      exact ⟨_, by rw [EE.out] <;> rfl, by rw [EE.out]; exact World.ownsRow_nil _ _ _ _, UFY.out⟩
    have d1 : decide (a ≤ last) = false := decide_eq_false c1
    by_cases c2 : b ≤ a
    case pos =>
      have EE := hid (show readO MM s = ([], 2) by rw [TOT.out, ← TOT2.out, NO.out (.inr (.inl c2))]; rfl)
      have d2 : decide (b ≤ a) = true := decide_eq_true c2
      go_wp2_with fail
      go_ret2
      exact ⟨_, by rw [EE.out] <;> rfl, by rw [EE.out]; exact World.ownsRow_nil _ _ _ _, UFY.out⟩
    have d2 : decide (b ≤ a) = false := decide_eq_false c2
    by_cases c3 : 1073741825 < b
    case pos =>
      have EE := hid (show readO MM s = ([], 2) by rw [TOT.out, ← TOT2.out, NO.out (.inr (.inr c3))]; rfl)
      have d3 : decide (1073741825 < b) = true := decide_eq_true c3
      go_wp2_with fail
      go_ret2
      exact ⟨_, by rw [EE.out] <;> rfl, by rw [EE.out]; exact World.ownsRow_nil _ _ _ _, UFY.out⟩
    have d3 : decide (1073741825 < b) = false := decide_eq_false c3
    have GG := hid (GO.out fun q => by rcases q with q | q | q; exact c1 q; exact c2 q; exact c3 q)
    have hx3 : w1.heap.size ≤ y2.heap.size := UPY.out.size
    obtain ⟨v', w5, r5, o5, u5, n5⟩ := append_one elemPr OWY.out #[.int .i64 a, .int .i64 b] rfl (by simp [Value.oneCell']) (by have := BD.out.2; have := HL.out; unfold maxLen; omega) (by have := BD.out.2; have := HL.out; omega) hx3 33 (0, 0)
    have O5 := hid o5; have R5 := hid r5
    have RD5 := hid (RY.out.upd u5 fun q => by have := (prs_lt OWY.out pb q).1; have := HBL.out; omega)
    have U5 := hid (show Upd (fun j => j = pb ∨ w1.heap.size ≤ j) y2 w5 from u5.mono fun j hj => .inr (prs_lt OWY.out j hj).1)
    clear o5 r5 u5 n5 hx3
    go_wp2_with (at_builtin; refine wpList_append_run rfl _ _ _ _ rfl rfl rfl R5.out ?_)
    obtain ⟨j, j1, j2, j3⟩ := GG.out
    have J1 := hid j1; have J2 := hid j2; have J3 := hid j3
    clear j1 j2 j3
    go_roundg (numF (numF r).2).2.rest.length
    case measure => have := HG.out; have := J2.out; omega
    case rel =>
      refine ⟨j, (numF (numF r).2).2, b, out ++ [(a, b)], rfl, rfl, RD5.out, ?_, J3.out.symm.trans TOT2.out, ⟨J1.out, ?_⟩, I2.out, UPY.out.trans U5.out⟩
      · show PrsAt _ _ _ (out ++ [(a, b)])
        unfold PrsAt
        rw [prFlat_snoc, List.length_append]
        exact O5.out
      · have := J2.out; have := BD.out.2
        rw [List.length_append, List.length_singleton]; omega
end Go.Proofs.YtjkmalddfoemhaaGreatDoor
