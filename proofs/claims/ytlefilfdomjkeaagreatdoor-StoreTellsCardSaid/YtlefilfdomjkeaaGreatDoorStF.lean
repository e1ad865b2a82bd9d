/- Walks: rows are cloned; what a store tells. -/
import Derived.Test.YtlefilfdomjkeaaGreatDoorStE
namespace Go.Proofs.YtlefilfdomjkeaaGreatDoor
open Go.RowKit Go.Deep
def ClonePost (e : TypeId) (m : Nat) (xs : List Value) (w : World) (en : Ending) (w' : World) : Prop :=
  ∃ v', en = .returned v' ∧ Own1 e w' v' m xs ∧ (∀ g, v'.ownBlock = some g → w.heap.size ≤ g) ∧ Upd (fun _ => False) w w'
theorem own1_base {e : TypeId} {w : World} {B : Nat} {v : Value} {n : Nat} {xs : List Value} (h : w.ownsRow B e 1 v n xs) : ∀ g, v.ownBlock = some g → B ≤ g := by
  intro g hg
  rcases ownsRow_fits h with ⟨rfl, _⟩ | ⟨g', cap, rfl, h1, _⟩
  · cases hg
  · injection hg with hg; rw [← hg]; exact h1
/-- What an empty new row becomes when a slice is appended. -/
theorem app_new {P : Program} {t e : TypeId} {bytes : Nat} (T : ElemTy P t e 1 bytes) (hb : bytes ≤ 100) (w : World) (ad : Addr) (m c : Nat) (xs : List Value) (hx : xs.length = m) (hc : ∀ j u, xs[j]? = some u → w.cell? (ad.add j) = some u) (h1 : ∀ u ∈ xs, u.oneCell' = true) (hm : m ≤ 1000000) (ty : TypeId) :
    ∃ v' w', (Builtin.append_ #[t, t] ty #[.slice (some ⟨w.heap.size, 0, none⟩) 0 0, .slice (some ad) m c]).run P (w.alloc (.cells #[] e (0, 0))) = .ok v' w' ∧ Own1 e w' v' m xs ∧ (∀ g, v'.ownBlock = some g → w.heap.size ≤ g) ∧ Upd (fun _ => False) w w' := by
  have u0 : Upd (fun _ => False) w (w.alloc (.cells #[] e (0, 0))) := (Upd.refl _ _).alloc _
  have hc' : ∀ j u, xs[j]? = some u → (w.alloc (.cells #[] e (0, 0))).cell? (ad.add j) = some u := fun j u hj => Lib.cell?_alloc_some _ (hc j u hj)
  by_cases h0 : m = 0
  · subst h0
    obtain rfl : xs = [] := List.eq_nil_of_length_eq_zero hx
    obtain ⟨ht, ⟨i, z, hi, hz, hsz, hby, hzs⟩, hpos⟩ := T
    have hr := run_append_room (P := P) (w.alloc (.cells #[] e (0, 0))) t ty e i ht hi w.heap.size 0 0 #[] heap_alloc_new ad 0 c [] (by simp) hc' h1 (by simp) (by simp)
    have hw : ((w.alloc (.cells #[] e (0, 0))).setRow w.heap.size #[]).heap[w.heap.size]? = some (.cells #[] e (0, 0)) := by
      exact setRow_heap _ _ #[] #[] e (0, 0) heap_alloc_new
    refine ⟨_, _, hr, ⟨⟨by simp, .inr ⟨w.heap.size, 0, #[], rfl, Nat.zero_le _, by simpa using hw, Nat.le_refl _, Nat.zero_le _, by simp, by simp⟩⟩, fun _ => ⟨_, rfl⟩⟩, fun g hg => ?_, ?_⟩
    · injection hg with hg; rw [← hg]; exact Nat.le_refl _
    · refine ⟨u0.os, u0.tape, u0.output, ?_, fun k hk hs => ?_⟩
      · have := u0.size; simp only [World.setRow, Array.size_modify]; exact this
      · rw [← u0.block k hk hs]
        simp only [World.setRow, List.append_nil, Array.getElem?_modify]
        rw [if_neg (by omega)]
  · obtain ⟨v', w1, hr, ho, hgr, _⟩ := append_own2 T (World.ownsRow_made (base := w.heap.size) (size := 1) (e := e) w #[] 0 (Nat.le_refl _) (Nat.zero_le _) (by simp)) ad m c xs (by rw [hx, Nat.mul_one]) hc' h1 (by unfold maxLen; omega) (by rw [Nat.zero_add]; exact Nat.le_trans (Nat.mul_le_mul hm hb) (by decide)) (by simp) ty
    rw [Nat.zero_add, List.nil_append] at ho
    exact ⟨v', w1, hr, ⟨ho.mono (Nat.zero_le _), fun e => absurd e h0⟩, own1_base ho, u0.grown hgr fun k hk => .inr (by cases hk; exact Nat.le_refl _)⟩

theorem clone_str_nil (w : World) : Calls Tryz.prog 49 #[.slice none 0 0] w (ClonePost 9 0 [] w) := by
  have q22 : ∀ (w : World) (a : Option Addr) (n c n' c' : Nat), (binOp .eql 50 (.slice a n c) (.slice none n' c')).run Tryz.prog w = .ok (.bool a.isNone) w := fun w a n c n' c' => Lib.run_eql_slice_nil w _ _ a n c n' c' Tryz.underlying50
  go_enter Tryz.func49, Tryz.ntmps49
  go_wp2_with fail
  go_ret
  exact ⟨_, rfl, Own1.nil _ _, (fun g hg => by cases hg), Upd.refl _ _⟩
theorem clone_str_some (w : World) (ad : Addr) (m c : Nat) (xs : List Value) (hx : xs.length = m) (hc : ∀ j u, xs[j]? = some u → w.cell? (ad.add j) = some u) (h1 : ∀ u ∈ xs, u.oneCell' = true) (hm : m ≤ 1000000) :
    Calls Tryz.prog 49 #[.slice (some ad) m c] w (ClonePost 9 m xs w) := by
  have q22 : ∀ (w : World) (a : Option Addr) (n c n' c' : Nat), (binOp .eql 50 (.slice a n c) (.slice none n' c')).run Tryz.prog w = .ok (.bool a.isNone) w := fun w a n c n' c' => Lib.run_eql_slice_nil w _ _ a n c n' c' Tryz.underlying50
  obtain ⟨v', w1, hr, ho, hb, hu⟩ := app_new elemS (by decide) w ad m c xs hx hc h1 hm 50
  have HO := hid ho; have HB := hid hb; have HU := hid hu
  clear ho hb hu hc h1 hx
  go_enter Tryz.func49, Tryz.ntmps49
  go_wp2_with (at_builtin; refine wpList_append_run rfl _ _ _ _ rfl rfl rfl hr ?_)
  go_ret
  exact ⟨v', rfl, HO.out, HB.out, HU.out⟩
/-- An owned row is cloned from its element k on. -/
theorem clone_str {w : World} {v : Value} {n : Nat} {xs : List Value} (h : Own1 9 w v n xs) (h1 : ∀ u ∈ xs, u.oneCell' = true) (hn : n ≤ 1000000) :
    Calls Tryz.prog 49 #[v] w (ClonePost 9 n xs w) := by
  rcases ownsRow_fits h.own with ⟨rfl, rfl⟩ | ⟨g, cap, rfl, _⟩
  · obtain rfl : xs = [] := List.eq_nil_of_length_eq_zero (by simpa using h.own.1)
    exact clone_str_nil w
  · refine clone_str_some w ⟨g, 0, none⟩ n cap xs (by simpa using h.own.1) (fun j u hj => ?_) h1 hn
    have := h.own.cells (g := g) rfl j u hj
    exact this

theorem clone_int_nil (w : World) : Calls Tryz.prog 50 #[.slice none 0 0] w (ClonePost 3 0 [] w) := by
  have q22 : ∀ (w : World) (a : Option Addr) (n c n' c' : Nat), (binOp .eql 51 (.slice a n c) (.slice none n' c')).run Tryz.prog w = .ok (.bool a.isNone) w := fun w a n c n' c' => Lib.run_eql_slice_nil w _ _ a n c n' c' Tryz.underlying51
  go_enter Tryz.func50, Tryz.ntmps50
  go_wp2_with fail
  go_ret
  exact ⟨_, rfl, Own1.nil _ _, (fun g hg => by cases hg), Upd.refl _ _⟩
theorem clone_int_some (w : World) (ad : Addr) (m c : Nat) (xs : List Value) (hx : xs.length = m) (hc : ∀ j u, xs[j]? = some u → w.cell? (ad.add j) = some u) (h1 : ∀ u ∈ xs, u.oneCell' = true) (hm : m ≤ 1000000) :
    Calls Tryz.prog 50 #[.slice (some ad) m c] w (ClonePost 3 m xs w) := by
  have q22 : ∀ (w : World) (a : Option Addr) (n c n' c' : Nat), (binOp .eql 51 (.slice a n c) (.slice none n' c')).run Tryz.prog w = .ok (.bool a.isNone) w := fun w a n c n' c' => Lib.run_eql_slice_nil w _ _ a n c n' c' Tryz.underlying51
  obtain ⟨v', w1, hr, ho, hb, hu⟩ := app_new elemI (by decide) w ad m c xs hx hc h1 hm 51
  have HO := hid ho; have HB := hid hb; have HU := hid hu
  clear ho hb hu hc h1 hx
  go_enter Tryz.func50, Tryz.ntmps50
  go_wp2_with (at_builtin; refine wpList_append_run rfl _ _ _ _ rfl rfl rfl hr ?_)
  go_ret
  exact ⟨v', rfl, HO.out, HB.out, HU.out⟩
/-- An owned row is cloned from its element k on. -/
theorem clone_int {w : World} {v : Value} {n : Nat} {xs : List Value} (h : Own1 3 w v n xs) (h1 : ∀ u ∈ xs, u.oneCell' = true) (hn : n ≤ 1000000) :
    Calls Tryz.prog 50 #[v] w (ClonePost 3 n xs w) := by
  rcases ownsRow_fits h.own with ⟨rfl, rfl⟩ | ⟨g, cap, rfl, _⟩
  · obtain rfl : xs = [] := List.eq_nil_of_length_eq_zero (by simpa using h.own.1)
    exact clone_int_nil w
  · refine clone_int_some w ⟨g, 0, none⟩ n cap xs (by simpa using h.own.1) (fun j u hj => ?_) h1 hn
    have := h.own.cells (g := g) rfl j u hj
    exact this

theorem strV_one (l : List (List UInt8)) : ∀ u ∈ l.map strV, u.oneCell' = true := by
  intro u hu
  obtain ⟨x, _, rfl⟩ := List.mem_map.1 hu
  rfl
theorem natV_one (l : List Nat) : ∀ u ∈ l.map natV, u.oneCell' = true := by
  intro u hu
  obtain ⟨x, _, rfl⟩ := List.mem_map.1 hu
  rfl
def AllPost (l : List (List UInt8)) (w : World) (en : Ending) (w' : World) : Prop :=
  ∃ v', en = .returned v' ∧ OwnS w' v' l ∧ (∀ g, v'.ownBlock = some g → w.heap.size ≤ g) ∧ Upd (fun _ => False) w w'
section
variable {w : World} {O : Nat → Prop} {x p q : Nat} {F : Fl} {S : St} {vr va : Value}
theorem all_any (h : StoreAt w O x p q F S vr va) (ok : StOk S) : Calls Tryz.prog 24 #[.pointer (some ⟨x, 0, none⟩)] w (AllPost S.recs w) := by
  obtain ⟨⟨c0, c1, c2, c3, c4, c5, c6⟩, hf⟩ := h.cells
  have hl : S.recs.length ≤ 1000000 := by have := ok.len; unfold St.len at this; omega
  have C := hid (clone_str h.recs (strV_one _) hl)
  clear h ok hl
  go_enter Tryz.func24, Tryz.ntmps24
  go_wp2_with fail
  refine C.out.mono ?_
  rintro e w' ⟨v', rfl, h1, h2, h3⟩
  have H1 := hid h1; have H2 := hid h2; have H3 := hid h3
  clear h1 h2 h3
  go_wp2_with fail
  go_ret
  exact ⟨v', rfl, H1.out, H2.out, H3.out⟩
def getP (S : St) (i : Int) : List UInt8 × Bool := if i < S.first ∨ (S.len : Int) ≤ i then ([], false) else ((S.recs.getD (i - S.first).toNat []), true)
set_option maxRecDepth 100000 in
set_option maxHeartbeats 1000000 in
theorem get_any (h : StoreAt w O x p q F S vr va) (ok : StOk S) (i : Int) (hi : I64 i) : Calls Tryz.prog 18 #[.pointer (some ⟨x, 0, none⟩), .int .i64 i] w fun e w' => e = .returned (.tuple #[.string ⟨(getP S i).1.toArray⟩, .bool (getP S i).2]) ∧ Upd (fun _ => False) w w' := by
  obtain ⟨⟨c0, c1, c2, c3, c4, c5, c6⟩, hf⟩ := h.cells
  have hlen := ok.len
  have L := hid (len_any h ok)
  have hls : S.len = S.first + S.recs.length := rfl
  have b1 : (S.first : Int) ≤ 900000 := by omega
  have b2 : (S.len : Int) ≤ 900000 := by omega
  have hi1 := hi.1; have hi2 := hi.2
  by_cases h1 : i < S.first
  · have G := hid (show getP S i = ([], false) from if_pos (.inl h1))
    clear h ok hlen hls
    go_enter Tryz.func18, Tryz.ntmps18
    go_wp2_with fail
    go_ret2
    exact ⟨by rw [G.out]; rfl, Upd.refl _ _⟩
  by_cases h2 : (S.len : Int) ≤ i
  · have G := hid (show getP S i = ([], false) from if_pos (.inr h2))
    clear h ok hlen hls
    go_enter Tryz.func18, Tryz.ntmps18
    go_wp2_with fail
    refine L.out.mono ?_
    rintro e w' ⟨rfl, u⟩
    have U := hid u; clear u
    go_wp2_with fail
    go_ret2
    exact ⟨by rw [G.out]; rfl, U.out⟩
  · obtain ⟨k, hk⟩ : ∃ k : Nat, i = S.first + k := ⟨(i - S.first).toNat, by omega⟩
    subst hk
    have hkl : k < S.recs.length := by omega
    have G := hid (show getP S (S.first + k) = (S.recs[k], true) from by
      unfold getP
      rw [if_neg (by omega), show ((S.first : Int) + k - S.first).toNat = k by omega, List.getD_eq_getElem?_getD, List.getElem?_eq_getElem hkl]; rfl)
    obtain ⟨g, cap, rfl, hob, _, _, ⟨cur, hcur⟩, hcell⟩ := h.recs.cell (by omega)
    have hck := hcell k (strV S.recs[k]) (by simp [hkl])
    have hgl : g < w.heap.size := heap_lt hcur
    have f1 : (S.first : Int) + k - S.first = k := by omega
    have b3 : (k : Int) ≤ 900000 := by omega
    have hki : (k : Int) < S.recs.length := by omega
    have HL := hid h
    generalize S.recs[k] = rk at *
    clear h ok hlen hls hcell hcur hob
    go_enter Tryz.func18, Tryz.ntmps18
    go_wp2_with fail
    refine L.out.mono ?_
    rintro e w' ⟨rfl, u⟩
    have U := hid u
    have hck := cell_kept hck (u.block _ hgl id)
    have ST := hid (HL.out.upd0 u)
    clear u c0 c1 c2 c3 c4 c5 c6 hf
    obtain ⟨⟨c0, c1, c2, c3, c4, c5, c6⟩, hf⟩ := ST.out.cells
    go_wp2_with fail
    go_quiet (fail)
    go_wp2_with fail
    go_ret2
    exact ⟨by rw [G.out]; rfl, U.out.drewN _⟩
end
end Go.Proofs.YtlefilfdomjkeaaGreatDoor
