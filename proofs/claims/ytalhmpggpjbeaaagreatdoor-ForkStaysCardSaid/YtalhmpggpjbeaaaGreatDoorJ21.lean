/- A map from authors to lists of marks, in memory. -/
import Derived.Test.YtalhmpggpjbeaaaGreatDoorJ20
import Derived.Test.YtalhmpggpjbeaaaGreatDoorJ13
import Derived.Test.YtalhmpggpjbeaaaGreatDoorJ10
import Derived.Test.YtalhmpggpjbeaaaGreatDoorCDgEntry
import Derived.Test.YtalhmpggpjbeaaaGreatDoorJ18
import Derived.Test.YtalhmpggpjbeaaaGreatDoorJ4
import Derived.Test.YtalhmpggpjbeaaaGreatDoorJ2
import Derived.Test.YtalhmpggpjbeaaaGreatDoorSortS
namespace Go.Proofs.YtalhmpggpjbeaaaGreatDoor
open Go.RowKit Go.Deep

theorem lookup_map {α β : Type} (f : α → β) (l : List (Int × α)) (x : Int) : (l.map fun p => (p.1, f p.2)).lookup x = (l.lookup x).map f := by
  induction l with
  | nil => rfl
  | cons p r ih =>
    obtain ⟨a, b⟩ := p
    rw [List.map_cons, List.lookup_cons, List.lookup_cons, ih]
    cases (x == a) <;> rfl
theorem putM_map {α β : Type} (f : α → β) (l : List (Int × α)) (x : Int) (v : α) : ((putM l x v).map fun p => (p.1, f p.2)) = putM (l.map fun p => (p.1, f p.2)) x (f v) := by
  unfold putM delM
  rw [List.map_cons, List.filter_map]
  rfl
/-- Keys, with the slices that lie in memory, and what they are. -/
abbrev OwE := List (Int × (Value × List Int))
def owV (E : OwE) : List (Int × Value) := E.map fun p => (p.1, p.2.1)
def owL (E : OwE) : List (Int × List Int) := E.map fun p => (p.1, p.2.2)
structure OwnAt (w : World) (B mb : Nat) (E : OwE) : Prop where
  map : MapIs Tryz.prog 3 w mb (owV E)
  rows : ∀ p ∈ E, w.ownsRow B 3 1 p.2.1 p.2.2.length (p.2.2.map fun x => .int .i64 x)
  apart : ∀ p ∈ E, ∀ q ∈ E, p.1 ≠ q.1 → ∀ g, p.2.1.ownBlock = some g → q.2.1.ownBlock ≠ some g
  base : mb < B ∧ B ≤ w.heap.size
theorem OwnAt.bm {w : World} {B mb : Nat} {E : OwE} (h : OwnAt w B mb E) : ∀ p ∈ E, p.2.1.ownBlock ≠ some mb := fun p hp e => by have := (own_lt (h.rows p hp) mb e).1; have := h.base.1; omega
/-- The map of block mb is l. -/
def IsOwn (w : World) (B mb : Nat) (l : List (Int × List Int)) : Prop := ∃ E, OwnAt w B mb E ∧ owL E = l
theorem OwnAt.upd {S : Nat → Prop} {w w' : World} {B mb : Nat} {E : OwE} (h : OwnAt w B mb E) (u : Upd S w w') (hS : ∀ k, k = mb ∨ B ≤ k → ¬ S k) : OwnAt w' B mb E :=
  ⟨h.map.upd u (hS _ (.inl rfl)), fun p hp => ownsRow_upd (h.rows p hp) u fun g hg => hS _ (.inr (own_lt (h.rows p hp) g hg).1), h.apart, ⟨h.base.1, Nat.le_trans h.base.2 u.size⟩⟩
theorem IsOwn.keep {w w' : World} {B mb : Nat} {l : List (Int × List Int)} (h : IsOwn w B mb l) (u : Upd (fun _ => False) w w') : IsOwn w' B mb l :=
  let ⟨E, h1, h2⟩ := h; ⟨E, h1.upd u fun _ _ => id, h2⟩
theorem IsOwn.made {w w' : World} (u : Upd (fun _ => False) (w.alloc (.map #[] 0)) w') : IsOwn w' w'.heap.size w.heap.size [] :=
  ⟨[], ⟨(MapIs.made w).upd u id, fun p hp => (nomatch hp), fun p hp => (nomatch hp), ⟨by have := u.size; simp at this; omega, Nat.le_refl _⟩⟩, rfl⟩
theorem zeroSl (w : World) : (zeroValue 31).run Tryz.prog w = .ok (.slice none 0 0) w := by kernel_rfl
/-- What stands at a key. -/
theorem IsOwn.get {w : World} {B mb : Nat} {l : List (Int × List Int)} (h : IsOwn w B mb l) (a : Int) (ha : (Lit.int .i64 a).wf = true) :
    ∃ v, (Instr.lookup 147 (.map (some mb)) (.int .i64 a) false).run Tryz.prog w = .ok v w ∧ w.ownsRow B 3 1 v ((l.lookup a).getD []).length (((l.lookup a).getD []).map fun x => .int .i64 x) ∧ v.ownBlock ≠ some mb := by
  obtain ⟨E, H, rfl⟩ := h
  refine ⟨_, H.map.get Tryz.underlying3 Tryz.underlying147 (zeroSl w) ha, ?_⟩
  unfold owV owL
  rw [lookup_map (fun e : Value × List Int => e.1), lookup_map (fun e : Value × List Int => e.2)]
  cases e : E.lookup a with
  | none => exact ⟨World.ownsRow_nil _ _ _ _, fun q => (nomatch q)⟩
  | some p => exact ⟨H.rows _ (lookup_mem e), H.bm _ (lookup_mem e)⟩
/-- A list at a key, one mark longer. -/
theorem IsOwn.put {w y : World} {B mb : Nat} {l : List (Int × List Int)} (h : IsOwn w B mb l) (uy : Upd (fun _ => False) w y) (a m : Int) (ha : (Lit.int .i64 a).wf = true) (hl : ((l.lookup a).getD []).length ≤ 1000) (hn : l.length ≤ 1000) :
    ∃ v v' w1 w2, (∀ g, v.ownBlock = some g → B ≤ g ∧ g < w.heap.size) ∧ (∀ z, Upd (fun k => v.ownBlock = some k) y z → (Instr.lookup 147 (.map (some mb)) (.int .i64 a) false).run Tryz.prog z = .ok v z) ∧ (∃ a n c, v = .slice a n c ∧ c ≤ 9223372036854775807 ∧ n ≤ c) ∧
      (Builtin.append_ #[31, 31] 31 #[v, .slice (some ⟨y.heap.size, 0, none⟩) 1 1]).run Tryz.prog (y.alloc (.cells #[.int .i64 m] 3 (0, 0))) = .ok v' w1 ∧
      Upd (fun k => v.ownBlock = some k) y w1 ∧
      (Instr.mapUpdate 147 (.map (some mb)) (.int .i64 a) v').run Tryz.prog w1 = .ok () w2 ∧ IsOwn w2 B mb (putM l a ((l.lookup a).getD [] ++ [m])) ∧ Upd (fun k => k = mb ∨ B ≤ k) y w2 := by
  obtain ⟨E, H0, rfl⟩ := h
  have H := H0.upd uy fun _ _ => id
  have hBw : B ≤ y.heap.size := H.base.2
  have hlk : (owV E).lookup a = (E.lookup a).map (·.1) := lookup_map (fun e : Value × List Int => e.1) E a
  have hll : (owL E).lookup a = (E.lookup a).map (·.2) := lookup_map (fun e : Value × List Int => e.2) E a
  have hget := fun z (q : MapIs Tryz.prog 3 z mb (owV E)) => q.get Tryz.underlying3 Tryz.underlying147 (zeroSl z) ha
  obtain ⟨v, hv⟩ : ∃ v, ((owV E).lookup a).getD (.slice none 0 0) = v := ⟨_, rfl⟩
  obtain ⟨xs, hxs⟩ : ∃ xs, ((owL E).lookup a).getD [] = xs := ⟨_, rfl⟩
  have hcase : (E.lookup a = none ∧ v = .slice none 0 0 ∧ xs = []) ∨ ∃ p, E.lookup a = some p ∧ v = p.1 ∧ xs = p.2 := by
    rw [hlk] at hv; rw [hll] at hxs
    cases e : E.lookup a with
    | none => rw [e] at hv hxs; exact .inl ⟨rfl, hv.symm, hxs.symm⟩
    | some p => rw [e] at hv hxs; exact .inr ⟨p, rfl, hv.symm, hxs.symm⟩
  have hrow0 : w.ownsRow B 3 1 v xs.length (xs.map fun x => .int .i64 x) := by
    rcases hcase with ⟨_, rfl, rfl⟩ | ⟨p, e, rfl, rfl⟩
    · exact World.ownsRow_nil _ _ _ _
    · exact H0.rows _ (lookup_mem e)
  have hrow : y.ownsRow B 3 1 v xs.length (xs.map fun x => .int .i64 x) := ownsRow_upd hrow0 uy fun _ _ => id
  have hbm : v.ownBlock ≠ some mb := fun e => by have := (own_lt hrow mb e).1; have := H.base.1; omega
  have hoth : ∀ q ∈ E, q.1 ≠ a → ∀ g, q.2.1.ownBlock = some g → v.ownBlock ≠ some g := by
    rcases hcase with ⟨_, rfl, _⟩ | ⟨p, e, rfl, _⟩
    · exact fun _ _ _ _ _ q => nomatch q
    · intro q hq hne g hg
      exact H.apart q hq _ (lookup_mem e) hne g hg
  rw [hxs] at hl ⊢
  rw [hv] at hget
  obtain ⟨v', w1, r1, o1, u1, n1⟩ := append_one elemI hrow #[.int .i64 m] rfl (by simp [Value.oneCell']) (by unfold maxLen; omega) (by omega) hBw 31 (0, 0)
  have hvB : ∀ g, v.ownBlock = some g → B ≤ g := fun g hg => (own_lt hrow g hg).1
  have u1B : Upd (fun k => k = mb ∨ B ≤ k) y w1 := u1.mono fun k hk => .inr (hvB k hk)
  have hmapw1 : MapIs Tryz.prog 3 w1 mb (owV E) := H.map.upd u1 hbm
  obtain ⟨w2, r2, o2, u2⟩ := hmapw1.put Tryz.underlying3 Tryz.underlying147 (by unfold owV; unfold owL at hn; rw [List.length_map] at hn ⊢; unfold maxLen; omega) ha v'
  have hv' : ∀ g, v'.ownBlock = some g → v.ownBlock = some g ∨ y.heap.size < g := fun g hg => by
    rcases n1 with e | ⟨g', e, hlt⟩
    · exact .inl (by rw [← e]; exact hg)
    · rw [e] at hg; cases hg; exact .inr hlt
  have hdel : ∀ r ∈ delM E a, r ∈ E ∧ r.1 ≠ a := fun r hr => by
    unfold delM at hr
    obtain ⟨h1, h2⟩ := List.mem_filter.1 hr
    exact ⟨h1, by simpa using h2⟩
  refine ⟨v, v', w1, w2, own_lt hrow0, fun z uz => hget z (H.map.upd uz hbm), ?_, r1, u1, r2, ⟨putM E a (v', xs ++ [m]), ⟨?_, fun p hp => ?_, fun p hp q hq hne g hg => ?_, ⟨H.base.1, Nat.le_trans hBw (Nat.le_trans u1.size u2.size)⟩⟩, ?_⟩, u1B.comp u2 fun i hi e => .inl e⟩
  · obtain ⟨a, c, e, hc1, hc2⟩ := own_slice hrow
    exact ⟨a, _, c, e, hc2, hc1⟩
  · have := putM_map (fun e : Value × List Int => e.1) E a (v', xs ++ [m])
    unfold owV at o2 ⊢
    rw [this]
    exact o2
  · unfold putM at hp
    rcases List.mem_cons.1 hp with rfl | hp
    · have : w1.ownsRow B 3 1 v' (xs ++ [m]).length ((xs ++ [m]).map fun x => .int .i64 x) := by
        rw [List.length_append, List.map_append]; exact o1
      refine ownsRow_upd this u2 fun g hg e => ?_
      have := (own_lt this g hg).1
      have := H.base.1
      omega
    · obtain ⟨hp, hne⟩ := hdel p hp
      refine ownsRow_upd (ownsRow_upd (H.rows p hp) u1 fun g hg => hoth p hp hne g hg) u2 fun g hg e => H.bm p hp (by rw [hg, e])
  · unfold putM at hp hq
    rcases List.mem_cons.1 hp with rfl | hp
    · rcases List.mem_cons.1 hq with rfl | hq
      · exact absurd rfl hne
      · obtain ⟨hq, hqa⟩ := hdel q hq
        intro e
        rcases hv' g hg with c | c
        · exact hoth q hq hqa g e c
        · have := (own_lt (H.rows q hq) g e).2; omega
    · obtain ⟨hp, hpa⟩ := hdel p hp
      rcases List.mem_cons.1 hq with rfl | hq
      · intro e
        rcases hv' g e with c | c
        · exact hoth p hp hpa g hg c
        · have := (own_lt (H.rows p hp) g hg).2; omega
      · exact H.apart p hp q (hdel q hq).1 hne g hg
  · have := putM_map (fun e : Value × List Int => e.2) E a (v', xs ++ [m])
    unfold owL
    rw [this]
end Go.Proofs.YtalhmpggpjbeaaaGreatDoor
namespace Go.Proofs.YtalhmpggpjbeaaaGreatDoor
open Go.RowKit Go.Deep

theorem ffork_any {O : Nat → Prop} {b r : Nat} {hs : Hs} {w : World} (h : IsHis w O b r hs) (x y : Int) (hx : (Lit.int .i64 x).wf = true) (hy : (Lit.int .i64 y).wf = true) : Calls Tryz.prog 115 #[.pointer (some ⟨b, 0, none⟩), .int .i64 x, .int .i64 y] w fun e w' => e = .returned (.bool (forkB hs x y)) ∧ w = w' := by
  by_cases he : x = y
  · have t1 : (x != y) = false := by simp [he]
    have HR := hid (show forkB hs x y = false by unfold forkB; rw [t1]; rfl)
    clear he h
    go_enter Tryz.func115, Tryz.ntmps115
    go_wp2_with fail
    go_ret
    exact ⟨by rw [HR.out] <;> rfl, rfl⟩
  have t1 : (x != y) = true := bne_iff_ne.2 he
  obtain ⟨p, hp⟩ : ∃ p, beforeB hs x y = p := ⟨_, rfl⟩
  obtain ⟨q, hq⟩ : ∃ q, beforeB hs y x = q := ⟨_, rfl⟩
  have HR := hid (show forkB hs x y = (!p && !q) by unfold forkB; rw [t1, hp, hq]; rfl)
  have HP := hid hp; have HQ := hid hq; have HH := hid h
  clear he hp hq h
  cases p with
  | true =>
    go_enter Tryz.func115, Tryz.ntmps115
    go_wp2_with fail
    refine (hbefore_any HH.out x y hx hy).mono ?_
    rintro e w' ⟨rfl, rfl⟩
    rw [HP.out]
    go_wp2_with fail
    go_ret
    exact ⟨by rw [HR.out] <;> rfl, rfl⟩
  | false =>
    go_enter Tryz.func115, Tryz.ntmps115
    go_wp2_with fail
    refine (hbefore_any HH.out x y hx hy).mono ?_
    rintro e w' ⟨rfl, rfl⟩
    rw [HP.out]
    go_wp2_with fail
    refine (hbefore_any HH.out y x hy hx).mono ?_
    rintro e w' ⟨rfl, rfl⟩
    rw [HQ.out]
    cases q with
    | true =>
      go_wp2_with fail
      go_ret
      exact ⟨by rw [HR.out] <;> rfl, rfl⟩
    | false =>
      go_wp2_with fail
      go_ret
      exact ⟨by rw [HR.out] <;> rfl, rfl⟩
/-- A map of the entries of each author. -/
def OwnPost (hs : Hs) (w : World) (e : Ending) (w' : World) : Prop :=
  ∃ mb C, e = .returned (.map (some mb)) ∧ IsOwn w' C mb (ownL hs (sortedF hs (marksF hs))) ∧ w.heap.size ≤ mb ∧ mb < C ∧ Upd (fun _ => False) w w'
theorem IsOwn.base {w : World} {C mb : Nat} {l : List (Int × List Int)} (h : IsOwn w C mb l) : mb < C ∧ C ≤ w.heap.size := let ⟨_, h1, _⟩ := h; h1.base
theorem ownL_few {h : Hs} {R : Rg} (H : His rdF R h) (hR : R.length ≤ 60) (k : Nat) : (ownL h ((sortedF h (marksF h)).take k)).length ≤ 100 ∧ ∀ a, (((ownL h ((sortedF h (marksF h)).take k)).lookup a).getD []).length ≤ 100 := by
  have h1 := (sorted_all H (ms := marksF h) fun m q => (mem_marksF h m).2 q).length_eq
  have h2 : (marksF h).length = h.length := by unfold marksF; rw [(sortI_perm _).length_eq, List.length_map]
  have h3 := H.len
  have h4 : ((sortedF h (marksF h)).take k).length ≤ 60 := by rw [List.length_take]; omega
  constructor
  · have : ∀ (ms : List Int) (l : List (Int × List Int)), (l.map Prod.fst).Nodup → (ms.foldl (ownStep h) l).length ≤ l.length + ms.length := by
      intro ms
      induction ms with
      | nil => intro l _; exact Nat.le_refl _
      | cons m ms ih =>
        intro l q
        have h1 := ih (ownStep h l m) (nodup_put q _ _)
        have h2 := len_put q (entM h m).author ((l.lookup (entM h m).author).getD [] ++ [m])
        rw [List.foldl_cons]
        unfold ownStep at h1 ⊢
        rw [List.length_cons]
        split at h2 <;> omega
    have h5 := this ((sortedF h (marksF h)).take k) [] List.nodup_nil
    unfold ownL
    simp only [List.length_nil] at h5
    omega
  · intro a
    rw [ownL_look]
    split
    · exact Nat.zero_le _
    · have := List.length_filter_le (fun m => (entM h m).author == a) ((sortedF h (marksF h)).take k)
      rw [Option.getD_some]
      omega
theorem mark_wf {h : Hs} {R : Rg} (H : His rdF R h) (hR : R.length ≤ 60) {m : Int} (hm : (idxF h m).isSome) : 0 ≤ m ∧ m ≤ 100 := by
  obtain ⟨i, hi⟩ := Option.isSome_iff_exists.1 hm
  obtain ⟨li, e⟩ := idx_some hi
  have := mark_range H _ (List.getElem_mem li)
  rw [e] at this
  omega
theorem RgOk.key {R : Rg} (h : RgOk R) : ∀ p ∈ R, 0 ≤ p.1 ∧ p.1 < 200 := fun p hp => ⟨(h.ok p hp).1, (h.ok p hp).2.1⟩
theorem ent_author {h : Hs} {R : Rg} (H : His rdF R h) (hk : RgOk R) {m : Int} : 0 ≤ (entM h m).author ∧ (entM h m).author < 200 := by
  unfold entM
  cases e : idxF h m with
  | none => exact (show (0 : Int) ≤ 0 ∧ (0 : Int) < 200 from ⟨by decide, by decide⟩)
  | some i =>
    obtain ⟨li, _⟩ := idx_some e
    dsimp only
    rw [List.getElem?_eq_getElem li]
    exact author_key H hk.key _ (List.getElem_mem li)
theorem en_field0 (g : Nat) (w : World) : (Instr.fieldAt 39 (.pointer (some ⟨g, 0, none⟩)) 0).run Tryz.prog w = .ok (.pointer (some ⟨g, 0, none⟩)) w := by
  unfold Instr.fieldAt
  go_simp
theorem intl_load0 {w : World} {p : Addr} {x : Int} (h : w.cell? p = some (.int .i64 x)) : (Instr.loadAt 3 (.pointer (some p))).run Tryz.prog w = .ok (.int .i64 x) w := by
  unfold Instr.loadAt
  go_simp
set_option maxRecDepth 100000 in
set_option maxHeartbeats 4000000 in
theorem fown_any {O : Nat → Prop} {b r : Nat} {hs : Hs} {R : Rg} {w : World} (h : IsHis w O b r hs) (H : His rdF R hs) (hk : RgOk R) (hR : R.length ≤ 60) : Calls Tryz.prog 109 #[.pointer (some ⟨b, 0, none⟩)] w (OwnPost hs w) := by
  have HH := hid h; have HX := hid H; have HK := hid hk; have HR := hid hR
  have HLT := hid h.lt
  clear h H hk hR
  have hmk : ∀ w, (Instr.makeMap 147 none).run Tryz.prog w = .ok (.map (some w.heap.size)) (w.alloc (.map #[] 0)) := fun w => run_makeMap _ w
  go_enter Tryz.func109, Tryz.ntmps109
  go_wp2_with fail
  obtain ⟨x1, hx1⟩ : ∃ x1, w.alloc (.map #[] 0) = x1 := ⟨_, rfl⟩
  have UA := hid (show Upd (fun _ => False) w x1 by rw [← hx1]; exact (Upd.refl _ _).alloc _)
  have X1 := hid hx1
  rw [hx1]
  clear hx1 hmk
  refine (hmarks_any (HH.out.keep UA.out)).mono ?_
  rintro en x2 ⟨vm, rfl, ho, u⟩
  have RM := hid (ints_rep ho fun x hx => by have := mark_wf HX.out HR.out ((mem_marksF hs x).1 hx); unfold I64; omega)
  have U2 := hid u
  obtain ⟨am, cm, rfl, _, _⟩ := own_slice ho
  clear ho u
  go_wp2_with fail
  refine (hsorted_any ((HH.out.keep UA.out).keep U2.out) HX.out HR.out _ _ (marksF hs) RM.out).mono ?_
  rintro en x3 ⟨vs, rfl, ho, u⟩
  have U3 := hid (U2.out.trans u)
  obtain ⟨sa, cs, rfl, hs1, hs2⟩ := own_slice ho
  have hs2 : cs ≤ 9223372036854775807 := hs2
  have OW := hid ho
  have MI := hid (show ∀ m ∈ sortedF hs (marksF hs), (idxF hs m).isSome from fun m hm => (((sorted_ok HX.out _).2 m).1 hm).2)
  have SL := hid (show (sortedF hs (marksF hs)).length ≤ 60 by
    rw [(sorted_all HX.out (ms := marksF hs) fun m q => (mem_marksF hs m).2 q).length_eq]
    unfold marksF
    rw [(sortI_perm _).length_eq, List.length_map]
    exact Nat.le_trans HX.out.len HR.out)
  have START := hid (show IsOwn x3 x3.heap.size w.heap.size (ownL hs ((sortedF hs (marksF hs)).take 0)) by
    have := U3.out
    rw [← X1.out] at this
    rw [List.take_zero]
    exact IsOwn.made this)
  have HS := hid ((HH.out.keep UA.out).keep U3.out)
  have SZ := hid (show w.heap.size + 1 ≤ x2.heap.size by
    have h1 := U2.out.size
    rw [← X1.out] at h1
    simpa using h1)
  have UW3 := hid (UA.out.trans U3.out)
  obtain ⟨L, hL⟩ : ∃ L, sortedF hs (marksF hs) = L := ⟨_, rfl⟩
  have HLE := hid hL
  obtain ⟨N, hN⟩ : ∃ N, L.length = N := ⟨_, rfl⟩
  have HN := hid hN
  rw [hL] at OW MI SL START hs1 ⊢
  rw [hN] at hs1 ⊢
  have hN60 : N ≤ 60 := by rw [← hN]; exact SL.out
  clear ho u hL hN RM UA X1
  go_wp2_with fail
  go_loopg [14] N (fun gg s14 wr => ∃ k : Nat, k ≤ N ∧ gg = N - k ∧ s14 = .int .i64 k ∧ IsOwn wr x3.heap.size w.heap.size (ownL hs (L.take k)) ∧ Upd (fun j => j = w.heap.size ∨ x3.heap.size ≤ j) x3 wr)
  case atStart => exact ⟨0, Nat.zero_le _, rfl, rfl, START.out, Upd.refl _ _⟩
  case round =>
    obtain ⟨k, hk, hg, rfl, ho, hu⟩ := hrel
    have OWN := hid ho; have UP := hid hu; have HG := hid hg
    clear ho hu hg START
    have UWR := hid (show Upd (fun _ => False) w wr from UW3.out.comp UP.out fun i hi e => by have := UW3.out.size; omega)
    have HISR := hid (HS.out.upd UP.out fun j hj e => by have := (HLT.out j hj).2; have := UW3.out.size; omega)
    by_cases hlt : k < N
    case neg =>
      have hlti : ¬ (k : Int) < N := by omega
      have HKN := hid (show L.take k = sortedF hs (marksF hs) by rw [HLE.out]; exact List.take_of_length_le (by rw [HN.out]; omega))
      go_wp2_with fail
      go_ret
      have q := OWN.out
      rw [HKN.out] at q
      exact ⟨_, _, rfl, q, Nat.le_refl _, q.base.1, UWR.out⟩
    have hlti : (k : Int) < N := by omega
    have hk1 : (k : Int) + 1 ≤ 1000 := by omega
    have hkl : k < L.length := by rw [HN.out]; exact hlt
    obtain ⟨g, o, rfl, hcell⟩ : ∃ g o, sa = some ⟨g, o, none⟩ ∧ wr.cell? ⟨g, o + k, none⟩ = some (.int .i64 L[k]) := by
      have row := ownsRow_upd OW.out UP.out fun g hg e => by
        have := own_lt OW.out g hg
        have := SZ.out
        omega
      obtain ⟨a, c, e, _, _, h3⟩ := slice_open (ints_rep row fun x hx => by have := mark_wf HX.out HR.out (MI.out x hx); unfold I64; omega)
      obtain ⟨g, o, ea, _, hel⟩ := h3 (by omega)
      injection e with e1 _ _
      exact ⟨g, o, by rw [e1, ea], int_cells hel hkl⟩
    obtain ⟨m, hm⟩ : ∃ m, L[k] = m := ⟨_, rfl⟩
    have MS := hid (show (idxF hs m).isSome from hm ▸ MI.out _ (List.getElem_mem hkl))
    have MW := hid (show (Lit.int .i64 m).wf = true from iwf (by have := mark_wf HX.out HR.out MS.out; omega))
    have STEP := hid (show ownL hs (L.take (k + 1)) = ownStep hs (ownL hs (L.take k)) m by rw [List.take_succ_eq_append_getElem hkl, ownL_snoc, hm])
    rw [hm] at hcell
    clear hm
    go_wp2_with fail
    refine (hentry_any HISR.out HX.out m MW.out).mono ?_
    rintro en y1 ⟨a1, a2, a3, c1, c2, c3, rfl, _, u⟩
    rw [ent_entry]
    obtain ⟨x, hx⟩ : ∃ x, entM hs m = x := ⟨_, rfl⟩
    have AW := hid (show (Lit.int .i64 x.author).wf = true from iwf (by have := ent_author HX.out HK.out (m := m); rw [hx] at this; omega))
    have HXE := hid hx
    rw [hx]
    obtain ⟨W3, hW3⟩ : ∃ W3, W3 = y1.alloc (.cells (en13 x a1 a2 a3 c1 c2 c3) 39 (0, 0)) := ⟨_, rfl⟩
    have u3 : Upd (fun _ => False) y1 W3 := by rw [hW3]; exact (Upd.refl _ _).alloc _
    obtain ⟨eb, heb⟩ : ∃ eb, y1.heap.size = eb := ⟨_, rfl⟩
    have EB := hid (show W3.heap[eb]? = some (.cells (en13 x a1 a2 a3 c1 c2 c3) 39 (0, 0)) by rw [hW3, ← heb]; exact heap_alloc_new)
    have U3W := hid (u.trans u3)
    have EBL := hid (show wr.heap.size ≤ eb by rw [← heb]; exact u.size)
    have HW3 := hid hW3; have HEB := hid heb
    clear hx hW3 heb u u3 hcell
    unfold enV
    go_upto_region 6 with (fail)
    rw [← (show W3 = y1.alloc (.cells #[.int .i64 x.author, .int .i64 x.seq, .int .i64 x.day, .slice a1 x.knows.length c1, .int .i64 x.kind, .int .i64 x.circle, .int .i64 x.who, .int .i64 x.n, .int .i64 x.m, .int .i64 x.ref, .slice a2 x.keys.length c2, .slice a3 x.spans.length c3, .string ⟨x.text.toArray⟩] 39 (0, 0)) from HW3.out)]
    try rw [HEB.out]
    clear HW3 HEB
    obtain ⟨W4, hW4⟩ : ∃ W4, W3.drew = W4 := ⟨_, rfl⟩
    have U4W := hid (show Upd (fun _ => False) wr W4 by rw [← hW4]; exact U3W.out.drew)
    have EB4 := hid (show W4.heap[eb]? = some (.cells (en13 x a1 a2 a3 c1 c2 c3) 39 (0, 0)) by rw [← hW4]; exact EB.out)
    obtain ⟨v, v', w5, w6, hvb, hlk, ⟨va, vn, vc, rfl, hvc, hvn⟩, hap, hu5, hmu, hown, hu6⟩ := OWN.out.put U4W.out x.author m AW.out (Nat.le_trans ((ownL_few HX.out HR.out k).2 x.author |> fun q => by rw [HLE.out] at q; exact q) (by decide : (100 : Nat) ≤ 1000)) (Nat.le_trans ((ownL_few HX.out HR.out k).1 |> fun q => by rw [HLE.out] at q; exact q) (by decide : (100 : Nat) ≤ 1000))
    have HVB := hid hvb; have HLK := hid hlk; have U5 := hid hu5; have OWN6 := hid hown; have U6 := hid hu6; have HAP := hid hap; have HMU := hid hmu
    clear hvb hlk hu5 hown hu6
    refine wp_region_g (fun w' => w'.cell? ⟨eb, 0, none⟩ = some (.int .i64 x.author) ∧ (Instr.lookup 147 (.map (some w.heap.size)) (.int .i64 x.author) false).run Tryz.prog w' = .ok (.slice va vn vc) w') 10 (by kernel_rfl) ?_
    rw [hW4]
    clear hW4
    have KEEP := hid (fun (z : World) (u : Upd (fun j => Value.ownBlock (.slice va vn vc) = some j) W4 z) => (show z.cell? ⟨eb, 0, none⟩ = some (.int .i64 x.author) ∧ (Instr.lookup 147 (.map (some w.heap.size)) (.int .i64 x.author) false).run Tryz.prog z = .ok (.slice va vn vc) z from
      ⟨by rw [cell_of_block ((u.block eb (heap_lt EB4.out) fun e => by have := (HVB.out eb e).2; have := EBL.out; omega).trans EB4.out)]; rfl, HLK.out z u⟩))
    have hS := KEEP.out W4 (Upd.refl _ _)
    refine g_take0 (i := 0) rfl (by kernel_rfl) (by kernel_rfl) (by kernel_rfl) (by decide) (fun _ _ _ h => h) (yields_move (by kernel_rfl) _ rfl rfl) (fun _ => hS) ?_
    (try simp only [List.getElem_toArray, List.getElem_cons_zero, List.getElem_cons_succ])
    (try go_frame)
    refine g_take0 (i := 1) rfl (by kernel_rfl) (by kernel_rfl) (by kernel_rfl) (by decide) (fun _ _ _ h => h) (yields_field (by kernel_rfl) _ _ _ rfl rfl (fun w _ => en_field0 _ w)) (fun _ => hS) ?_
    (try simp only [List.getElem_toArray, List.getElem_cons_zero, List.getElem_cons_succ])
    (try go_frame)
    refine g_take (i := 2) rfl (by kernel_rfl) (by kernel_rfl) (by kernel_rfl) (by kernel_rfl) (fun _ _ _ h => h) (yields_load (by kernel_rfl) _ _ rfl rfl (fun w hw => intl_load0 hw.1)) hS ?_
    (try simp only [List.getElem_toArray, List.getElem_cons_zero, List.getElem_cons_succ])
    (try go_frame)
    refine g_take0 (i := 3) rfl (by kernel_rfl) (by kernel_rfl) (by kernel_rfl) (by decide) (fun _ _ _ h => h) (yields_move (by kernel_rfl) _ rfl rfl) (fun _ => hS) ?_
    (try simp only [List.getElem_toArray, List.getElem_cons_zero, List.getElem_cons_succ])
    (try go_frame)
    refine g_take0 (i := 4) rfl (by kernel_rfl) (by kernel_rfl) (by kernel_rfl) (by decide) (fun _ _ _ h => h) (yields_field (by kernel_rfl) _ _ _ rfl rfl (fun w _ => en_field0 _ w)) (fun _ => hS) ?_
    (try simp only [List.getElem_toArray, List.getElem_cons_zero, List.getElem_cons_succ])
    (try go_frame)
    refine g_take (i := 5) rfl (by kernel_rfl) (by kernel_rfl) (by kernel_rfl) (by kernel_rfl) (fun _ _ _ h => h) (yields_load (by kernel_rfl) _ _ rfl rfl (fun w hw => intl_load0 hw.1)) hS ?_
    (try simp only [List.getElem_toArray, List.getElem_cons_zero, List.getElem_cons_succ])
    (try go_frame)
    refine g_take (i := 6) rfl (by kernel_rfl) (by kernel_rfl) (by kernel_rfl) (by kernel_rfl) (fun _ _ _ h => h) (yields_lookup (by kernel_rfl) _ _ _ _ rfl rfl rfl (fun w hw => hw.2)) hS ?_
    (try simp only [List.getElem_toArray, List.getElem_cons_zero, List.getElem_cons_succ])
    (try go_frame)
    refine g_take0 (i := 7) rfl (by kernel_rfl) (by kernel_rfl) (by kernel_rfl) (by decide) (fun _ _ _ h => h) (yields_move (by kernel_rfl) _ rfl rfl) (fun _ => hS) ?_
    (try simp only [List.getElem_toArray, List.getElem_cons_zero, List.getElem_cons_succ])
    (try go_frame)
    have hS5 := KEEP.out (W4.alloc (.cells #[.int .i64 m] 3 (0, 0))) ((Upd.refl _ _).alloc _)
    have hS6 := KEEP.out w5 U5.out
    refine g_op (i := 8) (by kernel_rfl) rfl ?_
    go_wp2_with fail
    try with_reducible refine And.intro (fun _ => hS5) ?_
    refine g_op (i := 9) (by kernel_rfl) rfl ?_
    refine wpList_append_run rfl _ _ _ _ rfl rfl rfl HAP.out ?_
    go_wp2_with fail
    try with_reducible refine And.intro (fun _ => hS6) ?_
    refine g_op (i := 10) (by kernel_rfl) rfl ?_
    go_wp2_with fail
    try with_reducible refine And.intro (fun h => absurd h (by simp)) ?_
    refine g_done (by kernel_rfl) ?_
    go_wp2_with fail
    go_roundg (N - (k + 1))
    case measure => have := HG.out; omega
    case rel =>
      refine ⟨k + 1, by omega, rfl, by go_num, ?_, ?_⟩
      · rw [STEP.out]
        unfold ownStep
        rw [HXE.out]
        exact OWN6.out
      · exact UP.out.trans ((U4W.out.mono fun _ q => q.elim).trans U6.out)
end Go.Proofs.YtalhmpggpjbeaaaGreatDoor
namespace Go.Proofs.YtalhmpggpjbeaaaGreatDoor
open Go.RowKit Go.Deep

def prV (p : Int × Int) : Value := .agg #[.int .i64 p.1, .int .i64 p.2]
set_option maxRecDepth 1000000 in
set_option maxHeartbeats 4000000 in
theorem fpair_any {O : Nat → Prop} {b r : Nat} {hs : Hs} {w : World} (h : IsHis w O b r hs) (A : Nat → Prop) (v : Value) (l : List Int) (hl : kInts.rep A w [v] l) (hm : ∀ m ∈ l, 0 ≤ m ∧ m ≤ 100) (hA : ∀ g, A g → g < w.heap.size) : Calls Tryz.prog 112 #[.pointer (some ⟨b, 0, none⟩), v] w fun e w' => e = .returned (.tuple #[prV ((pairF hs l).getD (0, 0)), .bool (pairF hs l).isSome]) ∧ Upd (fun _ => False) w w' := by
  obtain ⟨a, cap, rfl, p1, p2, p3⟩ := slice_open hl
  have p2 : cap ≤ 9223372036854775807 := p2
  have MW := hid (fun m (q : m ∈ l) => (show (Lit.int .i64 m).wf = true from iwf (by have := hm m q; omega)))
  obtain ⟨W, hW⟩ : ∃ W, W = w.alloc (.cells #[.int .i64 0, .int .i64 0] 93 (0, 0)) := ⟨_, rfl⟩
  have u : Upd (fun _ => False) w W := by rw [hW]; exact (Upd.refl _ _).alloc _
  have HB := hid (show W.heap[w.heap.size]? = some (.cells #[.int .i64 0, .int .i64 0] 93 (0, 0)) by rw [hW]; exact heap_alloc_new)
  have CELL := hid (fun (hp : 0 < l.length) => (show ∃ g o, a = some ⟨g, o, none⟩ ∧ ∀ k (hk : k < l.length), W.cell? ⟨g, o + k, none⟩ = some (.int .i64 l[k]) from by
    obtain ⟨g, o, e, hg, hel⟩ := p3 hp
    exact ⟨g, o, e, fun k hk => cell_kept (int_cells hel hk) (u.block g (hA g hg) id)⟩))
  have HH := hid (h.keep u); have U := hid u; have HW := hid hW
  obtain ⟨N, hN⟩ : ∃ N, l.length = N := ⟨_, rfl⟩
  have HN := hid hN
  rw [hN] at p1 ⊢
  have hN1 : N ≤ 9223372036854775806 ∨ N = 9223372036854775807 := by omega
  clear hl hm hA h u hW p3 hN
  go_enter Tryz.func112, Tryz.ntmps112
  go_wp2_with fail
  rw [← HW.out]
  go_loopg [12] N (fun gg s12 wr => ∃ i : Nat, i ≤ N ∧ gg = N - i ∧ s12 = .int .i64 i ∧ (∀ a ∈ l.take i, ∀ b ∈ l, forkB hs a b = false) ∧ W = wr)
  case atStart => exact ⟨0, Nat.zero_le _, rfl, rfl, fun a ha => (by rw [List.take_zero] at ha; cases ha), rfl⟩
  case round =>
    obtain ⟨i, hi, hg, rfl, hf, rfl⟩ := hrel
    have HG := hid hg; have HF := hid hf
    clear hg hf
    by_cases hlt : i < N
    case neg =>
      have hlti : ¬ (i : Int) < N := by omega
      obtain ⟨r0, r1, rf⟩ := cells2 HB.out
      have HR := hid (pair_no (h := hs) (l := l) (fun a ha => HF.out a (by rw [List.take_of_length_le (by rw [HN.out]; omega)]; exact ha)))
      go_wp2_with fail
      refine bodyPost_ret (v := .tuple #[.agg #[.int .i64 0, .int .i64 0], .bool false]) (by rw [results_cell_tmp rfl]; go_simp) rfl ?_
      exact ⟨by rw [HR.out]; rfl, by repeat (first | exact U.out | (refine Upd.set0 ?_ _ _) | exact Upd.refl _ _)⟩
    have hlti : (i : Int) < N := by omega
    have hil : i < l.length := by rw [HN.out]; exact hlt
    obtain ⟨g, o, rfl, hcell⟩ := CELL.out (by omega)
    have CE := hid hcell
    have hi1 : (i : Int) + 1 ≤ 9223372036854775807 := by omega
    have m0 := hcell i hil
    obtain ⟨x, hx⟩ : ∃ x, l[i] = x := ⟨_, rfl⟩
    have HX := hid hx
    have XW := hid (show (Lit.int .i64 x).wf = true from hx ▸ MW.out _ (List.getElem_mem hil))
    rw [hx] at m0
    clear hcell hx
    go_wp2_with fail
    clear m0
    go_loopg [18] N (fun gg s18 wx => ∃ j : Nat, j ≤ N ∧ gg = N - j ∧ s18 = .int .i64 j ∧ (∀ b ∈ l.take j, forkB hs x b = false) ∧ W = wx)
    case atStart => exact ⟨0, Nat.zero_le _, rfl, rfl, fun a ha => (by rw [List.take_zero] at ha; cases ha), rfl⟩
    case round =>
      obtain ⟨j, hj, hg, rfl, hf, rfl⟩ := hrel
      have HGJ := hid hg; have HFJ := hid hf
      clear hg hf
      by_cases hlj : j < N
      case neg =>
        have hlji : ¬ (j : Int) < N := by omega
        go_wp2_with fail
        go_roundg (N - (i + 1))
        case measure => have := HG.out; omega
        case rel =>
          refine ⟨i + 1, by omega, rfl, by go_num, ?_, rfl⟩
          refine take_next (P := fun a => ∀ b ∈ l, forkB hs a b = false) hil HF.out ?_
          rw [HX.out]
          intro b hb
          exact HFJ.out b (by rw [List.take_of_length_le (by rw [HN.out]; omega)]; exact hb)
      have hlji : (j : Int) < N := by omega
      have hjl : j < l.length := by rw [HN.out]; exact hlj
      have hj1 : (j : Int) + 1 ≤ 9223372036854775807 := by omega
      have m0 := CE.out j hjl
      obtain ⟨y, hy⟩ : ∃ y, l[j] = y := ⟨_, rfl⟩
      have HY := hid hy
      have YW := hid (show (Lit.int .i64 y).wf = true from hy ▸ MW.out _ (List.getElem_mem hjl))
      rw [hy] at m0
      clear hy
      go_wp2_with fail
      refine (ffork_any HH.out x y XW.out YW.out).mono ?_
      rintro e w' ⟨rfl, rfl⟩
      obtain ⟨fb, hfb⟩ : ∃ fb, forkB hs x y = fb := ⟨_, rfl⟩
      have HFB := hid hfb
      rw [hfb]
      clear hfb m0
      cases fb with
      | false =>
        go_wp2_with fail
        go_roundg (N - (j + 1))
        case measure => have := HGJ.out; omega
        case rel =>
          refine ⟨j + 1, by omega, rfl, by go_num, ?_, rfl⟩
          refine take_next (P := fun b => forkB hs x b = false) hjl HFJ.out ?_
          rw [HY.out]
          exact HFB.out
      | true =>
        obtain ⟨r0, r1, rf⟩ := cells2 HB.out
        have HR := hid (show pairF hs l = some (x, y) by
          have := pair_at (h := hs) hil hjl HF.out (by rw [HX.out]; exact HFJ.out) (by rw [HX.out, HY.out]; exact HFB.out)
          rw [HX.out, HY.out] at this
          exact this)
        go_wp2_with fail
        refine bodyPost_ret (v := .tuple #[.agg #[.int .i64 x, .int .i64 y], .bool true]) (by rw [results_cell_tmp rfl]; go_simp) rfl ?_
        exact ⟨by rw [HR.out]; rfl, by repeat (first | exact U.out | (refine Upd.set0 ?_ _ _) | exact Upd.refl _ _)⟩
end Go.Proofs.YtalhmpggpjbeaaaGreatDoor
namespace Go.Proofs.YtalhmpggpjbeaaaGreatDoor
open Go.RowKit Go.Deep Go.Maps Go.Sort Go.Shelf

/-! ## maps.Keys, slices.Sorted -/
theorem sortsK (m : Nat) : AnyZI.SortsIn Tryz.prog Tryz.sortedA_ren Fence.wide m :=
  ⟨fun blk off cap ss W hH hblk hsz => callsIn_wide.2 (AnyM.slices_Sort_int Tryz.sortI blk off cap ss W hH hblk hsz),
   fun p cap W => callsIn_wide.2 (AnyM.slices_Sort_int_none Tryz.sortI p cap W)⟩
theorem keys_perm {w : World} {bm : Nat} {l : List (Int × Value)} {D : DataW Value} (hn : (l.map Prod.fst).Nodup) (ho : w.ownsMap Tryz.prog 3 RV bm l.length D)
    (h1 : ∀ x v, l.lookup x = some v → Maps.has D (.int .i64 x) = true ∧ ∀ z, D.atKey (.int .i64 x) z = .held v) (h2 : ∀ x, l.lookup x = none → Maps.has D (.int .i64 x) = false) : (l.map Prod.fst).Perm (intKeys D) :=
  CollectedI.perm (left := fun _ => false) ⟨hn, fun x => by
    cases hl : l.lookup x with
    | none =>
      have h3 := h2 x hl
      have h4 := lookup_none_iff.1 hl
      constructor
      · intro h; exact absurd h h4
      · intro h; rw [h3] at h; cases h.1
    | some v =>
      have h3 := (h1 x v hl).1
      exact ⟨fun _ => ⟨h3, rfl⟩, fun _ => List.mem_map.2 ⟨_, lookup_mem hl, rfl⟩⟩⟩ ho (int_keyed Tryz.underlying3) Tryz.underlying3 fun _ => rfl
theorem fkeys_any (mb : Option Nat) (W : World) : Calls Tryz.prog 111 #[.map mb] W fun e w' => e = .returned (.func (.func 157) #[] #[.pointer (some ⟨W.heap.size, 0, none⟩)]) ∧ w' = W.alloc (.cells #[.map mb] 147) :=
  callsIn_wide.1 (AnyZI.keys_in Tryz.keysA Fence.wide 5 trivial rfl mb W)
theorem fsorted_any {w : World} {bm : Nat} {l : List (Int × Value)} (M : MapIs Tryz.prog 3 w bm l) (hl : l.length ≤ 1000000) {ks : List Int} (hks : (l.map Prod.fst).mergeSort leI = ks) :
    Calls Tryz.prog 110 #[.func (.func 157) #[] #[.pointer (some ⟨w.heap.size, 0, none⟩)]] (w.alloc (.cells #[.map (some bm)] 147)) fun e w' => ∃ v, e = .returned v ∧ w'.ownsRow w.heap.size 3 1 v ks.length (ks.map fun x => .int .i64 x) ∧ Upd (fun _ => False) w w' := by
  obtain ⟨hnd, D0, hown, hsz, h1, h2⟩ := M
  have hperm := keys_perm hnd hown h1 h2
  have hmax : Maps.size D0 ≤ maxLen := by rw [hsz]; unfold maxLen; omega
  have hbytes : Maps.size D0 * 8 ≤ 140737488355328 := by rw [hsz]; omega
  have hbl := hown.lt
  have hseq : SeqGives Fence.wide 2 Tryz.prog 157 #[.pointer (some ⟨w.heap.size, 0, none⟩)] encZ (fun ss => ss.Perm (intKeys D0)) (Maps.size D0) (w.alloc (.cells #[.map (some bm)] 147)) :=
    AnyZI.keys_gives (ρ := Tryz.keysA_ren) { Tryz.keysA with } Fence.wide _ trivial rfl (by omega) w.heap.size bm l.length D0 _ (by simp) (by simp) (by
      obtain ⟨es, clock, hb, Ft, hs, hD⟩ := hown
      exact ⟨es, clock, (Below.heap_alloc _ _ bm hbl).trans hb, Ft, hs, hD⟩)
  have cS := AnyZI.sorted_in Tryz.sortedA Fence.wide 5 trivial trivial trivial trivial rfl (by omega) (sortsK _) (enters_of Tryz.func80 (by kernel_rfl) rfl) 157 #[.pointer (some ⟨w.heap.size, 0, none⟩)] trivial (enters_of Tryz.func157 (by kernel_rfl) rfl) _ _ hmax hbytes _ hseq
  change CallsIn _ _ Tryz.prog 110 _ _ _ at cS
  refine (callsIn_wide.1 cS).mono ?_
  rintro e w' ⟨v, ss, rfl, hS, hrow, hnil, hb⟩
  have hrow' := ownsRow_base_a hrow (Nat.le_of_lt (by simp : w.heap.size < (w.alloc (.cells #[.map (some bm)] 147)).heap.size))
  have hss : ss.mergeSort leI = ks := (mergeSort_of_perm_i (hS.trans hperm.symm)).trans hks
  have hl2 : ss.length = ks.length := by rw [← hss, List.length_mergeSort]
  refine ⟨v, rfl, by rw [← hl2, ← hss]; exact hrow', Upd.of_below (((Below.refl _ w).alloc (Nat.le_refl _) _).trans (hb.mono (by simp))) fun k hk _ => hk⟩
end Go.Proofs.YtalhmpggpjbeaaaGreatDoor
namespace Go.Proofs.YtalhmpggpjbeaaaGreatDoor
open Go.RowKit Go.Deep

/-! ## Rows of pairs -/
def prCells (p : Int × Int) : List Value := [.int .i64 p.1, .int .i64 p.2]
def prFlat (l : List (Int × Int)) : List Value := (l.map prCells).flatten
theorem prFlat_snoc (l : List (Int × Int)) (p : Int × Int) : prFlat (l ++ [p]) = prFlat l ++ prCells p := by unfold prFlat; simp
theorem prFlat_get (l : List (Int × Int)) (i : Nat) (h : i < l.length) (j : Nat) (hj : j < 2) : (prFlat l)[i * 2 + j]? = (prCells l[i])[j]? := flat_get (f := prCells) (n := 2) (fun _ => rfl) l i h j hj
def PrsAt (w : World) (B : Nat) (v : Value) (l : List (Int × Int)) : Prop := w.ownsRow B 93 2 v l.length (prFlat l)
theorem PrsAt.get {w : World} {B : Nat} {v : Value} {l : List (Int × Int)} (h : PrsAt w B v l) (hp : 0 < l.length) : ∃ g cap, v = .slice (some ⟨g, 0, none⟩) l.length cap ∧ l.length ≤ cap ∧ cap ≤ maxLen ∧ B ≤ g ∧ g < w.heap.size ∧
    ∀ i (hi : i < l.length), w.cell? ⟨g, i * 2, none⟩ = some (.int .i64 l[i].1) ∧ w.cell? ⟨g, i * 2 + 1, none⟩ = some (.int .i64 l[i].2) := by
  obtain ⟨h1, ⟨h2, h3⟩ | ⟨g, cap, cur, hv, hb, hg, hn, hc, hs, ht⟩⟩ := h
  · omega
  · refine ⟨g, cap, hv, hn, hc, hb, heap_lt hg, fun i hi => ?_⟩
    have key : ∀ j, j < 2 → w.cell? ⟨g, i * 2 + j, none⟩ = (prCells l[i])[j]? := fun j hj => by
      rw [cell_of_block hg, ← prFlat_get l i hi j hj, ← ht, List.getElem?_take, if_pos, Array.getElem?_toList]
      calc i * 2 + j < i * 2 + 2 := by omega
        _ = (i + 1) * 2 := by omega
        _ ≤ l.length * 2 := Nat.mul_le_mul_right _ hi
    exact ⟨key 0 (by decide), key 1 (by decide)⟩
theorem elemPr : ElemTy Tryz.prog 83 93 2 16 := ElemTy.mk' (z := .agg #[.int .i64 0, .int .i64 0]) Tryz.underlying83 (by kernel_rfl) (by rfl) (by decide)
def PrsPost (l : List (Int × Int)) (w : World) (e : Ending) (w' : World) : Prop := ∃ v, e = .returned v ∧ PrsAt w' w.heap.size v l ∧ Upd (fun _ => False) w w'
theorem prs_lt {w : World} {B : Nat} {v : Value} {l : List (Int × Int)} (h : PrsAt w B v l) : ∀ g, v.ownBlock = some g → B ≤ g ∧ g < w.heap.size := by
  intro g hg
  rcases ownsRow_fits h with ⟨rfl, _⟩ | ⟨g', cap, rfl, h1, h2, _⟩
  · cases hg
  · cases hg; exact ⟨h1, h2⟩
theorem prs_slice {w : World} {B : Nat} {v : Value} {l : List (Int × Int)} (h : PrsAt w B v l) : ∃ a c, v = .slice a l.length c ∧ l.length ≤ c ∧ c ≤ maxLen := own_slice h

theorem Upd.shut {S : Nat → Prop} {a b : World} (u : Upd S a b) (h : ∀ i, i < a.heap.size → ¬ S i) : Upd (fun _ => False) a b := ⟨u.os, u.tape, u.output, u.size, fun i hi _ => u.block i hi (h i hi)⟩

/-! ## Forks -/
def forksTo (h : Hs) (k : Nat) : List (Int × Int) := ((authorsF h).take k).filterMap fun a => pairF h (ownF h a)
theorem forksTo_all {h : Hs} {k : Nat} (hk : (authorsF h).length ≤ k) : forksTo h k = forksF h := by unfold forksTo forksF; rw [List.take_of_length_le hk]
theorem forksTo_succ {h : Hs} {k : Nat} (hk : k < (authorsF h).length) : forksTo h (k + 1) = forksTo h k ++ (pairF h (ownF h (authorsF h)[k])).toList := by
  unfold forksTo
  rw [List.take_succ_eq_append_getElem hk, List.filterMap_append]
  congr 1
theorem forksTo_len (h : Hs) (k : Nat) : (forksTo h k).length ≤ k := by
  unfold forksTo
  refine Nat.le_trans (List.length_filterMap_le _ _) ?_
  rw [List.length_take]
  omega
theorem authors_key {h : Hs} {R : Rg} (H : His rdF R h) (hk : RgOk R) : ∀ a ∈ authorsF h, 0 ≤ a ∧ a < 200 := by
  intro a ha
  unfold authorsF at ha
  rw [(rising_ok _).2] at ha
  obtain ⟨n, hn, rfl⟩ := List.mem_map.1 ha
  exact author_key H hk.key n hn
set_option maxRecDepth 100000 in
set_option maxHeartbeats 4000000 in
theorem fforks_any {O : Nat → Prop} {b r : Nat} {hs : Hs} {R : Rg} {w : World} (h : IsHis w O b r hs) (H : His rdF R hs) (hk : RgOk R) (hR : R.length ≤ 60) : Calls Tryz.prog 61 #[.pointer (some ⟨b, 0, none⟩)] w (PrsPost (forksF hs) w) := by
  have HH := hid h; have HX := hid H; have HK := hid hk; have HR := hid hR
  clear h H hk hR
  go_enter Tryz.func61, Tryz.ntmps61
  go_wp2_with fail
  refine (fown_any HH.out HX.out HK.out HR.out).mono ?_
  rintro en x1 ⟨mb, C, rfl, hown, hmb, hC, u⟩
  have OWN := hid hown; have U1 := hid u; have HMB := hid hmb; have HCB := hid hC
  clear hown u hmb hC
  go_wp2_with fail
  refine (fkeys_any (some mb) _).mono ?_
  rintro en x2 ⟨rfl, hx2⟩
  obtain ⟨E, HE, hE⟩ := OWN.out
  have KEYS := hid (show ((owV E).map Prod.fst).mergeSort Go.leI = authorsF hs from by
    have e1 : (owV E).map Prod.fst = (owL E).map Prod.fst := by unfold owV owL; rw [List.map_map, List.map_map]; rfl
    rw [e1, hE]
    exact own_keys HX.out)
  have ELEN := hid (show (owV E).length ≤ 1000000 from by
    have := (ownL_few HX.out HR.out 1000000).1
    have hl : (sortedF hs (marksF hs)).length ≤ 1000000 := by
      rw [(sorted_all HX.out (ms := marksF hs) fun m q => (mem_marksF hs m).2 q).length_eq]
      unfold marksF
      rw [(sortI_perm _).length_eq, List.length_map]
      exact Nat.le_trans HX.out.len (Nat.le_trans HR.out (by decide))
    rw [List.take_of_length_le hl, ← hE] at this
    unfold owL at this
    unfold owV
    rw [List.length_map] at this ⊢
    omega)
  subst hx2
  go_wp2_with fail
  refine (fsorted_any HE.map ELEN.out KEYS.out).mono ?_
  rintro en x3 ⟨vk, rfl, ho, u⟩
  have AK := hid (authors_key HX.out HK.out)
  have AL := hid (Nat.le_trans (authors_len HX.out) (Nat.le_trans HX.out.len HR.out))
  have RK := hid (ints_rep ho fun x hx => by have := AK.out x hx; unfold I64; omega)
  obtain ⟨ak, ck, rfl, hk1, hk2⟩ := own_slice ho
  have hk2 : ck ≤ 9223372036854775807 := hk2
  have U3 := hid (U1.out.trans u)
  replace OWN := hid (OWN.out.keep u)
  have HIS := hid (HH.out.keep U3.out)
  have CELL := hid (fun (y : World) (uy : Upd (fun j => x3.heap.size ≤ j) x3 y) (hp : 0 < (authorsF hs).length) => (show ∃ g o, ak = some ⟨g, o, none⟩ ∧ ∀ k (hk : k < (authorsF hs).length), y.cell? ⟨g, o + k, none⟩ = some (.int .i64 (authorsF hs)[k]) from by
    obtain ⟨a, c, e, _, _, h3⟩ := slice_open RK.out
    obtain ⟨g, o, ea, hg, hel⟩ := h3 hp
    injection e with e1 _ _
    exact ⟨g, o, by rw [e1, ea], fun k hk => cell_kept (int_cells hel hk) (uy.block g hg.2 (by have := hg.2; omega))⟩))
  obtain ⟨N, hN⟩ : ∃ N, (authorsF hs).length = N := ⟨_, rfl⟩
  have HN := hid hN
  have hN60 : N ≤ 60 := by rw [← hN]; exact AL.out
  rw [hN] at hk1 ⊢
  clear ho u hN HE hE KEYS ELEN E RK
  go_wp2_with fail
  go_loopg [3, 15] N (fun gg s3 s15 wr => ∃ k : Nat, k ≤ N ∧ gg = N - k ∧ s15 = .int .i64 k ∧ PrsAt wr x3.heap.size s3 (forksTo hs k) ∧ Upd (fun j => x3.heap.size ≤ j) x3 wr)
  case atStart => exact ⟨0, Nat.zero_le _, rfl, rfl, World.ownsRow_nil _ _ _ _, Upd.refl _ _⟩
  case round =>
    obtain ⟨k, hk, hg, rfl, ho, hu⟩ := hrel
    have OP := hid ho; have UP := hid hu; have HG := hid hg
    clear ho hu hg
    have UF := hid (UP.out.shut fun i hi q => by omega)
    by_cases hlt : k < N
    case neg =>
      have hlti : ¬ (k : Int) < N := by omega
      have HKN := hid (forksTo_all (h := hs) (k := k) (by rw [HN.out]; omega))
      go_wp2_with fail
      go_ret
      have q := OP.out
      rw [HKN.out] at q
      exact ⟨_, rfl, ownsRow_base q (by have := U3.out.size; omega), U3.out.trans UF.out⟩
    have hlti : (k : Int) < N := by omega
    have hk1 : (k : Int) + 1 ≤ 1000 := by omega
    have hkl : k < (authorsF hs).length := by rw [HN.out]; exact hlt
    obtain ⟨g, o, rfl, hcell⟩ := CELL.out _ UP.out (by omega)
    have m0 := hcell k hkl
    obtain ⟨au, hau⟩ : ∃ au, (authorsF hs)[k] = au := ⟨_, rfl⟩
    have AW := hid (show (Lit.int .i64 au).wf = true from iwf (by have := AK.out _ (List.getElem_mem hkl); rw [hau] at this; omega))
    have STEP := hid (show forksTo hs (k + 1) = forksTo hs k ++ (pairF hs (ownF hs au)).toList by rw [forksTo_succ hkl, hau])
    rw [hau] at m0
    obtain ⟨v, hlk, hrow, _⟩ := (OWN.out.keep UF.out).get au AW.out
    rw [ownL_get] at hrow
    have RROW := hid (ints_rep hrow fun x hx => by
      have := mark_wf HX.out HR.out ((mem_own HX.out au x).1 hx).1
      unfold I64; omega)
    obtain ⟨av, cv, rfl, _, _⟩ := own_slice hrow
    clear hcell hau hrow
    go_wp2_with fail
    refine (fpair_any (HIS.out.keep UF.out) _ _ (ownF hs au) RROW.out (fun m hm => mark_wf HX.out HR.out ((mem_own HX.out au m).1 hm).1) (fun g hg => hg.2)).mono ?_
    rintro en y1 ⟨rfl, u⟩
    obtain ⟨op, hop⟩ : ∃ op, pairF hs (ownF hs au) = op := ⟨_, rfl⟩
    rw [hop] at STEP ⊢
    have UY := hid u
    clear u hop m0 hlk
    unfold prV
    cases op with
    | none =>
      obtain ⟨y2, hy2⟩ : ∃ y2, y2 = y1.alloc (.cells #[.int .i64 0, .int .i64 0] 93 (0, 0)) := ⟨_, rfl⟩
      have UY2 := hid (show Upd (fun _ => False) wr y2 by rw [hy2]; exact UY.out.alloc _)
      have HY2 := hid hy2
      clear hy2
      simp only [Option.getD_none, Option.isSome_none]
      go_wp2_with fail
      try rw [← HY2.out]
      go_roundg (N - (k + 1))
      case measure => have := HG.out; omega
      case rel =>
        refine ⟨k + 1, by omega, rfl, by go_num, ?_, UP.out.trans (UY2.out.mono fun _ q => q.elim)⟩
        rw [STEP.out]
        simp only [Option.toList_none, List.append_nil]
        exact ownsRow_upd OP.out UY2.out fun _ _ => id
    | some p =>
      obtain ⟨p1, p2⟩ := p
      obtain ⟨y2, hy2⟩ : ∃ y2, y2 = y1.alloc (.cells #[.int .i64 p1, .int .i64 p2] 93 (0, 0)) := ⟨_, rfl⟩
      have UY2 := hid (show Upd (fun _ => False) wr y2 by rw [hy2]; exact UY.out.alloc _)
      have YB := hid (show y2.heap[y1.heap.size]? = some (.cells #[.int .i64 p1, .int .i64 p2] 93 (0, 0)) by rw [hy2]; exact heap_alloc_new)
      have HY2 := hid hy2
      have row2 := ownsRow_upd OP.out UY2.out fun _ _ => id
      have hx3 : x3.heap.size ≤ y2.heap.size := Nat.le_trans UP.out.size UY2.out.size
      obtain ⟨v', w4, r4, o4, u4, n4⟩ := append_one elemPr row2 #[.int .i64 p1, .int .i64 p2] rfl (by simp [Value.oneCell']) (by have := forksTo_len hs k; unfold maxLen; omega) (by have := forksTo_len hs k; omega) hx3 83 (0, 0)
      have O4 := hid o4; have R4 := hid r4
      have U4 := hid (show Upd (fun j => x3.heap.size ≤ j) y2 w4 from u4.mono fun j hj => (prs_lt OP.out j hj).1)
      have m1 : y2.cell? ⟨y1.heap.size, 0, none⟩ = some (.int .i64 p1) := by rw [cell_of_block YB.out]; rfl
      have m2 : y2.cell? ⟨y1.heap.size, 1, none⟩ = some (.int .i64 p2) := by rw [cell_of_block YB.out]; rfl
      clear hy2 row2 hx3 o4 u4 n4 r4
      simp only [Option.getD_some, Option.isSome_some]
      go_upto_region 8 with (fail)
      try rw [← HY2.out]
      go_wp2_with (at_builtin; refine wpList_append_run rfl _ _ _ _ rfl rfl rfl R4.out ?_)
      go_roundg (N - (k + 1))
      case measure => have := HG.out; omega
      case rel =>
        refine ⟨k + 1, by omega, rfl, by go_num, ?_, UP.out.trans ((UY2.out.mono fun _ q => q.elim).trans U4.out)⟩
        rw [STEP.out]
        show PrsAt _ _ _ (forksTo hs k ++ [(p1, p2)])
        unfold PrsAt
        rw [prFlat_snoc, List.length_append]
        exact O4.out
end Go.Proofs.YtalhmpggpjbeaaaGreatDoor
namespace Go.Proofs.YtalhmpggpjbeaaaGreatDoor
open Go.RowKit Go.Deep

def guiltyTo (h : Hs) (k : Nat) : List Int := ((forksF h).take k).map fun p => (entM h p.1).author
theorem guiltyTo_all {h : Hs} {R : Rg} (H : His rdF R h) {k : Nat} (hk : (forksF h).length ≤ k) : guiltyTo h k = guiltyF h := by unfold guiltyTo; rw [List.take_of_length_le hk, forks_authors H]
theorem guiltyTo_succ {h : Hs} {k : Nat} (hk : k < (forksF h).length) : guiltyTo h (k + 1) = guiltyTo h k ++ [(entM h (forksF h)[k].1).author] := by
  unfold guiltyTo; rw [List.take_succ_eq_append_getElem hk, List.map_append]; rfl
theorem guiltyTo_len (h : Hs) (k : Nat) : (guiltyTo h k).length ≤ k := by unfold guiltyTo; rw [List.length_map, List.length_take]; omega
theorem forks_small {h : Hs} {R : Rg} (H : His rdF R h) (hR : R.length ≤ 60) : ∀ p ∈ forksF h, (0 ≤ p.1 ∧ p.1 ≤ 100) ∧ (0 ≤ p.2 ∧ p.2 ≤ 100) := by
  intro p hp
  obtain ⟨i, hi, rfl⟩ := List.getElem_of_mem hp
  unfold forksF at hp
  obtain ⟨a, _, ha⟩ := List.mem_filterMap.1 (List.getElem_mem hi)
  obtain ⟨h1, h2, _⟩ := pair_some ha
  exact ⟨mark_wf H hR ((mem_own H a _).1 h1).1, mark_wf H hR ((mem_own H a _).1 h2).1⟩
theorem forks_few {h : Hs} {R : Rg} (H : His rdF R h) (hR : R.length ≤ 60) : (forksF h).length ≤ 60 := by
  have h1 := forksTo_len h (authorsF h).length
  rw [forksTo_all (Nat.le_refl _)] at h1
  have := authors_len H
  have := H.len
  omega
set_option maxRecDepth 100000 in
set_option maxHeartbeats 4000000 in
theorem fguilty_any {O : Nat → Prop} {b r : Nat} {hs : Hs} {R : Rg} {w : World} (h : IsHis w O b r hs) (H : His rdF R hs) (hk : RgOk R) (hR : R.length ≤ 60) : Calls Tryz.prog 63 #[.pointer (some ⟨b, 0, none⟩)] w (IntsPost (guiltyF hs) w) := by
  have HH := hid h; have HX := hid H; have HK := hid hk; have HR := hid hR
  clear h H hk hR
  go_enter Tryz.func63, Tryz.ntmps63
  go_wp2_with fail
  refine (fforks_any HH.out HX.out HK.out HR.out).mono ?_
  rintro en x3 ⟨vp, rfl, ho, u⟩
  have OW := hid ho; have U3 := hid u
  obtain ⟨ap, cp, rfl, hp1, hp2⟩ := prs_slice ho
  have hp2 : cp ≤ 9223372036854775807 := hp2
  have HIS := hid (HH.out.keep u)
  have FS := hid (forks_small HX.out HR.out)
  have FL := hid (forks_few HX.out HR.out)
  have CELL := hid (fun (y : World) (uy : Upd (fun j => x3.heap.size ≤ j) x3 y) (hp : 0 < (forksF hs).length) => (show ∃ g, ap = some ⟨g, 0, none⟩ ∧ ∀ k (hk : k < (forksF hs).length), y.cell? ⟨g, k * 2, none⟩ = some (.int .i64 (forksF hs)[k].1) ∧ y.cell? ⟨g, k * 2 + 1, none⟩ = some (.int .i64 (forksF hs)[k].2) from by
    obtain ⟨g, cap, e, _, _, _, hgl, hc⟩ := PrsAt.get OW.out hp
    injection e with e1 _ _
    exact ⟨g, e1, fun k hk => ⟨cell_kept (hc k hk).1 (uy.block g hgl (by omega)), cell_kept (hc k hk).2 (uy.block g hgl (by omega))⟩⟩))
  obtain ⟨N, hN⟩ : ∃ N, (forksF hs).length = N := ⟨_, rfl⟩
  have HN := hid hN
  have hN60 : N ≤ 60 := by rw [← hN]; exact FL.out
  rw [hN] at hp1 ⊢
  clear ho u hN OW
  go_wp2_with fail
  go_loopg [3, 11] N (fun gg s3 s11 wr => ∃ k : Nat, k ≤ N ∧ gg = N - k ∧ s11 = .int .i64 k ∧ wr.ownsRow x3.heap.size 3 1 s3 (guiltyTo hs k).length ((guiltyTo hs k).map fun x => .int .i64 x) ∧ Upd (fun j => x3.heap.size ≤ j) x3 wr)
  case atStart => exact ⟨0, Nat.zero_le _, rfl, rfl, World.ownsRow_nil _ _ _ _, Upd.refl _ _⟩
  case round =>
    obtain ⟨k, hk, hg, rfl, ho, hu⟩ := hrel
    have OP := hid ho; have UP := hid hu; have HG := hid hg
    clear ho hu hg
    have UF := hid (UP.out.shut fun i hi q => by omega)
    by_cases hlt : k < N
    case neg =>
      have hlti : ¬ (k : Int) < N := by omega
      have HKN := hid (guiltyTo_all HX.out (k := k) (by rw [HN.out]; omega))
      go_wp2_with fail
      go_ret
      have q := OP.out
      rw [HKN.out] at q
      exact ⟨_, rfl, ownsRow_base q U3.out.size, U3.out.trans UF.out⟩
    have hlti : (k : Int) < N := by omega
    have hk1 : (k : Int) + 1 ≤ 1000 := by omega
    have hkl : k < (forksF hs).length := by rw [HN.out]; exact hlt
    obtain ⟨g, rfl, hcell⟩ := CELL.out _ UP.out (by omega)
    obtain ⟨m0, m1⟩ := hcell k hkl
    obtain ⟨p, hp⟩ : ∃ p, (forksF hs)[k] = p := ⟨_, rfl⟩
    have PW := hid (show (Lit.int .i64 p.1).wf = true from iwf (by have := (FS.out _ (List.getElem_mem hkl)).1; rw [hp] at this; omega))
    have STEP := hid (show guiltyTo hs (k + 1) = guiltyTo hs k ++ [(entM hs p.1).author] by rw [guiltyTo_succ hkl, hp])
    rw [hp] at m0 m1
    clear hcell hp
    obtain ⟨y0, hy0⟩ : ∃ y0, y0 = wr.alloc (.cells #[.int .i64 p.1, .int .i64 p.2] 93 (0, 0)) := ⟨_, rfl⟩
    have UY0 := hid (show Upd (fun _ => False) wr y0 by rw [hy0]; exact (Upd.refl _ _).alloc _)
    have YB := hid (show y0.heap[wr.heap.size]? = some (.cells #[.int .i64 p.1, .int .i64 p.2] 93 (0, 0)) by rw [hy0]; exact heap_alloc_new)
    have HY0 := hid hy0
    have n0 : y0.cell? ⟨wr.heap.size, 0, none⟩ = some (.int .i64 p.1) := by rw [cell_of_block YB.out]; rfl
    clear hy0
    go_upto_region 5 with (fail)
    try rw [← HY0.out]
    clear m0 m1
    go_wp2_with fail
    refine (hentry_any ((HIS.out.keep UF.out).keep UY0.out) HX.out p.1 PW.out).mono ?_
    rintro en y1 ⟨a1, a2, a3, c1, c2, c3, rfl, _, u⟩
    rw [ent_entry]
    obtain ⟨x, hx⟩ : ∃ x, entM hs p.1 = x := ⟨_, rfl⟩
    rw [hx] at STEP ⊢
    obtain ⟨W3, hW3⟩ : ∃ W3, W3 = y1.alloc (.cells (en13 x a1 a2 a3 c1 c2 c3) 39 (0, 0)) := ⟨_, rfl⟩
    have u3 : Upd (fun _ => False) y1 W3 := by rw [hW3]; exact (Upd.refl _ _).alloc _
    have EB := hid (show W3.heap[y1.heap.size]? = some (.cells (en13 x a1 a2 a3 c1 c2 c3) 39 (0, 0)) by rw [hW3]; exact heap_alloc_new)
    have UY3 := hid (UY0.out.trans (u.trans u3))
    have HW3 := hid hW3
    have row3 := ownsRow_upd OP.out UY3.out fun _ _ => id
    have hx3 : x3.heap.size ≤ W3.heap.size := Nat.le_trans UP.out.size UY3.out.size
    obtain ⟨v', w4, r4, o4, u4, n4⟩ := append_one elemI row3 #[.int .i64 x.author] rfl (by simp [Value.oneCell']) (by have := guiltyTo_len hs k; unfold maxLen; omega) (by have := guiltyTo_len hs k; omega) hx3 31 (0, 0)
    have O4 := hid o4; have R4 := hid r4
    have U4 := hid (show Upd (fun j => x3.heap.size ≤ j) W3 w4 from u4.mono fun j hj => (own_lt OP.out j hj).1)
    have q0 : W3.cell? ⟨y1.heap.size, 0, none⟩ = some (.int .i64 x.author) := by rw [cell_of_block EB.out]; rfl
    clear hx hW3 u u3 row3 hx3 o4 u4 n4 r4 n0
    unfold enV
    go_upto_region 6 with (fail)
    rw [← (show W3 = y1.alloc (.cells #[.int .i64 x.author, .int .i64 x.seq, .int .i64 x.day, .slice a1 x.knows.length c1, .int .i64 x.kind, .int .i64 x.circle, .int .i64 x.who, .int .i64 x.n, .int .i64 x.m, .int .i64 x.ref, .slice a2 x.keys.length c2, .slice a3 x.spans.length c3, .string ⟨x.text.toArray⟩] 39 (0, 0)) from HW3.out)]
    go_wp2_with (at_builtin; refine wpList_append_run rfl _ _ _ _ rfl rfl rfl R4.out ?_)
    go_roundg (N - (k + 1))
    case measure => have := HG.out; omega
    case rel =>
      refine ⟨k + 1, by omega, rfl, by go_num, ?_, UP.out.trans ((UY3.out.mono fun _ q => q.elim).trans U4.out)⟩
      rw [STEP.out, List.length_append, List.map_append]
      exact O4.out
set_option maxRecDepth 100000 in
set_option maxHeartbeats 4000000 in
open Classical in
theorem fstraight_any {O : Nat → Prop} {b r : Nat} {hs : Hs} {R : Rg} {w : World} (h : IsHis w O b r hs) (H : His rdF R hs) (hk : RgOk R) (hR : R.length ≤ 60) (au : Int) (ha : (Lit.int .i64 au).wf = true) : Calls Tryz.prog 65 #[.pointer (some ⟨b, 0, none⟩), .int .i64 au] w fun e w' => e = .returned (.bool (decide (StraightP hs au))) ∧ Upd (fun _ => False) w w' := by
  have HH := hid h; have HX := hid H; have HK := hid hk; have HR := hid hR
  clear h H hk hR
  go_enter Tryz.func65, Tryz.ntmps65
  go_wp2_with fail
  refine (fown_any HH.out HX.out HK.out HR.out).mono ?_
  rintro en x1 ⟨mb, C, rfl, hown, hmb, hC, u⟩
  have U1 := hid u
  obtain ⟨v, hlk, hrow, _⟩ := hown.get au ha
  rw [ownL_get] at hrow
  have MI := hid (fun m (q : m ∈ ownF hs au) => mark_wf HX.out HR.out ((mem_own HX.out au m).1 q).1)
  have RROW := hid (ints_rep hrow fun x hx => by have := MI.out x hx; unfold I64; omega)
  obtain ⟨av, cv, rfl, hv1, hv2⟩ := own_slice hrow
  have hv2 : cv ≤ 9223372036854775807 := hv2
  have HIS := hid (HH.out.keep u)
  have OLEN := hid (show (ownF hs au).length ≤ 60 by
    unfold ownF
    refine Nat.le_trans (List.length_filter_le _ _) ?_
    rw [(sorted_all HX.out (ms := marksF hs) fun m q => (mem_marksF hs m).2 q).length_eq]
    unfold marksF
    rw [(sortI_perm _).length_eq, List.length_map]
    exact Nat.le_trans HX.out.len HR.out)
  have CELL := hid (fun (y : World) (uy : Upd (fun _ => False) x1 y) (hp : 0 < (ownF hs au).length) => (show ∃ g o, av = some ⟨g, o, none⟩ ∧ ∀ k (hk : k < (ownF hs au).length), y.cell? ⟨g, o + k, none⟩ = some (.int .i64 (ownF hs au)[k]) from by
    obtain ⟨a, c, e, _, _, h3⟩ := slice_open RROW.out
    obtain ⟨g, o, ea, hg, hel⟩ := h3 hp
    injection e with e1 _ _
    exact ⟨g, o, by rw [e1, ea], fun k hk => cell_kept (int_cells hel hk) (uy.block g hg.2 id)⟩))
  obtain ⟨N, hN⟩ : ∃ N, (ownF hs au).length = N := ⟨_, rfl⟩
  have HN := hid hN
  have hN60 : N ≤ 60 := by rw [← hN]; exact OLEN.out
  rw [hN] at hv1 hlk
  clear u hown hN hmb hC RROW hrow
  go_wp2_with fail
  clear hlk
  go_loopg [16] N (fun gg s16 wr => ∃ k : Nat, k ≤ N ∧ gg = N - k ∧ s16 = .int .i64 k ∧ StraightTo hs au k ∧ Upd (fun _ => False) x1 wr)
  case atStart => exact ⟨0, Nat.zero_le _, rfl, rfl, fun i _ q => absurd q (Nat.not_lt_zero _), Upd.refl _ _⟩
  case round =>
    obtain ⟨k, hk, hg, rfl, hf, hu⟩ := hrel
    have UP := hid hu; have HG := hid hg; have HF := hid hf
    clear hu hg hf
    by_cases hlt : k < N
    case neg =>
      have hlti : ¬ (k : Int) < N := by omega
      have HD := hid (show StraightP hs au from (straight_to (by rw [HN.out]; omega)).1 HF.out)
      go_wp2_with fail
      go_ret
      exact ⟨by rw [decide_eq_true HD.out] <;> rfl, U1.out.trans UP.out⟩
    have hlti : (k : Int) < N := by omega
    have hk1 : (k : Int) + 1 ≤ 1000 := by omega
    have hkl : k < (ownF hs au).length := by rw [HN.out]; exact hlt
    obtain ⟨g, o, rfl, hcell⟩ := CELL.out _ UP.out (by omega)
    have m0 := hcell k hkl
    have MPREV := hid (fun (y : World) (u : Upd (fun _ => False) x1 y) (h0 : 0 < k) => (show y.cell? ⟨g, o + (k - 1), none⟩ = some (.int .i64 (ownF hs au)[k - 1]) from by
      obtain ⟨g', o', e, q⟩ := CELL.out y u (by omega)
      cases e
      exact q (k - 1) (by omega)))
    have SUC := hid (straight_succ (h := hs) (a := au) hkl)
    have NOT := hid (straight_not (h := hs) (a := au) hkl)
    have PW := hid (fun (h0 : 0 < k) => (show (Lit.int .i64 (ownF hs au)[k - 1]).wf = true from iwf (by have := MI.out _ (List.getElem_mem (show k - 1 < (ownF hs au).length by omega)); omega)))
    obtain ⟨m, hm⟩ : ∃ m, (ownF hs au)[k] = m := ⟨_, rfl⟩
    have MW := hid (show (Lit.int .i64 m).wf = true from iwf (by have := MI.out _ (List.getElem_mem hkl); rw [hm] at this; omega))
    rw [hm] at m0 SUC NOT
    clear hcell hm
    go_wp2_with fail
    refine (hentry_any (HIS.out.keep UP.out) HX.out m MW.out).mono ?_
    rintro en y1 ⟨a1, a2, a3, c1, c2, c3, rfl, _, u⟩
    rw [ent_entry]
    obtain ⟨x, hx⟩ : ∃ x, entM hs m = x := ⟨_, rfl⟩
    rw [hx] at SUC NOT ⊢
    obtain ⟨W3, hW3⟩ : ∃ W3, W3 = y1.alloc (.cells (en13 x a1 a2 a3 c1 c2 c3) 39 (0, 0)) := ⟨_, rfl⟩
    have u3 : Upd (fun _ => False) y1 W3 := by rw [hW3]; exact (Upd.refl _ _).alloc _
    have EB := hid (show W3.heap[y1.heap.size]? = some (.cells (en13 x a1 a2 a3 c1 c2 c3) 39 (0, 0)) by rw [hW3]; exact heap_alloc_new)
    have UY3 := hid (UP.out.trans (u.trans u3))
    have HW3 := hid hW3
    have q0 : W3.cell? ⟨y1.heap.size, 1, none⟩ = some (.int .i64 x.seq) := by rw [cell_of_block EB.out]; rfl
    clear hx hW3 u u3 m0
    unfold enV
    go_upto_region 6 with (fail)
    rw [← (show W3 = y1.alloc (.cells #[.int .i64 x.author, .int .i64 x.seq, .int .i64 x.day, .slice a1 x.knows.length c1, .int .i64 x.kind, .int .i64 x.circle, .int .i64 x.who, .int .i64 x.n, .int .i64 x.m, .int .i64 x.ref, .slice a2 x.keys.length c2, .slice a3 x.spans.length c3, .string ⟨x.text.toArray⟩] 39 (0, 0)) from HW3.out)]
    clear HW3
    by_cases hsq : x.seq = k
    case neg =>
      have t1 : (x.seq != (k : Int)) = true := bne_iff_ne.2 hsq
      have HD := hid (NOT.out fun q => hsq q.1)
      clear hsq
      go_wp2_with fail
      go_ret
      exact ⟨by rw [decide_eq_false HD.out] <;> rfl, U1.out.trans UY3.out⟩
    have t1 : (x.seq != (k : Int)) = false := by simp [hsq]
    have HSQ := hid hsq
    clear hsq
    rcases Nat.eq_zero_or_pos k with h0 | h0
    · subst h0
      have HD := hid (SUC.out.2 ⟨HF.out, HSQ.out, fun q => absurd q (Nat.lt_irrefl 0)⟩)
      have t2 : decide ((0 : Int) < ((0 : Nat) : Int)) = false := by decide
      go_wp2_with fail
      go_roundg (N - (0 + 1))
      case measure => have := HG.out; omega
      case rel => exact ⟨0 + 1, by omega, rfl, by go_num, HD.out, UY3.out⟩
    have t2 : decide ((0 : Int) < (k : Int)) = true := decide_eq_true (by omega)
    have t2' : (0 : Int) < (k : Int) := by omega
    have t3 : (k : Int) - 1 = ((k - 1 : Nat) : Int) := by omega
    have q1 := MPREV.out _ UY3.out h0
    have PWW := hid (PW.out h0)
    obtain ⟨pm, hpm⟩ : ∃ pm, (ownF hs au)[k - 1] = pm := ⟨_, rfl⟩
    have SUC2 := hid (show StraightTo hs au (k + 1) ↔ StraightTo hs au k ∧ x.seq = k ∧ (0 < k → Kn hs pm m) from hpm ▸ SUC.out)
    have NOT2 := hid (show ¬ (x.seq = k ∧ (0 < k → Kn hs pm m)) → ¬ StraightP hs au from hpm ▸ NOT.out)
    rw [hpm] at q1 PWW
    have hkb1 : ((k - 1 : Nat) : Int) < N := by omega
    have hkb2 : k - 1 < N := by omega
    have hkb3 : (0 : Int) ≤ ((k - 1 : Nat) : Int) := by omega
    clear hpm
    obtain ⟨kn, hkn⟩ : ∃ kn, beforeB hs pm m = kn := ⟨_, rfl⟩
    have HKN := hid hkn
    clear hkn SUC NOT
    cases kn with
    | false =>
      have HD := hid (NOT2.out fun q => by
        have := (before_iff hs pm m).2 (q.2 h0)
        rw [HKN.out] at this; cases this)
      go_wp2_with fail
      refine (hbefore_any (HIS.out.keep UY3.out) pm m PWW.out MW.out).mono ?_
      rintro e w' ⟨rfl, rfl⟩
      rw [HKN.out]
      go_wp2_with fail
      go_ret
      exact ⟨by rw [decide_eq_false HD.out] <;> rfl, U1.out.trans UY3.out⟩
    | true =>
      have HD := hid (SUC2.out.2 ⟨HF.out, HSQ.out, fun _ => (before_iff hs pm m).1 HKN.out⟩)
      go_wp2_with fail
      refine (hbefore_any (HIS.out.keep UY3.out) pm m PWW.out MW.out).mono ?_
      rintro e w' ⟨rfl, rfl⟩
      rw [HKN.out]
      go_wp2_with fail
      go_roundg (N - (k + 1))
      case measure => have := HG.out; omega
      case rel => exact ⟨k + 1, by omega, rfl, by go_num, HD.out, UY3.out⟩
theorem straight_yes {h : Hs} {a : Int} (q : StraightP h a) : @decide (StraightP h a) (Classical.propDecidable _) = true := @decide_eq_true _ (Classical.propDecidable _) q
theorem straight_nay {h : Hs} {a : Int} (q : ¬ StraightP h a) : @decide (StraightP h a) (Classical.propDecidable _) = false := @decide_eq_false _ (Classical.propDecidable _) q
end Go.Proofs.YtalhmpggpjbeaaaGreatDoor
