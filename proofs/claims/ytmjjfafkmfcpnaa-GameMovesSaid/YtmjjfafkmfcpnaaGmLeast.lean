/- The walk of GameLeast. -/
import Derived.Test.YtmjjfafkmfcpnaaGmB1
namespace Go.Proofs.Ytmjjfafkmfcpnaa
open Go.RowKit Go.Deep

def kCert : Knd (List Int × List Int) := kPair kInts kInts
theorem reads_cert : Reads Try.prog 25 kCert :=
  reads_struct Try.underlying25 (tail_cons rfl rfl reads_ints (tail_last rfl rfl reads_ints (by kernel_rfl)))
theorem cert_open {A : Nat → Prop} {w : World} {cs : Array Value} {x : List Int × List Int} (h : kCert.rep A w cs.toList x) : ∃ v1 v2, cs = #[v1, v2] ∧ kInts.rep A w [v1] x.1 ∧ kInts.rep A w [v2] x.2 := by
  obtain ⟨c, d, e, h1, h2⟩ := h
  have l1 : c.length = 1 := kInts.len h1
  have l2 : d.length = 1 := kInts.len h2
  obtain ⟨v1, rfl⟩ := List.length_eq_one_iff.1 l1
  obtain ⟨v2, rfl⟩ := List.length_eq_one_iff.1 l2
  refine ⟨v1, v2, ?_, h1, h2⟩
  cases cs; simp at e; simp [e]

/-- The state of the loop that makes all values greater. -/
structure UpAt (l : List Nd) (d : Int) (w0 w : World) (ub gc k : Nat) (v : Value) : Prop where
  head : w.heap[ub]? = some (.cells #[v, .slice (some ⟨gc, 0, none⟩) l.length l.length] 25 (0, 0))
  own : w.ownsRow w0.heap.size 3 1 v k (((vlist l).take k).map fun x => Value.int .i64 (x + d))
  u : Upd (· = ub) w0 w
  lt : ub < w0.heap.size

theorem own_int {w : World} {base n : Nat} {v : Value} {xs : List Value} (h : w.ownsRow base 3 1 v n xs) : ∀ g, v.ownBlock = some g → base ≤ g ∧ g < w.heap.size := fun g hg => h.lt g hg

theorem UpAt.step {l : List Nd} {d : Int} {w0 w : World} {ub gc k : Nat} {v : Value} (h : UpAt l d w0 w ub gc k v) (hk : k < l.length) (hl : l.length ≤ 3000) :
    ∃ gb cap w2, (Builtin.append_ #[23, 23] 23 #[v, .slice (some ⟨w.heap.size, 0, none⟩) 1 1]).run Try.prog (w.alloc (.cells #[.int .i64 (geti (vlist l) k + d)] 3 (0, 0))).drew = .ok (.slice (some ⟨gb, 0, none⟩) (k + 1) cap) w2 ∧
      w2.cell? ⟨ub, 0, none⟩ = some v ∧ w2.frozen? ⟨ub, 0, none⟩ = false ∧
      UpAt l d w0 (w2.setCell ⟨ub, 0, none⟩ (.slice (some ⟨gb, 0, none⟩) (k + 1) cap)) ub gc (k + 1) (.slice (some ⟨gb, 0, none⟩) (k + 1) cap) := by
  have hs := h.u.size
  have hlt := h.lt
  obtain ⟨v', w2, r2, o2, u2, n2⟩ := append_one elemI (w := w.drew) h.own #[.int .i64 (geti (vlist l) k + d)] rfl (by simp [Value.oneCell']) (by unfold maxLen; omega) (by omega) hs 23 (0, 0)
  rcases ownsRow_fits o2 with ⟨_, h0⟩ | ⟨gb, cap, rfl, hgb, hgs, hgc, hgm⟩
  · omega
  have hp : v.ownBlock ≠ some ub := fun e => by have := (own_int h.own ub e).1; omega
  have hp2 : w2.heap[ub]? = _ := (u2.block ub (heap_lt h.head) hp).trans h.head
  refine ⟨gb, cap, w2, r2, by rw [cell_of_block hp2]; rfl, frozen_of_block hp2, ?_, ?_, ?_, h.lt⟩
  · have := heap_setCell_same (p := ⟨ub, 0, none⟩) (u := .slice (some ⟨gb, 0, none⟩) (k + 1) cap) rfl hp2
    rw [this]; rfl
  · have o3 := ownsRow_upd o2 ((Upd.refl (· = ub) w2).at_ 0 (.slice (some ⟨gb, 0, none⟩) (k + 1) cap)) (fun g' hg' e => by injection hg' with hg'; exact (show gb ≠ ub by omega) (hg'.trans e))
    have hkv : k < (vlist l).length := by rw [vlist_len]; exact hk
    rw [List.take_succ_eq_append_getElem hkv, List.map_append, geti_at' hkv]
    exact o3
  · have hb := fun j (hj : v.ownBlock = some j) => (own_int h.own j hj).1
    exact (h.u.drew.comp u2 fun j h1 h2 => by have := hb j h2; omega).at_ 0 _

theorem UpAt.rep {l : List Nd} (hr : RightP l) {d : Int} (hd : 0 ≤ d ∧ d ≤ 4294967296) {w0 w : World} {ub gc : Nat} {v : Value} (h : UpAt l d w0 w ub gc l.length v) : kInts.rep (· < w.heap.size) w [v] ((vlist l).map fun x => x + d) := by
  have o := h.own
  rw [List.take_of_length_le (by rw [vlist_len]; exact Nat.le_refl _)] at o
  have o' : w.ownsRow w0.heap.size 3 1 v ((vlist l).map fun x => x + d).length (((vlist l).map fun x => x + d).map (Value.int .i64)) := by
    rw [List.length_map, vlist_len, List.map_map]; exact o
  refine ownsRow_rep1 (e := 3) (base := w0.heap.size) rfl (.int .i64) o' (fun x hx => ⟨rfl, ?_⟩) fun g hg => (own_int h.own g hg).2
  obtain ⟨y, hy, rfl⟩ := List.mem_map.1 hx
  obtain ⟨i, hi, rfl⟩ := List.mem_iff_getElem.1 hy
  rw [geti_at' hi]
  have := vlist_bound hr i
  rw [show maxGain = 1099511627776 from rfl] at this
  exact iwf (by omega)

theorem geti_map {l : List Int} {f : Int → Int} {i : Nat} (h : i < l.length) : geti (l.map f) i = f (geti l i) := by
  unfold geti
  rw [List.getD_eq_getElem?_getD, List.getD_eq_getElem?_getD, List.getElem?_map, List.getElem?_eq_getElem h]; rfl

theorem least_down {l : List Nd} (hr : RightP l) {V C : List Int} {a : Nat} (ha : a < l.length) (hv : geti V a = geti (vlist l) a - 1) : ¬ Holds l V C := fun h => by
  have := least hr h l.length a ha (by omega)
  omega

theorem own_set {w : World} {base g cap : Nat} {L : List Int} (h : w.ownsRow base 3 1 (.slice (some ⟨g, 0, none⟩) L.length cap) L.length (L.map (Value.int .i64))) {k : Nat} (_ : k < L.length) (x : Int) :
    (w.setCell ⟨g, k, none⟩ (.int .i64 x)).ownsRow base 3 1 (.slice (some ⟨g, 0, none⟩) (L.set k x).length cap) (L.set k x).length ((L.set k x).map (Value.int .i64)) := by
  obtain ⟨h1, ⟨he, _⟩ | ⟨g', cap', cur, hv, hb, hg, hn, hc, hs, ht⟩⟩ := h
  · cases he
  injection hv with e1 _ e3
  injection e1 with e1
  injection e1 with e1 _ _
  subst e1 e3
  refine ⟨by simp, .inr ⟨g, cap, cur.setIfInBounds k (.int .i64 x), by simp, hb, ?_, by simpa using hn, hc, by simpa using hs, ?_⟩⟩
  · have := heap_setCell_same (p := ⟨g, k, none⟩) (u := .int .i64 x) rfl hg
    rw [this]
  · rw [Array.toList_setIfInBounds, List.take_set, List.length_set, ht, List.map_set]

theorem own_cell {w : World} {base g cap : Nat} {L : List Int} (h : w.ownsRow base 3 1 (.slice (some ⟨g, 0, none⟩) L.length cap) L.length (L.map (Value.int .i64))) {k : Nat} (hk : k < L.length) :
    w.cell? ⟨g, k, none⟩ = some (.int .i64 (geti L k)) ∧ w.frozen? ⟨g, k, none⟩ = false ∧ g < w.heap.size ∧ base ≤ g ∧ L.length ≤ cap ∧ cap ≤ maxLen := by
  have hc := h.cells (g := g) rfl k (.int .i64 (geti L k)) (by rw [List.getElem?_map, List.getElem?_eq_getElem hk, geti_at' hk]; rfl)
  have e1 : Addr.add ⟨g, 0, none⟩ k = ⟨g, k, none⟩ := by unfold Addr.add; split <;> simp_all
  rw [e1] at hc
  obtain ⟨_, ⟨he, _⟩ | ⟨g', cap', cur, hv, hb, hg, hn, hcc, _, _⟩⟩ := h
  · cases he
  injection hv with e1 _ e3
  injection e1 with e1
  injection e1 with e1 _ _
  subst e1 e3
  exact ⟨hc, frozen_of_block hg, heap_lt hg, hb, hn, hcc⟩

theorem own_rep {w : World} {base g cap : Nat} {L : List Int} (h : w.ownsRow base 3 1 (.slice (some ⟨g, 0, none⟩) L.length cap) L.length (L.map (Value.int .i64))) (hw : ∀ x ∈ L, (Lit.int .i64 x).wf = true) :
    kInts.rep (· < w.heap.size) w [.slice (some ⟨g, 0, none⟩) L.length cap] L :=
  ownsRow_rep1 (e := 3) (base := base) rfl (.int .i64) h (fun x hx => ⟨rfl, hw x hx⟩) fun g hg => (own_int h g hg).2

/-- A copy of numbers, made by an append to an empty slice. -/
theorem clone_ints' {W0 W : World} {b gp : Nat} {L : List Int} (hb : IntsBlk W gp L) (h0 : W.heap[b]? = some (.cells #[] 3 (0, 0))) (hW : W0.heap.size ≤ b) (u0 : Upd (fun _ => False) W0 W) (hl : L.length ≤ 3000) (hpos : 0 < L.length) :
    ∃ g cap w2, (Builtin.append_ #[23, 23] 23 #[.slice (some ⟨b, 0, none⟩) 0 0, .slice (some ⟨gp, 0, none⟩) L.length L.length]).run Try.prog W = .ok (.slice (some ⟨g, 0, none⟩) L.length cap) w2 ∧
      w2.ownsRow W0.heap.size 3 1 (.slice (some ⟨g, 0, none⟩) L.length cap) L.length (L.map (Value.int .i64)) ∧ Upd (fun _ => False) W0 w2 ∧ Upd (· = b) W w2 ∧ ∀ d, d < W.heap.size → d ≠ b → g ≠ d := by
  have o0 : W.ownsRow W0.heap.size 3 1 (.slice (some ⟨b, 0, none⟩) 0 0) 0 [] :=
    ⟨rfl, .inr ⟨b, 0, #[], rfl, hW, h0, Nat.le_refl _, Nat.zero_le _, rfl, rfl⟩⟩
  obtain ⟨v', w2, r, o, gr, n⟩ := append_own2 elemI o0 ⟨gp, 0, none⟩ L.length L.length (L.map (Value.int .i64)) (by simp) (fun j u hj => by
      have e1 : Addr.add ⟨gp, 0, none⟩ j = ⟨gp, j, none⟩ := by unfold Addr.add; split <;> simp_all
      rw [List.getElem?_map] at hj
      cases h : L[j]? with
      | none => rw [h] at hj; cases hj
      | some x =>
        rw [h] at hj; injection hj with hj; subst hj
        obtain ⟨hlt, rfl⟩ := List.getElem?_eq_some_iff.1 h
        rw [e1]; exact hb.cell hlt)
    (fun u hu => by obtain ⟨x, _, rfl⟩ := List.mem_map.1 hu; rfl) (by unfold maxLen; omega) (by omega) u0.size 23
  rw [Nat.zero_add, List.nil_append] at o
  rcases ownsRow_fits o with ⟨_, h0⟩ | ⟨g, cap, rfl, hgb, hgs, hgc, hgm⟩
  · omega
  refine ⟨g, cap, w2, r, o, u0.grown gr fun k hk => .inr (by have hk' : some b = some k := hk; injection hk' with hk'; omega), (Upd.refl _ W).grown gr (fun k hk => .inl (by have hk' : some b = some k := hk; injection hk' with hk'; exact hk'.symm)), fun d hd hne e => ?_⟩
  rcases n with n | ⟨g', hg', hs⟩
  · have n' : some g = some b := n
    injection n' with n'; omega
  · have n' : some g = some g' := hg'
    injection n' with n'; omega

/-- Where an empty slice and the numbers to be copied lie. -/
def Clo (gp b : Nat) (L : List Int) (W : World) : Prop := IntsBlk W gp L ∧ W.heap[b]? = some (.cells #[] 3 (0, 0))
def CloGo (gp b : Nat) (L : List Int) (W0 W : World) : Prop := Clo gp b L W ∧ W0.heap.size ≤ b ∧ Upd (fun _ => False) W0 W
theorem clo_fun (W0 : World) (gp : Nat) (L : List Int) (hl : L.length ≤ 3000) (hpos : 0 < L.length) : ∃ f : World → Nat → Nat × Nat × World,
    (∀ W b, CloGo gp b L W0 W → (Builtin.append_ #[23, 23] 23 #[.slice (some ⟨b, 0, none⟩) 0 0, .slice (some ⟨gp, 0, none⟩) L.length L.length]).run Try.prog W = .ok (.slice (some ⟨(f W b).1, 0, none⟩) L.length (f W b).2.1) (f W b).2.2) ∧
    ∀ W b, CloGo gp b L W0 W → (f W b).2.2.ownsRow W0.heap.size 3 1 (.slice (some ⟨(f W b).1, 0, none⟩) L.length (f W b).2.1) L.length (L.map (Value.int .i64)) ∧ Upd (fun _ => False) W0 (f W b).2.2 ∧ Upd (· = b) W (f W b).2.2 ∧ ∀ d, d < W.heap.size → d ≠ b → (f W b).1 ≠ d := by
  have h : ∀ W b, ∃ t : Nat × Nat × World, CloGo gp b L W0 W → (Builtin.append_ #[23, 23] 23 #[.slice (some ⟨b, 0, none⟩) 0 0, .slice (some ⟨gp, 0, none⟩) L.length L.length]).run Try.prog W = .ok (.slice (some ⟨t.1, 0, none⟩) L.length t.2.1) t.2.2 ∧
      (t.2.2.ownsRow W0.heap.size 3 1 (.slice (some ⟨t.1, 0, none⟩) L.length t.2.1) L.length (L.map (Value.int .i64)) ∧ Upd (fun _ => False) W0 t.2.2 ∧ Upd (· = b) W t.2.2 ∧ ∀ d, d < W.heap.size → d ≠ b → t.1 ≠ d) := fun W b => by
    by_cases hc : CloGo gp b L W0 W
    · obtain ⟨g, cap, w2, r⟩ := clone_ints' hc.1.1 hc.1.2 hc.2.1 hc.2.2 hl hpos
      exact ⟨(g, cap, w2), fun _ => r⟩
    · exact ⟨(0, 0, W), fun h => absurd h hc⟩
  exact ⟨fun W b => (h W b).choose, fun W b hc => ((h W b).choose_spec hc).1, fun W b hc => ((h W b).choose_spec hc).2⟩

def NdsAt (v : Value) (l : List Nd) (w : World) : Prop := (kSlice kNd).rep (· < w.heap.size) w [v] l
theorem nds_of {v : Value} {l : List Nd} {w : World} (h : NdsAt v l w) : (kSlice kNd).rep (· < w.heap.size) w [v] l := h

def DownCut (l : List Nd) (gc : Nat) (w : World) (s : Value) (wx : World) : Prop :=
  ∃ db g cap, s = .pointer (some ⟨db, 0, none⟩) ∧ wx.heap[db]? = some (.cells #[.slice (some ⟨g, 0, none⟩) l.length cap, .slice (some ⟨gc, 0, none⟩) l.length l.length] 25 (0, 0)) ∧
    wx.ownsRow w.heap.size 3 1 (.slice (some ⟨g, 0, none⟩) (vlist l).length cap) (vlist l).length ((vlist l).map (Value.int .i64)) ∧ db ≠ g ∧ w.heap.size ≤ db ∧ Upd (fun _ => False) w wx

theorem down_a {l : List Nd} {gc g cap : Nat} {w8 w2 : World} {a : Nat} (hal : a < l.length) (o : w2.ownsRow w8.heap.size 3 1 (.slice (some ⟨g, 0, none⟩) (vlist l).length cap) (vlist l).length ((vlist l).map (Value.int .i64))) (v : Upd (fun _ => False) w8 w2) :
    DownCut l gc w8 (.pointer (some ⟨w2.heap.size, 0, none⟩)) (w2.alloc (.cells #[.slice (some ⟨g, 0, none⟩) l.length cap, .slice (some ⟨gc, 0, none⟩) l.length l.length] 25 (0, 0))) := by
  refine ⟨w2.heap.size, g, cap, rfl, heap_alloc_new, ownsRow_upd o ((Upd.refl (fun _ => False) w2).alloc _) (fun _ _ => id), ?_, v.size, v.alloc _⟩
  have := (own_cell o (k := a) (by rw [vlist_len]; exact hal)).2.2.1
  omega
theorem down_b {l : List Nd} {gc g cap db : Nat} {w8 w2 : World} (o : w2.ownsRow w8.heap.size 3 1 (.slice (some ⟨g, 0, none⟩) (vlist l).length cap) (vlist l).length ((vlist l).map (Value.int .i64))) (v : Upd (fun _ => False) w8 w2)
    (z : w2.heap[db]? = some (.cells #[.slice none 0 0, .slice none 0 0] 25 (0, 0))) (hne : g ≠ db) (h : w8.heap.size ≤ db) :
    DownCut l gc w8 (.pointer (some ⟨db, 0, none⟩)) ((w2.setCell ⟨db, 0, none⟩ (.slice (some ⟨g, 0, none⟩) l.length cap)).setCell ⟨db, 1, none⟩ (.slice (some ⟨gc, 0, none⟩) l.length l.length)) := by
  have u2 : Upd (· = db) w2 ((w2.setCell ⟨db, 0, none⟩ (.slice (some ⟨g, 0, none⟩) l.length cap)).setCell ⟨db, 1, none⟩ (.slice (some ⟨gc, 0, none⟩) l.length l.length)) := ((Upd.refl _ _).at_ _ _).at_ _ _
  exact ⟨db, g, cap, rfl, store2 z, ownsRow_upd o u2 (fun k hk e => by have hk' : some g = some k := hk; injection hk' with hk'; omega), fun e => hne e.symm, h, v.comp u2 fun i hi e => by omega⟩

def CkCut (l : List Nd) (V C : List Int) (w : World) (s : Value) (wx : World) : Prop := ∃ b : Bool, s = .bool b ∧ (b = true → Holds l V C) ∧ Upd (fun _ => False) w wx

set_option maxRecDepth 100000 in
set_option maxHeartbeats 4000000 in
theorem least_walk (v : Value) (l : List Nd) (cs : Array Value) (cert : List Int × List Int) (at_ more : Int) (W : World) (h0 : (kSlice kNd).rep (· < W.heap.size) W [v] l) (hc : kCert.rep (· < W.heap.size) W cs.toList cert) (ha : (Lit.int .i64 at_).wf = true) (hm : (Lit.int .u32 more).wf = true) :
    Calls Try.prog 6 #[v, .agg cs, .int .i64 at_, .int .u32 more] W fun e w' => e = .returned (.bool true) ∧ Below W.heap.size W w' := by
  have fin : ∀ w' e, (e = Ending.returned (.bool true) ∧ Upd (fun _ => False) W w') → (e = .returned (.bool true) ∧ Below W.heap.size W w') := fun w' e h => ⟨h.1, h.2.below (Nat.le_refl _) fun _ h => h.elim⟩
  suffices hs : Calls Try.prog 6 #[v, .agg cs, .int .i64 at_, .int .u32 more] W fun e w' => e = .returned (.bool true) ∧ Upd (fun _ => False) W w' from hs.mono fun e w' h => fin w' e h
  clear fin
  have hmb := bounds_u32 hm
  have hab := wfi ha
  obtain ⟨vv, vc, rfl, hv, hcc⟩ := cert_open hc
  obtain ⟨V, C⟩ := cert
  dsimp only at hv hcc
  obtain ⟨a0, cap0, rfl, p1, p2, _⟩ := slice_open h0
  obtain ⟨a2, cap2, rfl, r1, r2, _⟩ := slice_open hv
  obtain ⟨a3, cap3, rfl, s1, s2, _⟩ := slice_open hcc
  have p2 : cap0 ≤ 9223372036854775807 := p2
  have r2 : cap2 ≤ 9223372036854775807 := r2
  have s2 : cap3 ≤ 9223372036854775807 := s2
  have ua := (Upd.refl (fun _ => False) W).alloc (.cells #[.slice a2 V.length cap2, .slice a3 C.length cap3] 25 (0, 0))
  have hb : (W.alloc (.cells #[.slice a2 V.length cap2, .slice a3 C.length cap3] 25 (0, 0))).heap[W.heap.size]? = some (.cells #[.slice a2 V.length cap2, .slice a3 C.length cap3] 25 (0, 0)) := heap_alloc_new
  have HN := hid (keep_nds h0 ua); have HV := hid (keep_ints hv ua); have HC := hid (keep_ints hcc ua)
  have HB := hid hb; have HU := hid ua
  clear h0 hc hv hcc ua hb ha hm
  cases hf : fewB l 200
  · have HF := hid hf; clear hf
    go_enter Try.func6, Try.ntmps6
    go_wp2_with fail
    refine (small_any _).mono ?_
    rintro e w1 ⟨rfl, u⟩
    replace HN := hid (keep_nds HN.out u)
    replace HV := hid (keep_ints HV.out u)
    replace HC := hid (keep_ints HC.out u)
    replace HB := hid ((u.block _ (heap_lt HB.out) id).trans HB.out)
    replace HU := hid (HU.out.trans u)
    obtain ⟨k0, k1, _⟩ := cells2 HB.out
    clear u
    go_wp2_with fail
    refine (few_any _ l 200 _ HN.out (by decide)).mono ?_
    rintro e wf ⟨rfl, hwf⟩
    subst hwf
    rw [HF.out]
    go_wp2_with fail
    go_ret
    exact ⟨rfl, HU.out⟩
  have HF := hid hf; clear hf
  by_cases x1 : 300 < V.length
  · have x1i : (300 : Int) < V.length := by omega
    clear x1
    go_enter Try.func6, Try.ntmps6
    go_wp2_with fail
    refine (small_any _).mono ?_
    rintro e w1 ⟨rfl, u⟩
    replace HN := hid (keep_nds HN.out u)
    replace HV := hid (keep_ints HV.out u)
    replace HC := hid (keep_ints HC.out u)
    replace HB := hid ((u.block _ (heap_lt HB.out) id).trans HB.out)
    replace HU := hid (HU.out.trans u)
    obtain ⟨k0, k1, _⟩ := cells2 HB.out
    clear u
    go_wp2_with fail
    refine (few_any _ l 200 _ HN.out (by decide)).mono ?_
    rintro e wf ⟨rfl, hwf⟩
    subst hwf
    rw [HF.out]
    go_wp2_with fail
    go_ret
    exact ⟨rfl, HU.out⟩
  have x1i : (V.length : Int) ≤ 300 := by omega
  have x1b : decide (300 < (V.length : Int)) = false := decide_eq_false (by omega)
  have x1n : decide (300 < V.length) = false := decide_eq_false x1
  have x1m : (300 < (V.length : Int)) = False := eq_false (by omega)
  clear x1
  by_cases x2 : 300 < C.length
  · have x2i : (300 : Int) < C.length := by omega
    clear x2
    go_enter Try.func6, Try.ntmps6
    go_wp2_with fail
    refine (small_any _).mono ?_
    rintro e w1 ⟨rfl, u⟩
    replace HN := hid (keep_nds HN.out u)
    replace HV := hid (keep_ints HV.out u)
    replace HC := hid (keep_ints HC.out u)
    replace HB := hid ((u.block _ (heap_lt HB.out) id).trans HB.out)
    replace HU := hid (HU.out.trans u)
    obtain ⟨k0, k1, _⟩ := cells2 HB.out
    clear u
    go_wp2_with fail
    refine (few_any _ l 200 _ HN.out (by decide)).mono ?_
    rintro e wf ⟨rfl, hwf⟩
    subst hwf
    rw [HF.out]
    go_wp2_with fail
    go_ret
    exact ⟨rfl, HU.out⟩
  have x2i : (C.length : Int) ≤ 300 := by omega
  have x2b : decide (300 < (C.length : Int)) = false := decide_eq_false (by omega)
  have x2n : decide (300 < C.length) = false := decide_eq_false x2
  have x2m : (300 < (C.length : Int)) = False := eq_false (by omega)
  clear x2
  cases hr : right l
  · have HR := hid hr; clear hr
    go_enter Try.func6, Try.ntmps6
    go_wp2_with fail
    refine (small_any _).mono ?_
    rintro e w1 ⟨rfl, u⟩
    replace HN := hid (keep_nds HN.out u)
    replace HV := hid (keep_ints HV.out u)
    replace HC := hid (keep_ints HC.out u)
    replace HB := hid ((u.block _ (heap_lt HB.out) id).trans HB.out)
    replace HU := hid (HU.out.trans u)
    obtain ⟨k0, k1, _⟩ := cells2 HB.out
    clear u
    go_wp2_with fail
    refine (few_any _ l 200 _ HN.out (by decide)).mono ?_
    rintro e wf ⟨rfl, hwf⟩
    subst hwf
    rw [HF.out]
    go_wp2_with fail
    refine (right_any _ l _ HN.out).mono ?_
    rintro e w2 ⟨rfl, u⟩
    replace HN := hid (keep_nds HN.out u)
    replace HV := hid (keep_ints HV.out u)
    replace HC := hid (keep_ints HC.out u)
    replace HB := hid ((u.block _ (heap_lt HB.out) id).trans HB.out)
    replace HU := hid (HU.out.trans u)
    clear u
    rw [HR.out]
    go_wp2_with fail
    go_ret
    exact ⟨rfl, HU.out⟩
  have HR := hid hr; clear hr
  have HP := hid ((right_iff l).1 HR.out)
  have hn1 : (l.length : Int) ≤ 3000 := by have := HP.out.few; omega
  have hn0 : (1 : Int) ≤ l.length := by have := HP.out.pos; omega
  go_enter Try.func6, Try.ntmps6
  go_wp2_with fail
  refine (small_any _).mono ?_
  rintro e w1 ⟨rfl, u⟩
  replace HN := hid (keep_nds HN.out u)
  replace HV := hid (keep_ints HV.out u)
  replace HC := hid (keep_ints HC.out u)
  replace HB := hid ((u.block _ (heap_lt HB.out) id).trans HB.out)
  replace HU := hid (HU.out.trans u)
  obtain ⟨k0, k1, _⟩ := cells2 HB.out
  clear u
  go_wp2_with fail
  refine (few_any _ l 200 _ HN.out (by decide)).mono ?_
  rintro e wf ⟨rfl, hwf⟩
  subst hwf
  rw [HF.out]
  go_wp2_with fail
  refine (right_any _ l _ HN.out).mono ?_
  rintro e w2 ⟨rfl, u⟩
  replace HN := hid (keep_nds HN.out u)
  replace HV := hid (keep_ints HV.out u)
  replace HC := hid (keep_ints HC.out u)
  replace HB := hid ((u.block _ (heap_lt HB.out) id).trans HB.out)
  replace HU := hid (HU.out.trans u)
  clear u
  rw [HR.out]
  clear k0 k1
  go_wp2_with fail
  refine (value_any _ l _ HN.out).mono ?_
  intro e w3 hp
  unfold ValuePost at hp
  rw [if_pos HR.out] at hp
  obtain ⟨gv, rfl, _, hvv, u⟩ := hp
  replace HN := hid (keep_nds HN.out u)
  replace HV := hid (keep_ints HV.out u)
  replace HC := hid (keep_ints HC.out u)
  replace HB := hid ((u.block _ (heap_lt HB.out) id).trans HB.out)
  replace HU := hid (HU.out.trans u)
  have HVV := hid hvv
  clear hvv u
  go_wp2_with fail
  refine (prove_any _ l _ HN.out).mono ?_
  intro e w4 hp
  unfold ProvePost at hp
  rw [if_pos HR.out] at hp
  obtain ⟨gp, gc, rfl, _, _, _, hpv, hpc, u⟩ := hp
  replace HN := hid (keep_nds HN.out u)
  replace HV := hid (keep_ints HV.out u)
  replace HC := hid (keep_ints HC.out u)
  replace HVV := hid (HVV.out.upd u id)
  replace HB := hid ((u.block _ (heap_lt HB.out) id).trans HB.out)
  replace HU := hid (HU.out.trans u)
  have ua := (Upd.refl (fun _ => False) w4).alloc (.cells #[.slice (some ⟨gp, 0, none⟩) l.length l.length, .slice (some ⟨gc, 0, none⟩) l.length l.length] 25 (0, 0))
  have hxb : (w4.alloc (.cells #[.slice (some ⟨gp, 0, none⟩) l.length l.length, .slice (some ⟨gc, 0, none⟩) l.length l.length] 25 (0, 0))).heap[w4.heap.size]? = some (.cells #[.slice (some ⟨gp, 0, none⟩) l.length l.length, .slice (some ⟨gc, 0, none⟩) l.length l.length] 25 (0, 0)) := heap_alloc_new
  have HXB := hid hxb; have HPV := hid (hpv.upd ua id); have HPC := hid (hpc.upd ua id)
  replace HN := hid (keep_nds HN.out ua)
  replace HV := hid (keep_ints HV.out ua)
  replace HC := hid (keep_ints HC.out ua)
  replace HVV := hid (HVV.out.upd ua id)
  replace HB := hid ((ua.block _ (heap_lt HB.out) id).trans HB.out)
  replace HU := hid (HU.out.trans ua)
  clear u ua hxb hpv hpc
  go_upto_region 8 with (fail)
  generalize hW5 : w4.alloc (.cells #[.slice (some ⟨gp, 0, none⟩) l.length l.length, .slice (some ⟨gc, 0, none⟩) l.length l.length] 25 (0, 0)) = w5 at *
  generalize w4.heap.size = xb at *
  clear hW5
  obtain ⟨k0, k1, _⟩ := cells2 HB.out
  go_cut [74] (fun s wx => CkCut l V C w5 s wx)
  case first =>
    go_wp2_with fail
    refine (check_any _ _ _ l V C _ HN.out HV.out HC.out).mono ?_
    rintro e w6 ⟨n, rfl, _, hn, u⟩
    have HCK := hid (hn HR.out)
    have UC := hid u
    clear hn u k0 k1
    rcases HCK.out.1 with hn | hn
    · subst hn
      have HH := hid (HCK.out.2.1 rfl)
      clear HCK
      go_wp2_with fail
      go_meet
      case rel => exact ⟨true, rfl, fun _ => HH.out, UC.out⟩
    · subst hn
      go_wp2_with fail
      go_meet
      case rel => exact ⟨false, rfl, fun h => absurd h (by decide), UC.out⟩
  case rest =>
    obtain ⟨bk, rfl, hk, u⟩ := hcut
    have HK := hid hk
    replace HN := hid (keep_nds HN.out u)
    replace HV := hid (keep_ints HV.out u)
    replace HC := hid (keep_ints HC.out u)
    replace HVV := hid (HVV.out.upd u id)
    replace HPV := hid (HPV.out.upd u id)
    replace HPC := hid (HPC.out.upd u id)
    replace HB := hid ((u.block _ (heap_lt HB.out) id).trans HB.out)
    replace HXB := hid ((u.block _ (heap_lt HXB.out) id).trans HXB.out)
    replace HU := hid (HU.out.trans u)
    clear hk u k0 k1
    obtain ⟨k0, k1, _⟩ := cells2 HB.out
    go_upto_if 74 with (fail)
    go_cut [14] (fun _ wx => Upd (fun _ => False) wc wx)
    case first =>
      cases bk
      · clear k0 k1
        go_wp2_with fail
        go_meet
        case rel => exact Upd.refl _ _
      · have HH := hid (HK.out rfl)
        clear HK
        have c2 := HH.out.1
        have c2b : ((V.length : Int) != l.length) = false := by rw [c2]; simp
        have c2c : (V.length != l.length) = false := by rw [c2]; simp
        have C2 := hid c2; clear c2
        obtain ⟨b1, o1, ra, hb1, hel1⟩ := slice_at HV.out (by rw [C2.out]; exact HP.out.pos)
        subst ra
        have HEL := hid hel1
        clear hel1
        go_wp2_with fail
        clear c2b c2c
        go_loopg [14] l.length (fun gg s wr => ∃ i : Nat, i ≤ l.length ∧ gg = l.length - i ∧ s = .int .i64 i ∧ Upd (fun _ => False) wc wr)
        case atStart => exact ⟨0, Nat.zero_le _, rfl, rfl, Upd.refl _ _⟩
        case round =>
          obtain ⟨i, hi, hg, rfl, u⟩ := hrel
          have HG := hid hg; have UU := hid u
          clear hg u k0 k1
          by_cases hlt : i < l.length
          · have hiv : i < V.length := by rw [C2.out]; exact hlt
            have hii : (i : Int) < V.length := by omega
            have hil : (i : Int) < l.length := by omega
            have n0 := int_cells HEL.out hiv
            rw [geti_at' hiv] at n0
            have n0 := cell_nx n0 UU.out
            have n1 := (HVV.out.upd UU.out id).cell (k := i) (by rw [vlist_len]; exact hlt)
            rw [geti_at'] at n1
            obtain ⟨k0, k1, _⟩ := cells2 ((UU.out.block _ (heap_lt HB.out) id).trans HB.out)
            have hle := least HP.out HH.out l.length i hlt (by omega)
            generalize geti (vlist l) i = x at *
            generalize geti V i = y at *
            go_wp2_with fail
            go_quiet (fail)
            go_wp2_with fail
            go_roundg (l.length - (i + 1))
            case measure => have := HG.out; omega
            case rel => exact ⟨i + 1, by omega, rfl, by go_num, UU.out.drewN _⟩
          · obtain rfl : i = l.length := by omega
            go_wp2_with fail
            go_meet
            case rel => exact UU.out
    case rest =>
      have u := hcut
      replace HN := hid (keep_nds HN.out u)
      replace HV := hid (keep_ints HV.out u)
      replace HC := hid (keep_ints HC.out u)
      replace HVV := hid (HVV.out.upd u id)
      replace HPV := hid (HPV.out.upd u id)
      replace HPC := hid (HPC.out.upd u id)
      replace HB := hid ((u.block _ (heap_lt HB.out) id).trans HB.out)
      replace HXB := hid ((u.block _ (heap_lt HXB.out) id).trans HXB.out)
      replace HU := hid (HU.out.trans u)
      clear hcut u k0 k1 HK HC
      obtain ⟨j0, j1, _⟩ := cells2 HXB.out
      have hxl := heap_lt HXB.out
      have hgpl := HPV.out.lt
      have hgcl := HPC.out.lt
      have ub0 : UpAt l more (wc.alloc (.cells #[.slice none 0 0, .slice (some ⟨gc, 0, none⟩) l.length l.length] 25 (0, 0))) (wc.alloc (.cells #[.slice none 0 0, .slice (some ⟨gc, 0, none⟩) l.length l.length] 25 (0, 0))) wc.heap.size gc 0 (.slice none 0 0) :=
        ⟨heap_alloc_new, World.ownsRow_nil _ _ _ _, Upd.refl _ _, by simp⟩
      have hwu : ∀ w', Upd (· = wc.heap.size) (wc.alloc (.cells #[.slice none 0 0, .slice (some ⟨gc, 0, none⟩) l.length l.length] 25 (0, 0))) w' → Upd (fun _ => False) wc w' :=
        fun w' h => ((Upd.refl (fun _ => False) wc).alloc _).comp h fun i hi e => by omega
      have UB0 := hid ub0; have HWU := hid hwu
      clear ub0 hwu HB HV
      go_wp2_with fail
      clear j0 j1
      generalize hW7 : wc.alloc (.cells #[.slice none 0 0, .slice (some ⟨gc, 0, none⟩) l.length l.length] 25 (0, 0)) = w7 at *
      clear hW7
      have HNA := hid (show NdsAt _ l wc from HN.out)
      clear HN
      generalize hub : wc.heap.size = ub at *
      have HUB := hid hub
      clear hub
      go_loopg [16] l.length (fun gg s wr => ∃ (k : Nat) (vu : Value), k ≤ l.length ∧ gg = l.length - k ∧ s = .int .i64 k ∧ UpAt l more w7 wr ub gc k vu)
      case atStart => exact ⟨0, _, Nat.zero_le _, rfl, rfl, UB0.out⟩
      case round =>
        clear UB0
        obtain ⟨k, vu, hk, hg, rfl, st⟩ := hrel
        have HG := hid hg; have ST := hid st
        clear hg st
        have hbs := (HWU.out wr ST.out.u).size
        rw [HUB.out] at hbs
        have hubl := heap_lt ST.out.head
        by_cases hlt : k < l.length
        · obtain ⟨gb, cap, w2, r, q1, q2, st2⟩ := ST.out.step hlt HP.out.few
          have ST2 := hid st2
          have q0 : wr.cell? ⟨ub, 0, none⟩ = some vu := by rw [cell_of_block ST.out.head]; rfl
          obtain ⟨j0, j1, _⟩ := cells2 (((HWU.out wr ST.out.u).block _ (heap_lt HXB.out) id).trans HXB.out)
          have n1 := (HPV.out.upd (HWU.out wr ST.out.u) id).cell (k := k) (by rw [vlist_len]; exact hlt)
          rw [geti_at'] at n1
          have vb := vlist_bound HP.out k
          rw [show maxGain = 1099511627776 from rfl] at vb
          have hki : (k : Int) < l.length := by omega
          have hxw : xb < wr.heap.size := by omega
          have hgw : gp < wr.heap.size := by omega
          clear st2
          generalize geti (vlist l) k = x at *
          have hw1 : IntKind.i64.wrap more = more := IntWalk.i64_in _ (by omega)
          have hw2 : IntKind.i64.wrap (x + more) = x + more := IntWalk.i64_in _ (by omega)
          go_wp2_with fail
          go_region_law (refine step_append_run rfl _ _ _ _ rfl rfl rfl r ?_)
          all_goals
            go_wp2_with fail
            go_roundg (l.length - (k + 1))
            case measure => have := HG.out; omega
            case rel => exact ⟨k + 1, _, by omega, rfl, by go_num, ST2.out⟩
        · obtain rfl : k = l.length := by omega
          have u := HWU.out wr ST.out.u
          have HN := hid (nds_of HNA.out)
          replace HN := hid (keep_nds HN.out u)
          replace HPV := hid (HPV.out.upd u id)
          replace HPC := hid (HPC.out.upd u id)
          replace HXB := hid ((u.block _ (heap_lt HXB.out) id).trans HXB.out)
          replace HU := hid (HU.out.trans u)
          have R1 := hid (ST.out.rep HP.out (by omega))
          have hlm : l.length ≤ maxLen := by have := HP.out.few; unfold maxLen; omega
          have r2 := HPC.out.rep (A := (· < wr.heap.size)) (cap := l.length) (proveC_wf HP.out) (by rw [proveC_len]; exact Nat.le_refl _) hlm HPC.out.lt
          rw [proveC_len] at r2
          have R2 := hid r2
          obtain ⟨k0, k1, _⟩ := cells2 ST.out.head
          have hup : Holds l ((vlist l).map fun x => x + more) (proveC l) := prove_up HP.out (by omega) (by rw [List.length_map, vlist_len]) fun i hi => geti_map (by rw [vlist_len]; exact hi)
          have HUP := hid hup
          obtain ⟨av, nv, cvv, ev⟩ : ∃ a n c, vu = .slice a n c := by
            obtain ⟨a, c, e, _⟩ := slice_open R1.out
            exact ⟨a, _, c, e⟩
          subst ev
          clear u r2 hup hlm
          go_wp2_with fail
          refine (check_any _ _ _ l ((vlist l).map fun x => x + more) (proveC l) _ HN.out R1.out R2.out).mono ?_
          rintro e w8 ⟨n, rfl, _, hn, u⟩
          obtain rfl : n = 0 := (hn HR.out).2.2 HUP.out
          replace HN := hid (keep_nds HN.out u)
          replace HPV := hid (HPV.out.upd u id)
          replace HPC := hid (HPC.out.upd u id)
          replace HXB := hid ((u.block _ (heap_lt HXB.out) id).trans HXB.out)
          replace HU := hid (HU.out.trans u)
          clear hn u k0 k1 R1 R2 HUP ST HVV HWU
          by_cases b0 : at_ < 0
          · go_wp2_with fail
            go_ret
            exact ⟨rfl, HU.out⟩
          obtain ⟨a, rfl⟩ := Int.eq_ofNat_of_zero_le (show 0 ≤ at_ by omega)
          by_cases b1 : l.length ≤ a
          · have b1i : (l.length : Int) ≤ a := by omega
            go_wp2_with fail
            go_ret
            exact ⟨rfl, HU.out⟩
          have hal : a < l.length := by omega
          have hai : (a : Int) < l.length := by omega
          have hxw := heap_lt HXB.out
          have hgpl2 := HPV.out.lt
          have hlv0 : 0 < (vlist l).length := by rw [vlist_len]; omega
          have hlv3 : (vlist l).length ≤ 3000 := by rw [vlist_len]; exact HP.out.few
          have bA := heap_alloc_new (w := w8) (o := .cells #[] 3 (0, 0))
          have bB := heap_alloc_new (w := w8.alloc (.cells #[.slice none 0 0, .slice none 0 0] 25 (0, 0))) (o := .cells #[] 3 (0, 0))
          have bC := (heap_alloc_old (w := w8.alloc (.cells #[] 3 (0, 0))) (o := .cells #[.slice none 0 0, .slice none 0 0] 25 (0, 0)) (k := w8.heap.size) (by rw [World.size_alloc]; omega)).trans heap_alloc_new
          have zB := (heap_alloc_old (w := w8.alloc (.cells #[.slice none 0 0, .slice none 0 0] 25 (0, 0))) (o := .cells #[] 3 (0, 0)) (k := w8.heap.size) (by rw [World.size_alloc]; omega)).trans heap_alloc_new
          have zC := heap_alloc_new (w := w8.alloc (.cells #[] 3 (0, 0))) (o := .cells #[.slice none 0 0, .slice none 0 0] 25 (0, 0))
          rw [World.size_alloc] at bB zC
          have uA := ((Upd.refl (fun _ => False) w8).alloc (.cells #[] 3 (0, 0))).drew
          have uB := (((Upd.refl (fun _ => False) w8).alloc (.cells #[.slice none 0 0, .slice none 0 0] 25 (0, 0))).alloc (.cells #[] 3 (0, 0))).drew
          have uC := (((Upd.refl (fun _ => False) w8).alloc (.cells #[] 3 (0, 0))).alloc (.cells #[.slice none 0 0, .slice none 0 0] 25 (0, 0))).drew
          obtain ⟨f, hrun, hfun⟩ := clo_fun w8 gp (vlist l) hlv3 hlv0
          have gA : CloGo gp w8.heap.size (vlist l) w8 ((w8.alloc (.cells #[] 3 (0, 0))).drew) := ⟨⟨HPV.out.upd uA id, bA⟩, Nat.le_refl _, uA⟩
          have gB : CloGo gp (w8.heap.size + 1) (vlist l) w8 (((w8.alloc (.cells #[.slice none 0 0, .slice none 0 0] 25 (0, 0))).alloc (.cells #[] 3 (0, 0))).drew) := ⟨⟨HPV.out.upd uB id, bB⟩, Nat.le_succ _, uB⟩
          have gC : CloGo gp w8.heap.size (vlist l) w8 (((w8.alloc (.cells #[] 3 (0, 0))).alloc (.cells #[.slice none 0 0, .slice none 0 0] 25 (0, 0))).drew) := ⟨⟨HPV.out.upd uC id, bC⟩, Nat.le_refl _, uC⟩
          obtain ⟨oA, vA, _, _⟩ := hfun _ _ gA
          obtain ⟨oB, vB, xB, nB⟩ := hfun _ _ gB
          obtain ⟨oC, vC, xC, nC⟩ := hfun _ _ gC
          have zB2 : (f (((w8.alloc (.cells #[.slice none 0 0, .slice none 0 0] 25 (0, 0))).alloc (.cells #[] 3 (0, 0))).drew) (w8.heap.size + 1)).2.2.heap[w8.heap.size]? = some (.cells #[.slice none 0 0, .slice none 0 0] 25 (0, 0)) := (xB.block _ (heap_lt (w := (World.alloc _ _).drew) zB) (by omega)).trans zB
          have zC2 : (f (((w8.alloc (.cells #[] 3 (0, 0))).alloc (.cells #[.slice none 0 0, .slice none 0 0] 25 (0, 0))).drew) w8.heap.size).2.2.heap[w8.heap.size + 1]? = some (.cells #[.slice none 0 0, .slice none 0 0] 25 (0, 0)) := (xC.block _ (heap_lt (w := (World.alloc _ _).drew) zC) (by omega)).trans zC
          rw [vlist_len] at hrun
          have dA := down_a (l := l) (gc := gc) hal oA vA
          have dB := down_b (l := l) (gc := gc) oB vB zB2 (nB _ (heap_lt (w := (World.alloc _ _).drew) zB) (by omega)) (Nat.le_refl _)
          have dC := down_b (l := l) (gc := gc) oC vC zC2 (nC _ (heap_lt (w := (World.alloc _ _).drew) zC) (by omega)) (Nat.le_succ _)
          have DA := hid dA; have DB := hid dB; have DC := hid dC; have HRUN := hid hrun
          clear hrun
          obtain ⟨zb0, zb1, zbf⟩ := cells2 zB2
          obtain ⟨zc0, zc1, zcf⟩ := cells2 zC2
          obtain ⟨j0, j1, _⟩ := cells2 HXB.out
          have hxA := Nat.lt_of_lt_of_le hxw vA.size
          have hxB := Nat.lt_of_lt_of_le hxw vB.size
          have hxC := Nat.lt_of_lt_of_le hxw vC.size
          have cA0 := cell_nx j0 vA; have cA1 := cell_nx j1 vA
          have cB0 := cell_nx j0 vB; have cB1 := cell_nx j1 vB
          have cC0 := cell_nx j0 vC; have cC1 := cell_nx j1 vC
          clear hfun oA oB oC vA vB vC xB xC nB nC bA bB bC zB zC uA uB uC dA dB dC zB2 zC2 hlv0 hlv3
          go_upto_region 25 with (fail)
          go_cut [17] (fun s wx => DownCut l gc w8 s wx)
          case first =>
            go_wp2_with fail
            go_region_law (refine step_append_run rfl _ _ _ _ rfl rfl rfl (HRUN.out _ _ (by with_reducible (first | exact gA | exact gB | exact gC))) ?_)
            all_goals
              go_wp2_with fail
              go_meet
              case rel => first | exact DA.out | exact DB.out | exact DC.out
          case rest =>
            obtain ⟨db, g, cap, rfl, hdb, od, hne, hdl, u⟩ := hcut
            obtain ⟨wd, rfl⟩ : ∃ wd : World, wd = wc := ⟨_, rfl⟩
            have hal2 : a < (vlist l).length := by rw [vlist_len]; exact hal
            obtain ⟨d0, d1, d2, d3, d4, d5⟩ := own_cell od hal2
            obtain ⟨j0, j1, _⟩ := cells2 hdb
            have vb := vlist_bound HP.out a
            rw [show maxGain = 1099511627776 from rfl] at vb
            have hnod : ¬ Holds l ((vlist l).set a (geti (vlist l) a - 1)) (proveC l) := least_down HP.out hal (by rw [geti_set _ _ _ _ hal2, if_pos rfl])
            have os := own_set (w := wd.drew) od hal2 (geti (vlist l) a - 1)
            rw [List.length_set, vlist_len] at os
            have wfs : ∀ x ∈ (vlist l).set a (geti (vlist l) a - 1), (Lit.int .i64 x).wf = true := fun x hx => by
              rcases List.mem_or_eq_of_mem_set hx with h | h
              · exact vlist_wf HP.out x h
              · rw [h]; exact iwf (by omega)
            have HNOD := hid hnod; have OS := hid os; have WFS := hid wfs; have HDB := hid hdb
            have hcapb : cap ≤ 9223372036854775807 := d5
            have usc := (u.drew).setCell ⟨g, a, none⟩ (.int .i64 (geti (vlist l) a - 1)) (.inr d3)
            have USC := hid usc
            clear od hnod os wfs hdb u usc HXB
            rw [vlist_len] at d4
            have d4i : (l.length : Int) ≤ cap := by omega
            generalize hx : geti (vlist l) a = x at *
            clear hx
            go_upto_region 26 with (fail)
            go_cut [147] (fun s wx => s = .int .i64 (x - 1) ∧ wx = wd.drew.setCell ⟨g, a, none⟩ (.int .i64 (x - 1)))
            case first =>
              have hw3 : IntKind.i64.wrap (x - 1) = x - 1 := IntWalk.i64_in _ (by omega)
              go_wp2_with fail
              go_region
              all_goals
                go_wp2_with fail
                go_meet
                case rel => exact ⟨rfl, rfl⟩
            case rest =>
              obtain ⟨rfl, hwc⟩ := hcut
              clear j0 j1 d0 d1
              have hdb2 : (wd.drew.setCell ⟨g, a, none⟩ (.int .i64 (x - 1))).heap[db]? = _ := (heap_setCell_other (w := wd.drew) (p := ⟨g, a, none⟩) hne).trans HDB.out
              have HDB2 := hid hdb2
              clear hdb2
              generalize hwe : wd.drew.setCell ⟨g, a, none⟩ (.int .i64 (x - 1)) = we at *
              subst hwc
              clear hwe
              have u := USC.out
              replace HN := hid (keep_nds HN.out u)
              replace HPC := hid (HPC.out.upd u id)
              replace HU := hid (HU.out.trans u)
              clear u
              have os := OS.out
              have r1 := own_rep (g := g) (cap := cap) (L := (vlist l).set a (x - 1)) (base := w8.heap.size) (w := wc) (by rw [List.length_set, vlist_len]; exact os) WFS.out
              rw [List.length_set, vlist_len] at r1
              have hlm : l.length ≤ maxLen := by have := HP.out.few; unfold maxLen; omega
              have r2 := HPC.out.rep (A := (· < wc.heap.size)) (cap := l.length) (proveC_wf HP.out) (by rw [proveC_len]; exact Nat.le_refl _) hlm HPC.out.lt
              rw [proveC_len] at r2
              have R1 := hid r1; have R2 := hid r2
              clear os r1 r2 hlm OS USC WFS
              obtain ⟨j0, j1, _⟩ := cells2 HDB2.out
              go_wp2_with fail
              refine (check_any _ _ _ l ((vlist l).set a (x - 1)) (proveC l) _ HN.out R1.out R2.out).mono ?_
              rintro e wz ⟨n, rfl, _, hn, u⟩
              obtain rfl : n = 21 := by
                obtain ⟨h1, h2⟩ := hn HR.out
                rcases h1 with h1 | h1
                · exact absurd (h2.1 h1) HNOD.out
                · exact h1
              replace HU := hid (HU.out.trans u)
              clear hn u j0 j1
              go_wp2_with fail
              go_ret
              exact ⟨rfl, HU.out⟩
end Go.Proofs.Ytmjjfafkmfcpnaa
