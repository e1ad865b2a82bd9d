/- The walk of GameTells. -/
import Derived.Test.YtmjjfafkmfcpnaaGmR2
import Derived.Test.YtmjjfafkmfcpnaaGmR3
import Derived.Test.YtmjjfafkmfcpnaaGmR4
import Derived.Deep.RegionHeld3
namespace Go.Proofs.Ytmjjfafkmfcpnaa
open Go.RowKit Go.Deep

def kCert : Knd (List Int × List Int) := kPair kInts kInts
theorem reads_cert : Reads Try.prog 25 kCert :=
  reads_struct Try.underlying25 (tail_cons rfl rfl reads_ints (tail_last rfl rfl reads_ints (by kernel_rfl)))
theorem cert_open {A : Nat → Prop} {w : World} {cs : Array Value} {x : List Int × List Int} (h : kCert.rep A w cs.toList x) : ∃ v1 v2, cs = #[v1, v2] ∧ kInts.rep A w [v1] x.1 ∧ kInts.rep A w [v2] x.2 := by
  obtain ⟨c, d, e, h1, h2⟩ := h
  have l1 : c.length = 1 := kInts.len h1
  have l2 : d.length = 1 := kInts.len h2
  obtain ⟨v1, rfl⟩ := List.length_eq_one_iff.1 l1
  obtain ⟨v2, rfl⟩ := List.length_eq_one_iff.1 l2
  refine ⟨v1, v2, ?_, h1, h2⟩
  cases cs; simp at e; simp [e]

def erR (l : List Nd) : Int := if right l = true then 0 else 1
def vR (l : List Nd) : List Int := if right l = true then vlist l else []
def cR (l : List Nd) : List Int := if right l = true then proveC l else []
def bR (l : List Nd) : List Int := if right l = true then bestB l else []
def erP (l : List Nd) (m o : List Int) : Int := if playOk l m o = true then 0 else 1
def gR (l : List Nd) (m o : List Int) : Int := if playOk l m o = true then (playF l m o l.length 0).1 else 0
def pR (l : List Nd) (m o : List Int) : List Int := if playOk l m o = true then pathI l m o else []
open Classical in
noncomputable def ckN (l : List Nd) (V C : List Int) : Int := if right l = true then (if Holds l V C then 0 else 21) else 1

def U1Post (L : List Int) (er : Int) (w : World) (e : Ending) (w' : World) : Prop :=
  ∃ a n c, e = .returned (.tuple #[.slice a n c, .int .i64 er]) ∧ kInts.rep (· < w'.heap.size) w' [.slice a n c] L ∧ Upd (fun _ => False) w w'
def U2Post (L M : List Int) (er : Int) (w : World) (e : Ending) (w' : World) : Prop :=
  ∃ a n c b m d, e = .returned (.tuple #[.agg #[.slice a n c, .slice b m d], .int .i64 er]) ∧ kInts.rep (· < w'.heap.size) w' [.slice a n c] L ∧ kInts.rep (· < w'.heap.size) w' [.slice b m d] M ∧ Upd (fun _ => False) w w'
def U3Post (g : Int) (L : List Int) (er : Int) (w : World) (e : Ending) (w' : World) : Prop :=
  ∃ a n c, e = .returned (.tuple #[.int .i64 g, .slice a n c, .int .i64 er]) ∧ kInts.rep (· < w'.heap.size) w' [.slice a n c] L ∧ Upd (fun _ => False) w w'

theorem nil_rep (A : Nat → Prop) (w : World) : kInts.rep A w [.slice none 0 0] [] := .inl ⟨none, 0, rfl, Nat.zero_le _, rfl⟩
theorem blk_rep {w : World} {g n : Nat} {L : List Int} (h : IntsBlk w g L) (hn : L.length = n) (hw : ∀ x ∈ L, (Lit.int .i64 x).wf = true) (hl : n ≤ 3000) : kInts.rep (· < w.heap.size) w [.slice (some ⟨g, 0, none⟩) n n] L := by
  subst hn
  exact h.rep hw (Nat.le_refl _) (by unfold maxLen; omega) h.lt

theorem u1_of_value {l : List Nd} {w w' : World} {e : Ending} (h : ValuePost l w e w') : U1Post (vR l) (erR l) w e w' := by
  unfold ValuePost at h; unfold U1Post vR erR
  by_cases hr : right l = true
  · rw [if_pos hr] at h ⊢
    rw [if_pos hr]
    have hp := (right_iff l).1 hr
    obtain ⟨g, he, _, hv, u⟩ := h
    exact ⟨_, _, _, he, blk_rep hv (vlist_len l) (vlist_wf hp) hp.few, u⟩
  · rw [if_neg hr] at h ⊢
    rw [if_neg hr]
    exact ⟨_, _, _, h.1, nil_rep _ _, h.2⟩
theorem u1_of_best {l : List Nd} {w w' : World} {e : Ending} (h : BestPost l w e w') : U1Post (bR l) (erR l) w e w' := by
  unfold BestPost at h; unfold U1Post bR erR
  by_cases hr : right l = true
  · rw [if_pos hr] at h ⊢
    rw [if_pos hr]
    have hp := (right_iff l).1 hr
    obtain ⟨g, he, _, hv, u⟩ := h
    exact ⟨_, _, _, he, blk_rep hv (bestB_len l) (bestB_wf hp) hp.few, u⟩
  · rw [if_neg hr] at h ⊢
    rw [if_neg hr]
    exact ⟨_, _, _, h.1, nil_rep _ _, h.2⟩
theorem u1_of_refBest {l : List Nd} {w w' : World} {e : Ending} (h : RefBestPost l w e w') : U1Post (bR l) (erR l) w e w' := by
  unfold RefBestPost at h; unfold U1Post bR erR
  by_cases hr : right l = true
  · rw [if_pos hr] at h ⊢
    rw [if_pos hr]
    obtain ⟨a, c, he, hv, u⟩ := h
    exact ⟨_, _, _, he, hv, u⟩
  · rw [if_neg hr] at h ⊢
    rw [if_neg hr]
    exact ⟨_, _, _, h.1, nil_rep _ _, h.2⟩
theorem u2_of_prove {l : List Nd} {w w' : World} {e : Ending} (h : ProvePost l w e w') : U2Post (vR l) (cR l) (erR l) w e w' := by
  unfold ProvePost at h; unfold U2Post vR cR erR
  by_cases hr : right l = true
  · rw [if_pos hr] at h ⊢
    rw [if_pos hr, if_pos hr]
    have hp := (right_iff l).1 hr
    obtain ⟨g, k, he, _, _, _, hv, hc, u⟩ := h
    exact ⟨_, _, _, _, _, _, he, blk_rep hv (vlist_len l) (vlist_wf hp) hp.few, blk_rep hc (proveC_len l) (proveC_wf hp) hp.few, u⟩
  · rw [if_neg hr] at h ⊢
    rw [if_neg hr, if_neg hr]
    exact ⟨_, _, _, _, _, _, h.1, nil_rep _ _, nil_rep _ _, h.2⟩
theorem u2_of_refProve {l : List Nd} {w w' : World} {e : Ending} (h : RefProvePost l w e w') : U2Post (vR l) (cR l) (erR l) w e w' := by
  unfold RefProvePost at h; unfold U2Post vR cR erR
  by_cases hr : right l = true
  · rw [if_pos hr] at h ⊢
    rw [if_pos hr, if_pos hr]
    obtain ⟨a, c, b, d, he, hv, hc, u⟩ := h
    exact ⟨_, _, _, _, _, _, he, hv, hc, u⟩
  · rw [if_neg hr] at h ⊢
    rw [if_neg hr, if_neg hr]
    exact ⟨_, _, _, _, _, _, h.1, nil_rep _ _, nil_rep _ _, h.2⟩
theorem u3_of_play {l : List Nd} {m o : List Int} {w w' : World} {e : Ending} (h : PlayPost l m o w e w') : U3Post (gR l m o) (pR l m o) (erP l m o) w e w' := by
  unfold PlayPost at h; unfold U3Post gR pR erP
  by_cases hr : playOk l m o = true
  · rw [if_pos hr] at h ⊢
    rw [if_pos hr, if_pos hr]
    obtain ⟨v, he, hv, u⟩ := h
    obtain ⟨a, c, rfl, _⟩ := slice_open hv
    exact ⟨_, _, _, he, kInts.mono hv fun x hx => hx.2, u⟩
  · rw [if_neg hr] at h ⊢
    rw [if_neg hr, if_neg hr]
    exact ⟨_, _, _, h.1, nil_rep _ _, h.2⟩
theorem ck_of {l : List Nd} {V C : List Int} {w w' : World} {e : Ending} (h : CheckPost l V C w e w') : e = .returned (.int .i64 (ckN l V C)) ∧ Upd (fun _ => False) w w' := by
  obtain ⟨n, rfl, h1, h2, u⟩ := h
  refine ⟨?_, u⟩
  have hn : n = ckN l V C := by
    unfold ckN
    cases hr : right l
    · rw [if_neg (by decide)]; exact h1 hr
    · rw [if_pos rfl]
      obtain ⟨h3, h4⟩ := h2 hr
      by_cases hh : Holds l V C
      · rw [if_pos hh]; exact h4.2 hh
      · rw [if_neg hh]
        rcases h3 with h3 | h3
        · exact absurd (h4.1 h3) hh
        · exact h3
  rw [hn]

set_option maxRecDepth 100000 in
set_option maxHeartbeats 4000000 in
theorem tells_walk (v : Value) (l : List Nd) (cs : Array Value) (cert : List Int × List Int) (v1 : Value) (mine : List Int) (v2 : Value) (others : List Int) (W : World) (h0 : (kSlice kNd).rep (· < W.heap.size) W [v] l) (hc : kCert.rep (· < W.heap.size) W cs.toList cert) (h1 : kInts.rep (· < W.heap.size) W [v1] mine) (h2 : kInts.rep (· < W.heap.size) W [v2] others) :
    Calls Try.prog 3 #[v, .agg cs, v1, v2] W fun e w' => e = .returned (.bool true) ∧ Below W.heap.size W w' := by
  have fin : ∀ w' e, (e = Ending.returned (.bool true) ∧ Upd (fun _ => False) W w') → (e = .returned (.bool true) ∧ Below W.heap.size W w') := fun w' e h => ⟨h.1, h.2.below (Nat.le_refl _) fun _ h => h.elim⟩
  suffices hs : Calls Try.prog 3 #[v, .agg cs, v1, v2] W fun e w' => e = .returned (.bool true) ∧ Upd (fun _ => False) W w' from hs.mono fun e w' h => fin w' e h
  clear fin
  obtain ⟨vv, vc, rfl, hv, hcc⟩ := cert_open hc
  obtain ⟨V, C⟩ := cert
  dsimp only at hv hcc
  obtain ⟨a0, cap0, rfl, p1, p2, _⟩ := slice_open h0
  obtain ⟨a1, cap1, rfl, q1, q2, _⟩ := slice_open h1
  obtain ⟨a2, cap2, rfl, r1, r2, _⟩ := slice_open hv
  obtain ⟨a3, cap3, rfl, s1, s2, _⟩ := slice_open hcc
  obtain ⟨a4, cap4, rfl, t1, t2, _⟩ := slice_open h2
  have p2 : cap0 ≤ 9223372036854775807 := p2
  have q2 : cap1 ≤ 9223372036854775807 := q2
  have r2 : cap2 ≤ 9223372036854775807 := r2
  have s2 : cap3 ≤ 9223372036854775807 := s2
  have t2 : cap4 ≤ 9223372036854775807 := t2
  have ua := (Upd.refl (fun _ => False) W).alloc (.cells #[.slice a2 V.length cap2, .slice a3 C.length cap3] 25 (0, 0))
  have hb : (W.alloc (.cells #[.slice a2 V.length cap2, .slice a3 C.length cap3] 25 (0, 0))).heap[W.heap.size]? = some (.cells #[.slice a2 V.length cap2, .slice a3 C.length cap3] 25 (0, 0)) := heap_alloc_new
  have HN := hid (keep_nds h0 ua); have HV := hid (keep_ints hv ua); have HC := hid (keep_ints hcc ua); have HM := hid (keep_ints h1 ua); have HO := hid (keep_ints h2 ua)
  have HB := hid hb; have HU := hid ua
  clear h0 hc hv hcc h1 h2 ua hb
  cases hf : fewB l 200
  · have HF := hid hf; clear hf
    go_enter Try.func3, Try.ntmps3
    go_wp2_with fail
    refine (small_any _).mono ?_
    rintro e w1 ⟨rfl, u⟩
    replace HN := hid (keep_nds HN.out u)
    replace HV := hid (keep_ints HV.out u)
    replace HC := hid (keep_ints HC.out u)
    replace HM := hid (keep_ints HM.out u)
    replace HO := hid (keep_ints HO.out u)
    replace HB := hid ((u.block _ (heap_lt HB.out) id).trans HB.out)
    replace HU := hid (HU.out.trans u)
    obtain ⟨k0, k1, _⟩ := cells2 HB.out
    clear u
    go_wp2_with fail
    refine (few_any _ l 200 _ HN.out (by decide)).mono ?_
    rintro e wf ⟨rfl, hwf⟩
    subst hwf
    rw [HF.out]
    go_wp2_with fail
    go_ret
    exact ⟨rfl, HU.out⟩
  have HF := hid hf; clear hf
  by_cases x1 : 300 < V.length
  · have x1i : (300 : Int) < V.length := by omega
    clear x1
    go_enter Try.func3, Try.ntmps3
    go_wp2_with fail
    refine (small_any _).mono ?_
    rintro e w1 ⟨rfl, u⟩
    replace HN := hid (keep_nds HN.out u)
    replace HV := hid (keep_ints HV.out u)
    replace HC := hid (keep_ints HC.out u)
    replace HM := hid (keep_ints HM.out u)
    replace HO := hid (keep_ints HO.out u)
    replace HB := hid ((u.block _ (heap_lt HB.out) id).trans HB.out)
    replace HU := hid (HU.out.trans u)
    obtain ⟨k0, k1, _⟩ := cells2 HB.out
    clear u
    go_wp2_with fail
    refine (few_any _ l 200 _ HN.out (by decide)).mono ?_
    rintro e wf ⟨rfl, hwf⟩
    subst hwf
    rw [HF.out]
    go_wp2_with fail
    go_ret
    exact ⟨rfl, HU.out⟩
  have x1i : (V.length : Int) ≤ 300 := by omega
  have x1b : decide (300 < (V.length : Int)) = false := decide_eq_false (by omega)
  have x1n : decide (300 < V.length) = false := decide_eq_false x1
  have x1m : (300 < (V.length : Int)) = False := eq_false (by omega)
  clear x1
  by_cases x2 : 300 < C.length
  · have x2i : (300 : Int) < C.length := by omega
    clear x2
    go_enter Try.func3, Try.ntmps3
    go_wp2_with fail
    refine (small_any _).mono ?_
    rintro e w1 ⟨rfl, u⟩
    replace HN := hid (keep_nds HN.out u)
    replace HV := hid (keep_ints HV.out u)
    replace HC := hid (keep_ints HC.out u)
    replace HM := hid (keep_ints HM.out u)
    replace HO := hid (keep_ints HO.out u)
    replace HB := hid ((u.block _ (heap_lt HB.out) id).trans HB.out)
    replace HU := hid (HU.out.trans u)
    obtain ⟨k0, k1, _⟩ := cells2 HB.out
    clear u
    go_wp2_with fail
    refine (few_any _ l 200 _ HN.out (by decide)).mono ?_
    rintro e wf ⟨rfl, hwf⟩
    subst hwf
    rw [HF.out]
    go_wp2_with fail
    go_ret
    exact ⟨rfl, HU.out⟩
  have x2i : (C.length : Int) ≤ 300 := by omega
  have x2b : decide (300 < (C.length : Int)) = false := decide_eq_false (by omega)
  have x2n : decide (300 < C.length) = false := decide_eq_false x2
  have x2m : (300 < (C.length : Int)) = False := eq_false (by omega)
  clear x2
  by_cases x3 : 300 < mine.length
  · have x3i : (300 : Int) < mine.length := by omega
    clear x3
    go_enter Try.func3, Try.ntmps3
    go_wp2_with fail
    refine (small_any _).mono ?_
    rintro e w1 ⟨rfl, u⟩
    replace HN := hid (keep_nds HN.out u)
    replace HV := hid (keep_ints HV.out u)
    replace HC := hid (keep_ints HC.out u)
    replace HM := hid (keep_ints HM.out u)
    replace HO := hid (keep_ints HO.out u)
    replace HB := hid ((u.block _ (heap_lt HB.out) id).trans HB.out)
    replace HU := hid (HU.out.trans u)
    obtain ⟨k0, k1, _⟩ := cells2 HB.out
    clear u
    go_wp2_with fail
    refine (few_any _ l 200 _ HN.out (by decide)).mono ?_
    rintro e wf ⟨rfl, hwf⟩
    subst hwf
    rw [HF.out]
    go_wp2_with fail
    go_ret
    exact ⟨rfl, HU.out⟩
  have x3i : (mine.length : Int) ≤ 300 := by omega
  have x3b : decide (300 < (mine.length : Int)) = false := decide_eq_false (by omega)
  have x3n : decide (300 < mine.length) = false := decide_eq_false x3
  have x3m : (300 < (mine.length : Int)) = False := eq_false (by omega)
  clear x3
  by_cases x4 : 300 < others.length
  · have x4i : (300 : Int) < others.length := by omega
    clear x4
    go_enter Try.func3, Try.ntmps3
    go_wp2_with fail
    refine (small_any _).mono ?_
    rintro e w1 ⟨rfl, u⟩
    replace HN := hid (keep_nds HN.out u)
    replace HV := hid (keep_ints HV.out u)
    replace HC := hid (keep_ints HC.out u)
    replace HM := hid (keep_ints HM.out u)
    replace HO := hid (keep_ints HO.out u)
    replace HB := hid ((u.block _ (heap_lt HB.out) id).trans HB.out)
    replace HU := hid (HU.out.trans u)
    obtain ⟨k0, k1, _⟩ := cells2 HB.out
    clear u
    go_wp2_with fail
    refine (few_any _ l 200 _ HN.out (by decide)).mono ?_
    rintro e wf ⟨rfl, hwf⟩
    subst hwf
    rw [HF.out]
    go_wp2_with fail
    go_ret
    exact ⟨rfl, HU.out⟩
  have x4i : (others.length : Int) ≤ 300 := by omega
  have x4b : decide (300 < (others.length : Int)) = false := decide_eq_false (by omega)
  have x4n : decide (300 < others.length) = false := decide_eq_false x4
  have x4m : (300 < (others.length : Int)) = False := eq_false (by omega)
  clear x4
  go_enter Try.func3, Try.ntmps3
  go_wp2_with fail
  refine (small_any _).mono ?_
  rintro e w1 ⟨rfl, u⟩
  replace HN := hid (keep_nds HN.out u)
  replace HV := hid (keep_ints HV.out u)
  replace HC := hid (keep_ints HC.out u)
  replace HM := hid (keep_ints HM.out u)
  replace HO := hid (keep_ints HO.out u)
  replace HB := hid ((u.block _ (heap_lt HB.out) id).trans HB.out)
  replace HU := hid (HU.out.trans u)
  obtain ⟨k0, k1, _⟩ := cells2 HB.out
  clear u
  go_wp2_with fail
  refine (few_any _ l 200 _ HN.out (by decide)).mono ?_
  rintro e wf ⟨rfl, hwf⟩
  subst hwf
  rw [HF.out]
  go_wp2_with fail
  refine ((value_any _ l _ HN.out).mono fun _ _ h => u1_of_value h).mono ?_
  rintro e w2 ⟨av, nv, cv, rfl, hr, u⟩
  clear k0 k1
  replace HN := hid (keep_nds HN.out u)
  replace HV := hid (keep_ints HV.out u)
  replace HC := hid (keep_ints HC.out u)
  replace HM := hid (keep_ints HM.out u)
  replace HO := hid (keep_ints HO.out u)
  replace HB := hid ((u.block _ (heap_lt HB.out) id).trans HB.out)
  replace HU := hid (HU.out.trans u)
  have Hv := hid hr
  clear hr u
  go_wp2_with fail
  refine ((refValue_any _ l _ HN.out).mono fun _ _ h => u1_of_value h).mono ?_
  rintro e w3 ⟨aw, nw, cw, rfl, hr, u⟩
  replace HN := hid (keep_nds HN.out u)
  replace HV := hid (keep_ints HV.out u)
  replace HC := hid (keep_ints HC.out u)
  replace HM := hid (keep_ints HM.out u)
  replace HO := hid (keep_ints HO.out u)
  replace Hv := hid (keep_ints Hv.out u)
  replace HB := hid ((u.block _ (heap_lt HB.out) id).trans HB.out)
  replace HU := hid (HU.out.trans u)
  have Hw := hid hr
  clear hr u
  go_wp2_with fail
  refine ((prove_any _ l _ HN.out).mono fun _ _ h => u2_of_prove h).mono ?_
  rintro e w4 ⟨ax, nx, cx, bx, mx, dx, rfl, hr, hs, u⟩
  replace HN := hid (keep_nds HN.out u)
  replace HV := hid (keep_ints HV.out u)
  replace HC := hid (keep_ints HC.out u)
  replace HM := hid (keep_ints HM.out u)
  replace HO := hid (keep_ints HO.out u)
  replace Hv := hid (keep_ints Hv.out u)
  replace Hw := hid (keep_ints Hw.out u)
  replace HB := hid ((u.block _ (heap_lt HB.out) id).trans HB.out)
  replace HU := hid (HU.out.trans u)
  have ua := (Upd.refl (fun _ => False) w4).alloc (.cells #[.slice ax nx cx, .slice bx mx dx] 25 (0, 0))
  have hxb : (w4.alloc (.cells #[.slice ax nx cx, .slice bx mx dx] 25 (0, 0))).heap[w4.heap.size]? = some (.cells #[.slice ax nx cx, .slice bx mx dx] 25 (0, 0)) := heap_alloc_new
  have HBx := hid hxb; have Hx := hid (keep_ints hr ua); have Gx := hid (keep_ints hs ua)
  replace HN := hid (keep_nds HN.out ua)
  replace HV := hid (keep_ints HV.out ua)
  replace HC := hid (keep_ints HC.out ua)
  replace HM := hid (keep_ints HM.out ua)
  replace HO := hid (keep_ints HO.out ua)
  replace Hv := hid (keep_ints Hv.out ua)
  replace Hw := hid (keep_ints Hw.out ua)
  replace HB := hid ((ua.block _ (heap_lt HB.out) id).trans HB.out)
  replace HU := hid (HU.out.trans ua)
  clear u ua hxb hr hs
  go_wp2_with fail
  refine ((refProve_any _ l _ HN.out).mono fun _ _ h => u2_of_refProve h).mono ?_
  rintro e w5 ⟨ar, nr, cr, br, mr, dr, rfl, hr, hs, u⟩
  replace HN := hid (keep_nds HN.out u)
  replace HV := hid (keep_ints HV.out u)
  replace HC := hid (keep_ints HC.out u)
  replace HM := hid (keep_ints HM.out u)
  replace HO := hid (keep_ints HO.out u)
  replace Hv := hid (keep_ints Hv.out u)
  replace Hw := hid (keep_ints Hw.out u)
  replace Hx := hid (keep_ints Hx.out u)
  replace Gx := hid (keep_ints Gx.out u)
  replace HB := hid ((u.block _ (heap_lt HB.out) id).trans HB.out)
  replace HBx := hid ((u.block _ (heap_lt HBx.out) id).trans HBx.out)
  replace HU := hid (HU.out.trans u)
  have ua := (Upd.refl (fun _ => False) w5).alloc (.cells #[.slice ar nr cr, .slice br mr dr] 25 (0, 0))
  have hxb : (w5.alloc (.cells #[.slice ar nr cr, .slice br mr dr] 25 (0, 0))).heap[w5.heap.size]? = some (.cells #[.slice ar nr cr, .slice br mr dr] 25 (0, 0)) := heap_alloc_new
  have HBr := hid hxb; have Hr := hid (keep_ints hr ua); have Gr := hid (keep_ints hs ua)
  replace HN := hid (keep_nds HN.out ua)
  replace HV := hid (keep_ints HV.out ua)
  replace HC := hid (keep_ints HC.out ua)
  replace HM := hid (keep_ints HM.out ua)
  replace HO := hid (keep_ints HO.out ua)
  replace Hv := hid (keep_ints Hv.out ua)
  replace Hw := hid (keep_ints Hw.out ua)
  replace Hx := hid (keep_ints Hx.out ua)
  replace Gx := hid (keep_ints Gx.out ua)
  replace HB := hid ((ua.block _ (heap_lt HB.out) id).trans HB.out)
  replace HBx := hid ((ua.block _ (heap_lt HBx.out) id).trans HBx.out)
  replace HU := hid (HU.out.trans ua)
  clear u ua hxb hr hs
  go_wp2_with fail
  refine ((best_any _ l _ HN.out).mono fun _ _ h => u1_of_best h).mono ?_
  rintro e w6 ⟨ab, nb, cb, rfl, hr, u⟩
  replace HN := hid (keep_nds HN.out u)
  replace HV := hid (keep_ints HV.out u)
  replace HC := hid (keep_ints HC.out u)
  replace HM := hid (keep_ints HM.out u)
  replace HO := hid (keep_ints HO.out u)
  replace Hv := hid (keep_ints Hv.out u)
  replace Hw := hid (keep_ints Hw.out u)
  replace Hx := hid (keep_ints Hx.out u)
  replace Gx := hid (keep_ints Gx.out u)
  replace Hr := hid (keep_ints Hr.out u)
  replace Gr := hid (keep_ints Gr.out u)
  replace HB := hid ((u.block _ (heap_lt HB.out) id).trans HB.out)
  replace HBx := hid ((u.block _ (heap_lt HBx.out) id).trans HBx.out)
  replace HBr := hid ((u.block _ (heap_lt HBr.out) id).trans HBr.out)
  replace HU := hid (HU.out.trans u)
  have Hb := hid hr
  clear hr u
  go_wp2_with fail
  refine ((refBest_any _ l _ HN.out).mono fun _ _ h => u1_of_refBest h).mono ?_
  rintro e w7 ⟨ad, nd, cd, rfl, hr, u⟩
  replace HN := hid (keep_nds HN.out u)
  replace HV := hid (keep_ints HV.out u)
  replace HC := hid (keep_ints HC.out u)
  replace HM := hid (keep_ints HM.out u)
  replace HO := hid (keep_ints HO.out u)
  replace Hv := hid (keep_ints Hv.out u)
  replace Hw := hid (keep_ints Hw.out u)
  replace Hx := hid (keep_ints Hx.out u)
  replace Gx := hid (keep_ints Gx.out u)
  replace Hr := hid (keep_ints Hr.out u)
  replace Gr := hid (keep_ints Gr.out u)
  replace Hb := hid (keep_ints Hb.out u)
  replace HB := hid ((u.block _ (heap_lt HB.out) id).trans HB.out)
  replace HBx := hid ((u.block _ (heap_lt HBx.out) id).trans HBx.out)
  replace HBr := hid ((u.block _ (heap_lt HBr.out) id).trans HBr.out)
  replace HU := hid (HU.out.trans u)
  have Hd := hid hr
  clear hr u
  go_wp2_with fail
  refine ((play_any _ _ _ l mine others _ HN.out HM.out HO.out).mono fun _ _ h => u3_of_play h).mono ?_
  rintro e w8 ⟨ap, np, cp, rfl, hr, u⟩
  replace HN := hid (keep_nds HN.out u)
  replace HV := hid (keep_ints HV.out u)
  replace HC := hid (keep_ints HC.out u)
  replace HM := hid (keep_ints HM.out u)
  replace HO := hid (keep_ints HO.out u)
  replace Hv := hid (keep_ints Hv.out u)
  replace Hw := hid (keep_ints Hw.out u)
  replace Hx := hid (keep_ints Hx.out u)
  replace Gx := hid (keep_ints Gx.out u)
  replace Hr := hid (keep_ints Hr.out u)
  replace Gr := hid (keep_ints Gr.out u)
  replace Hb := hid (keep_ints Hb.out u)
  replace Hd := hid (keep_ints Hd.out u)
  replace HB := hid ((u.block _ (heap_lt HB.out) id).trans HB.out)
  replace HBx := hid ((u.block _ (heap_lt HBx.out) id).trans HBx.out)
  replace HBr := hid ((u.block _ (heap_lt HBr.out) id).trans HBr.out)
  replace HU := hid (HU.out.trans u)
  have Hp := hid hr
  clear hr u
  go_wp2_with fail
  refine ((refPlay_any _ _ _ l mine others _ HN.out HM.out HO.out).mono fun _ _ h => u3_of_play h).mono ?_
  rintro e w9 ⟨aq, nq, cq, rfl, hr, u⟩
  replace HN := hid (keep_nds HN.out u)
  replace HV := hid (keep_ints HV.out u)
  replace HC := hid (keep_ints HC.out u)
  replace HM := hid (keep_ints HM.out u)
  replace HO := hid (keep_ints HO.out u)
  replace Hv := hid (keep_ints Hv.out u)
  replace Hw := hid (keep_ints Hw.out u)
  replace Hx := hid (keep_ints Hx.out u)
  replace Gx := hid (keep_ints Gx.out u)
  replace Hr := hid (keep_ints Hr.out u)
  replace Gr := hid (keep_ints Gr.out u)
  replace Hb := hid (keep_ints Hb.out u)
  replace Hd := hid (keep_ints Hd.out u)
  replace Hp := hid (keep_ints Hp.out u)
  replace HB := hid ((u.block _ (heap_lt HB.out) id).trans HB.out)
  replace HBx := hid ((u.block _ (heap_lt HBx.out) id).trans HBx.out)
  replace HBr := hid ((u.block _ (heap_lt HBr.out) id).trans HBr.out)
  replace HU := hid (HU.out.trans u)
  have Hq := hid hr
  clear hr u
  go_wp2_with fail
  refine (right_any _ l _ HN.out).mono ?_
  rintro e wa ⟨rfl, u⟩
  replace HN := hid (keep_nds HN.out u)
  replace HV := hid (keep_ints HV.out u)
  replace HC := hid (keep_ints HC.out u)
  replace HM := hid (keep_ints HM.out u)
  replace HO := hid (keep_ints HO.out u)
  replace Hv := hid (keep_ints Hv.out u)
  replace Hw := hid (keep_ints Hw.out u)
  replace Hx := hid (keep_ints Hx.out u)
  replace Gx := hid (keep_ints Gx.out u)
  replace Hr := hid (keep_ints Hr.out u)
  replace Gr := hid (keep_ints Gr.out u)
  replace Hb := hid (keep_ints Hb.out u)
  replace Hd := hid (keep_ints Hd.out u)
  replace Hp := hid (keep_ints Hp.out u)
  replace Hq := hid (keep_ints Hq.out u)
  replace HB := hid ((u.block _ (heap_lt HB.out) id).trans HB.out)
  replace HBx := hid ((u.block _ (heap_lt HBx.out) id).trans HBx.out)
  replace HBr := hid ((u.block _ (heap_lt HBr.out) id).trans HBr.out)
  replace HU := hid (HU.out.trans u)
  clear u
  go_wp2_with fail
  refine (refRight_any _ l _ HN.out).mono ?_
  rintro e wb ⟨rfl, hwb⟩
  subst hwb
  go_wp2_with fail
  refine (ints_any _ _ (vR l) (vR l) _ Hv.out Hw.out).mono ?_
  rintro e wc ⟨rfl, u⟩
  rw [decide_eq_true rfl]
  replace HN := hid (keep_nds HN.out u)
  replace HV := hid (keep_ints HV.out u)
  replace HC := hid (keep_ints HC.out u)
  replace HM := hid (keep_ints HM.out u)
  replace HO := hid (keep_ints HO.out u)
  replace Hv := hid (keep_ints Hv.out u)
  replace Hw := hid (keep_ints Hw.out u)
  replace Hx := hid (keep_ints Hx.out u)
  replace Gx := hid (keep_ints Gx.out u)
  replace Hr := hid (keep_ints Hr.out u)
  replace Gr := hid (keep_ints Gr.out u)
  replace Hb := hid (keep_ints Hb.out u)
  replace Hd := hid (keep_ints Hd.out u)
  replace Hp := hid (keep_ints Hp.out u)
  replace Hq := hid (keep_ints Hq.out u)
  replace HB := hid ((u.block _ (heap_lt HB.out) id).trans HB.out)
  replace HBx := hid ((u.block _ (heap_lt HBx.out) id).trans HBx.out)
  replace HBr := hid ((u.block _ (heap_lt HBr.out) id).trans HBr.out)
  replace HU := hid (HU.out.trans u)
  clear u
  obtain ⟨x0, x1, _⟩ := cells2 HBx.out
  obtain ⟨y0, y1, _⟩ := cells2 HBr.out
  go_wp2_with fail
  refine (ints_any _ _ (vR l) (vR l) _ Hx.out Hr.out).mono ?_
  rintro e wd ⟨rfl, u⟩
  rw [decide_eq_true rfl]
  replace HN := hid (keep_nds HN.out u)
  replace HV := hid (keep_ints HV.out u)
  replace HC := hid (keep_ints HC.out u)
  replace HM := hid (keep_ints HM.out u)
  replace HO := hid (keep_ints HO.out u)
  replace Hv := hid (keep_ints Hv.out u)
  replace Hw := hid (keep_ints Hw.out u)
  replace Hx := hid (keep_ints Hx.out u)
  replace Gx := hid (keep_ints Gx.out u)
  replace Hr := hid (keep_ints Hr.out u)
  replace Gr := hid (keep_ints Gr.out u)
  replace Hb := hid (keep_ints Hb.out u)
  replace Hd := hid (keep_ints Hd.out u)
  replace Hp := hid (keep_ints Hp.out u)
  replace Hq := hid (keep_ints Hq.out u)
  replace HB := hid ((u.block _ (heap_lt HB.out) id).trans HB.out)
  replace HBx := hid ((u.block _ (heap_lt HBx.out) id).trans HBx.out)
  replace HBr := hid ((u.block _ (heap_lt HBr.out) id).trans HBr.out)
  replace HU := hid (HU.out.trans u)
  clear u
  clear x0 x1 y0 y1
  obtain ⟨x0, x1, _⟩ := cells2 HBx.out
  obtain ⟨y0, y1, _⟩ := cells2 HBr.out
  go_wp2_with fail
  refine (ints_any _ _ (cR l) (cR l) _ Gx.out Gr.out).mono ?_
  rintro e we ⟨rfl, u⟩
  rw [decide_eq_true rfl]
  replace HN := hid (keep_nds HN.out u)
  replace HV := hid (keep_ints HV.out u)
  replace HC := hid (keep_ints HC.out u)
  replace HM := hid (keep_ints HM.out u)
  replace HO := hid (keep_ints HO.out u)
  replace Hv := hid (keep_ints Hv.out u)
  replace Hw := hid (keep_ints Hw.out u)
  replace Hx := hid (keep_ints Hx.out u)
  replace Gx := hid (keep_ints Gx.out u)
  replace Hr := hid (keep_ints Hr.out u)
  replace Gr := hid (keep_ints Gr.out u)
  replace Hb := hid (keep_ints Hb.out u)
  replace Hd := hid (keep_ints Hd.out u)
  replace Hp := hid (keep_ints Hp.out u)
  replace Hq := hid (keep_ints Hq.out u)
  replace HB := hid ((u.block _ (heap_lt HB.out) id).trans HB.out)
  replace HBx := hid ((u.block _ (heap_lt HBx.out) id).trans HBx.out)
  replace HBr := hid ((u.block _ (heap_lt HBr.out) id).trans HBr.out)
  replace HU := hid (HU.out.trans u)
  clear u
  clear x0 x1 y0 y1
  go_wp2_with fail
  refine (ints_any _ _ (bR l) (bR l) _ Hb.out Hd.out).mono ?_
  rintro e wf ⟨rfl, u⟩
  rw [decide_eq_true rfl]
  replace HN := hid (keep_nds HN.out u)
  replace HV := hid (keep_ints HV.out u)
  replace HC := hid (keep_ints HC.out u)
  replace HM := hid (keep_ints HM.out u)
  replace HO := hid (keep_ints HO.out u)
  replace Hv := hid (keep_ints Hv.out u)
  replace Hw := hid (keep_ints Hw.out u)
  replace Hx := hid (keep_ints Hx.out u)
  replace Gx := hid (keep_ints Gx.out u)
  replace Hr := hid (keep_ints Hr.out u)
  replace Gr := hid (keep_ints Gr.out u)
  replace Hb := hid (keep_ints Hb.out u)
  replace Hd := hid (keep_ints Hd.out u)
  replace Hp := hid (keep_ints Hp.out u)
  replace Hq := hid (keep_ints Hq.out u)
  replace HB := hid ((u.block _ (heap_lt HB.out) id).trans HB.out)
  replace HBx := hid ((u.block _ (heap_lt HBx.out) id).trans HBx.out)
  replace HBr := hid ((u.block _ (heap_lt HBr.out) id).trans HBr.out)
  replace HU := hid (HU.out.trans u)
  clear u
  go_wp2_with fail
  refine (ints_any _ _ (pR l mine others) (pR l mine others) _ Hp.out Hq.out).mono ?_
  rintro e wg ⟨rfl, u⟩
  rw [decide_eq_true rfl]
  replace HN := hid (keep_nds HN.out u)
  replace HV := hid (keep_ints HV.out u)
  replace HC := hid (keep_ints HC.out u)
  replace HM := hid (keep_ints HM.out u)
  replace HO := hid (keep_ints HO.out u)
  replace Hv := hid (keep_ints Hv.out u)
  replace Hw := hid (keep_ints Hw.out u)
  replace Hx := hid (keep_ints Hx.out u)
  replace Gx := hid (keep_ints Gx.out u)
  replace Hr := hid (keep_ints Hr.out u)
  replace Gr := hid (keep_ints Gr.out u)
  replace Hb := hid (keep_ints Hb.out u)
  replace Hd := hid (keep_ints Hd.out u)
  replace Hp := hid (keep_ints Hp.out u)
  replace Hq := hid (keep_ints Hq.out u)
  replace HB := hid ((u.block _ (heap_lt HB.out) id).trans HB.out)
  replace HBx := hid ((u.block _ (heap_lt HBx.out) id).trans HBx.out)
  replace HBr := hid ((u.block _ (heap_lt HBr.out) id).trans HBr.out)
  replace HU := hid (HU.out.trans u)
  clear u
  obtain ⟨k0, k1, _⟩ := cells2 HB.out
  obtain ⟨x0, x1, _⟩ := cells2 HBx.out
  obtain ⟨y0, y1, _⟩ := cells2 HBr.out
  have e0 : Hid (Upd (fun _ => False) wg wg.drew) := hid (Upd.drew (Upd.refl _ _))
  have RN := hid fun wx (hx : Upd (fun _ => False) wg wx) => keep_nds HN.out hx
  have RV := hid fun wx (hx : Upd (fun _ => False) wg wx) => keep_ints HV.out hx
  have RC := hid fun wx (hx : Upd (fun _ => False) wg wx) => keep_ints HC.out hx
  have RX := hid fun wx (hx : Upd (fun _ => False) wg wx) => keep_ints Hx.out hx
  have SX := hid fun wx (hx : Upd (fun _ => False) wg wx) => keep_ints Gx.out hx
  have RY := hid fun wx (hx : Upd (fun _ => False) wg wx) => keep_ints Hr.out hx
  have SY := hid fun wx (hx : Upd (fun _ => False) wg wx) => keep_ints Gr.out hx
  have tok1 : True := trivial
  have tok2 : True := trivial
  have tok3 : True := trivial
  have tok4 : True := trivial
  clear Hv Hw Hb Hd Hp Hq HM HO
  go_wp2_with fail
  go_region_held3 (fun w' => w'.cell? ⟨W.heap.size, 0, none⟩ = some (.slice a2 V.length cap2) ∧ w'.cell? ⟨W.heap.size, 1, none⟩ = some (.slice a3 C.length cap3) ∧ w'.cell? ⟨w4.heap.size, 0, none⟩ = some (.slice ax nx cx) ∧ w'.cell? ⟨w4.heap.size, 1, none⟩ = some (.slice bx mx dx) ∧ w'.cell? ⟨w5.heap.size, 0, none⟩ = some (.slice ar nr cr) ∧ w'.cell? ⟨w5.heap.size, 1, none⟩ = some (.slice br mr dr)) (first | go_keep | exact ⟨cell_nx k0 Z4.out, cell_nx k1 Z4.out, cell_nx x0 Z4.out, cell_nx x1 Z4.out, cell_nx y0 Z4.out, cell_nx y1 Z4.out⟩ | exact ⟨cell_nx k0 Z3.out, cell_nx k1 Z3.out, cell_nx x0 Z3.out, cell_nx x1 Z3.out, cell_nx y0 Z3.out, cell_nx y1 Z3.out⟩ | exact ⟨cell_nx k0 Z2.out, cell_nx k1 Z2.out, cell_nx x0 Z2.out, cell_nx x1 Z2.out, cell_nx y0 Z2.out, cell_nx y1 Z2.out⟩ | exact ⟨cell_nx k0 Z1.out, cell_nx k1 Z1.out, cell_nx x0 Z1.out, cell_nx x1 Z1.out, cell_nx y0 Z1.out, cell_nx y1 Z1.out⟩ | exact ⟨cell_nx k0 e0.out, cell_nx k1 e0.out, cell_nx x0 e0.out, cell_nx x1 e0.out, cell_nx y0 e0.out, cell_nx y1 e0.out⟩)
    ((first | (go_at_call 21; have _t := tok1; refine ((check_any _ _ _ l V C _ (RN.out _ e0.out) (RV.out _ e0.out) (RC.out _ e0.out)).mono fun _ _ h => ck_of h).mono ?_; rintro e z1 ⟨rfl, hu⟩; have Z1 := hid (e0.out.trans hu); clear hu _t tok1) | (go_at_call 22; have _t := tok2; refine ((refCheck_any _ _ _ l V C _ (RN.out _ Z1.out) (RV.out _ Z1.out) (RC.out _ Z1.out)).mono fun _ _ h => ck_of h).mono ?_; rintro e z2 ⟨rfl, hu⟩; have Z2 := hid (Z1.out.trans hu); clear hu _t tok2) | (go_at_call 21; have _t := tok3; refine ((check_any _ _ _ l (vR l) (cR l) _ (RN.out _ Z2.out) (RX.out _ Z2.out) (SX.out _ Z2.out)).mono fun _ _ h => ck_of h).mono ?_; rintro e z3 ⟨rfl, hu⟩; have Z3 := hid (Z2.out.trans hu); clear hu _t tok3) | (go_at_call 22; have _t := tok4; refine ((refCheck_any _ _ _ l (vR l) (cR l) _ (RN.out _ Z3.out) (RY.out _ Z3.out) (SY.out _ Z3.out)).mono fun _ _ h => ck_of h).mono ?_; rintro e z4 ⟨rfl, hu⟩; have Z4 := hid (Z3.out.trans hu); clear hu _t tok4)))
  all_goals
    go_wp2_with fail
    go_ret
    exact ⟨rfl, HU.out.trans Z4.out⟩
end Go.Proofs.Ytmjjfafkmfcpnaa
