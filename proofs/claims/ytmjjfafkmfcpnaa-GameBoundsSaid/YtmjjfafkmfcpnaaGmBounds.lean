/- The walk of GameBounds. -/
import Derived.Test.YtmjjfafkmfcpnaaGmB1
import Derived.Deep.CutBlock
namespace Go.Proofs.Ytmjjfafkmfcpnaa
open Go.RowKit Go.Deep

def kCert : Knd (List Int × List Int) := kPair kInts kInts
theorem reads_cert : Reads Try.prog 25 kCert :=
  reads_struct Try.underlying25 (tail_cons rfl rfl reads_ints (tail_last rfl rfl reads_ints (by kernel_rfl)))
theorem cert_open {A : Nat → Prop} {w : World} {cs : Array Value} {x : List Int × List Int} (h : kCert.rep A w cs.toList x) : ∃ v1 v2, cs = #[v1, v2] ∧ kInts.rep A w [v1] x.1 ∧ kInts.rep A w [v2] x.2 := by
  obtain ⟨c, d, e, h1, h2⟩ := h
  have l1 : c.length = 1 := kInts.len h1
  have l2 : d.length = 1 := kInts.len h2
  obtain ⟨v1, rfl⟩ := List.length_eq_one_iff.1 l1
  obtain ⟨v2, rfl⟩ := List.length_eq_one_iff.1 l2
  refine ⟨v1, v2, ?_, h1, h2⟩
  cases cs; simp at e; simp [e]

theorem playF_len {l : List Nd} (hr : RightP l) (mine others : List Int) : ∀ (f i : Nat), i < l.length → (playF l mine others f i).2.length + i < l.length
  | 0, i, h => by simpa [playF] using h
  | f + 1, i, h => by
    rw [playF, List.getElem?_eq_getElem h]
    dsimp only
    cases hm : l[i].moves[chosen l[i] (if l[i].mine then geti mine i else geti others i)]? with
    | none => simpa using h
    | some m =>
      dsimp only
      obtain ⟨m1, m2, _, _⟩ := hr.mv i _ m (List.getElem?_eq_getElem h) (List.mem_of_getElem? hm)
      have := playF_len hr mine others f m.to.toNat (by omega)
      rw [List.length_cons]
      omega

/-- The state of the walk along the path. -/
structure AlongAt (l : List Nd) (mine C : List Int) (i at_ f : Nat) (g : Int) : Prop where
  lt : at_ < l.length
  fuel : l.length ≤ f + at_
  drop : (pathI l mine C).drop i = (at_ : Int) :: (playF l mine C f at_).2.map fun (n : Nat) => (n : Int)
  gain : g + (playF l mine C f at_).1 = (playF l mine C l.length 0).1
  small : -(1099511627776 * at_) ≤ g ∧ g ≤ 1099511627776 * at_
  start : i = 0 → at_ = 0

theorem drop_cons_at {P : List Int} {i : Nat} {x : Int} {r : List Int} (h : P.drop i = x :: r) : ∃ hi : i < P.length, P[i] = x ∧ P.drop (i + 1) = r ∧ P.length = i + 1 + r.length := by
  have hi : i < P.length := by
    rcases Nat.lt_or_ge i P.length with g | g
    · exact g
    · rw [List.drop_eq_nil_of_le g] at h; cases h
  rw [List.drop_eq_getElem_cons hi] at h
  injection h with h1 h2
  refine ⟨hi, h1, h2, ?_⟩
  have := congrArg List.length h2
  rw [List.length_drop] at this
  omega

theorem AlongAt.stop {l : List Nd} {mine C : List Int} {i a f : Nat} {g : Int} {mi : Bool} (h : AlongAt l mine C i a f g) (hnd : l[a]? = some ⟨mi, []⟩) : (pathI l mine C).length = i + 1 ∧ g = (playF l mine C l.length 0).1 := by
  have hp : playF l mine C f a = (0, []) := by
    cases f with
    | zero => rfl
    | succ f => rw [playF, hnd]; rfl
  have h1 := h.drop; have h2 := h.gain
  rw [hp] at h1 h2
  obtain ⟨_, _, _, hl⟩ := drop_cons_at h1
  dsimp only at h2
  exact ⟨by simpa using hl, by omega⟩
theorem AlongAt.step {l : List Nd} (hr : RightP l) {mine C : List Int} {i a f c : Nat} {g : Int} {mi : Bool} {mvs : List Mv} (h : AlongAt l mine C i a f g) (hnd : l[a]? = some ⟨mi, mvs⟩) {t : Nat} {gain : Int} (hm : mvs[c]? = some ⟨t, gain⟩)
    (hc : c = chosen ⟨mi, mvs⟩ (if mi then geti mine a else geti C a)) : ∃ f', AlongAt l mine C (i + 1) t f' (g + gain) ∧ i + 1 < (pathI l mine C).length := by
  obtain ⟨m1, m2, m3, m4⟩ := hr.mv a _ _ hnd (List.mem_of_getElem? hm)
  dsimp only at m1 m2 m3 m4
  rw [show maxGain = 1099511627776 from rfl] at m3 m4
  have hf := h.fuel; have hlt := h.lt; have hs := h.small
  obtain ⟨f', rfl⟩ : ∃ f', f = f' + 1 := ⟨f - 1, by omega⟩
  have hp : playF l mine C (f' + 1) a = (gain + (playF l mine C f' t).1, t :: (playF l mine C f' t).2) := by
    rw [playF, hnd]
    dsimp only
    rw [← hc, hm]
    dsimp only
    rw [Int.toNat_natCast]
  have h1 := h.drop; have h2 := h.gain
  rw [hp] at h1 h2
  dsimp only at h1 h2
  obtain ⟨_, _, hd, hl⟩ := drop_cons_at h1
  rw [List.map_cons] at hd hl
  rw [List.length_cons] at hl
  exact ⟨f', ⟨by omega, by omega, hd, by omega, by omega, fun h => by omega⟩, by omega⟩

set_option maxRecDepth 100000 in
set_option maxHeartbeats 4000000 in
theorem bounds_walk (v : Value) (l : List Nd) (cs : Array Value) (cert : List Int × List Int) (v1 : Value) (mine : List Int) (W : World) (h0 : (kSlice kNd).rep (· < W.heap.size) W [v] l) (hc : kCert.rep (· < W.heap.size) W cs.toList cert) (h1 : kInts.rep (· < W.heap.size) W [v1] mine) :
    Calls Try.prog 4 #[v, .agg cs, v1] W fun e w' => e = .returned (.bool true) ∧ Below W.heap.size W w' := by
  have fin : ∀ w' e, (e = Ending.returned (.bool true) ∧ Upd (fun _ => False) W w') → (e = .returned (.bool true) ∧ Below W.heap.size W w') := fun w' e h => ⟨h.1, h.2.below (Nat.le_refl _) fun _ h => h.elim⟩
  suffices hs : Calls Try.prog 4 #[v, .agg cs, v1] W fun e w' => e = .returned (.bool true) ∧ Upd (fun _ => False) W w' from hs.mono fun e w' h => fin w' e h
  clear fin
  obtain ⟨vv, vc, rfl, hv, hcc⟩ := cert_open hc
  obtain ⟨V, C⟩ := cert
  dsimp only at hv hcc
  obtain ⟨a0, cap0, rfl, p1, p2, _⟩ := slice_open h0
  obtain ⟨a1, cap1, rfl, q1, q2, _⟩ := slice_open h1
  obtain ⟨a2, cap2, rfl, r1, r2, _⟩ := slice_open hv
  obtain ⟨a3, cap3, rfl, s1, s2, _⟩ := slice_open hcc
  have p2 : cap0 ≤ 9223372036854775807 := p2
  have q2 : cap1 ≤ 9223372036854775807 := q2
  have r2 : cap2 ≤ 9223372036854775807 := r2
  have s2 : cap3 ≤ 9223372036854775807 := s2
  have ua := (Upd.refl (fun _ => False) W).alloc (.cells #[.slice a2 V.length cap2, .slice a3 C.length cap3] 25 (0, 0))
  have hb : (W.alloc (.cells #[.slice a2 V.length cap2, .slice a3 C.length cap3] 25 (0, 0))).heap[W.heap.size]? = some (.cells #[.slice a2 V.length cap2, .slice a3 C.length cap3] 25 (0, 0)) := heap_alloc_new
  have HN := hid (keep_nds h0 ua); have HM := hid (keep_ints h1 ua); have HV := hid (keep_ints hv ua); have HC := hid (keep_ints hcc ua)
  have HB := hid hb; have HU := hid ua
  clear h0 h1 hc hv hcc ua hb
  cases hf : fewB l 200
  · have HF := hid hf; clear hf
    go_enter Try.func4, Try.ntmps4
    go_wp2_with fail
    refine (small_any _).mono ?_
    rintro e w1 ⟨rfl, u⟩
    replace HN := hid (keep_nds HN.out u)
    replace HM := hid (keep_ints HM.out u)
    replace HV := hid (keep_ints HV.out u)
    replace HC := hid (keep_ints HC.out u)
    replace HB := hid ((u.block _ (heap_lt HB.out) id).trans HB.out)
    replace HU := hid (HU.out.trans u)
    obtain ⟨k0, k1, _⟩ := cells2 HB.out
    clear u
    go_wp2_with fail
    refine (few_any _ l 200 _ HN.out (by decide)).mono ?_
    rintro e wf ⟨rfl, hwf⟩
    subst hwf
    rw [HF.out]
    go_wp2_with fail
    go_ret
    exact ⟨rfl, HU.out⟩
  have HF := hid hf; clear hf
  by_cases x1 : 300 < V.length
  · have x1i : (300 : Int) < V.length := by omega
    clear x1
    go_enter Try.func4, Try.ntmps4
    go_wp2_with fail
    refine (small_any _).mono ?_
    rintro e w1 ⟨rfl, u⟩
    replace HN := hid (keep_nds HN.out u)
    replace HM := hid (keep_ints HM.out u)
    replace HV := hid (keep_ints HV.out u)
    replace HC := hid (keep_ints HC.out u)
    replace HB := hid ((u.block _ (heap_lt HB.out) id).trans HB.out)
    replace HU := hid (HU.out.trans u)
    obtain ⟨k0, k1, _⟩ := cells2 HB.out
    clear u
    go_wp2_with fail
    refine (few_any _ l 200 _ HN.out (by decide)).mono ?_
    rintro e wf ⟨rfl, hwf⟩
    subst hwf
    rw [HF.out]
    go_wp2_with fail
    go_ret
    exact ⟨rfl, HU.out⟩
  have x1i : (V.length : Int) ≤ 300 := by omega
  have x1b : decide (300 < (V.length : Int)) = false := decide_eq_false (by omega)
  have x1n : decide (300 < V.length) = false := decide_eq_false x1
  have x1m : (300 < (V.length : Int)) = False := eq_false (by omega)
  clear x1
  by_cases x2 : 300 < C.length
  · have x2i : (300 : Int) < C.length := by omega
    clear x2
    go_enter Try.func4, Try.ntmps4
    go_wp2_with fail
    refine (small_any _).mono ?_
    rintro e w1 ⟨rfl, u⟩
    replace HN := hid (keep_nds HN.out u)
    replace HM := hid (keep_ints HM.out u)
    replace HV := hid (keep_ints HV.out u)
    replace HC := hid (keep_ints HC.out u)
    replace HB := hid ((u.block _ (heap_lt HB.out) id).trans HB.out)
    replace HU := hid (HU.out.trans u)
    obtain ⟨k0, k1, _⟩ := cells2 HB.out
    clear u
    go_wp2_with fail
    refine (few_any _ l 200 _ HN.out (by decide)).mono ?_
    rintro e wf ⟨rfl, hwf⟩
    subst hwf
    rw [HF.out]
    go_wp2_with fail
    go_ret
    exact ⟨rfl, HU.out⟩
  have x2i : (C.length : Int) ≤ 300 := by omega
  have x2b : decide (300 < (C.length : Int)) = false := decide_eq_false (by omega)
  have x2n : decide (300 < C.length) = false := decide_eq_false x2
  have x2m : (300 < (C.length : Int)) = False := eq_false (by omega)
  clear x2
  by_cases x3 : 300 < mine.length
  · have x3i : (300 : Int) < mine.length := by omega
    clear x3
    go_enter Try.func4, Try.ntmps4
    go_wp2_with fail
    refine (small_any _).mono ?_
    rintro e w1 ⟨rfl, u⟩
    replace HN := hid (keep_nds HN.out u)
    replace HM := hid (keep_ints HM.out u)
    replace HV := hid (keep_ints HV.out u)
    replace HC := hid (keep_ints HC.out u)
    replace HB := hid ((u.block _ (heap_lt HB.out) id).trans HB.out)
    replace HU := hid (HU.out.trans u)
    obtain ⟨k0, k1, _⟩ := cells2 HB.out
    clear u
    go_wp2_with fail
    refine (few_any _ l 200 _ HN.out (by decide)).mono ?_
    rintro e wf ⟨rfl, hwf⟩
    subst hwf
    rw [HF.out]
    go_wp2_with fail
    go_ret
    exact ⟨rfl, HU.out⟩
  have x3i : (mine.length : Int) ≤ 300 := by omega
  have x3b : decide (300 < (mine.length : Int)) = false := decide_eq_false (by omega)
  have x3n : decide (300 < mine.length) = false := decide_eq_false x3
  have x3m : (300 < (mine.length : Int)) = False := eq_false (by omega)
  clear x3
  cases hr : right l
  · have HR := hid hr; clear hr
    go_enter Try.func4, Try.ntmps4
    go_wp2_with fail
    refine (small_any _).mono ?_
    rintro e w1 ⟨rfl, u⟩
    replace HN := hid (keep_nds HN.out u)
    replace HM := hid (keep_ints HM.out u)
    replace HV := hid (keep_ints HV.out u)
    replace HC := hid (keep_ints HC.out u)
    replace HB := hid ((u.block _ (heap_lt HB.out) id).trans HB.out)
    replace HU := hid (HU.out.trans u)
    obtain ⟨k0, k1, _⟩ := cells2 HB.out
    clear u
    go_wp2_with fail
    refine (few_any _ l 200 _ HN.out (by decide)).mono ?_
    rintro e wf ⟨rfl, hwf⟩
    subst hwf
    rw [HF.out]
    go_wp2_with fail
    refine (right_any _ l _ HN.out).mono ?_
    rintro e w2 ⟨rfl, u⟩
    replace HN := hid (keep_nds HN.out u)
    replace HM := hid (keep_ints HM.out u)
    replace HV := hid (keep_ints HV.out u)
    replace HC := hid (keep_ints HC.out u)
    replace HB := hid ((u.block _ (heap_lt HB.out) id).trans HB.out)
    replace HU := hid (HU.out.trans u)
    clear u
    rw [HR.out]
    go_wp2_with fail
    go_ret
    exact ⟨rfl, HU.out⟩
  have HR := hid hr; clear hr
  have HP := hid ((right_iff l).1 HR.out)
  by_cases c1 : mine.length = l.length
  · skip
    have c1b : ((mine.length : Int) != l.length) = false := by rw [c1]; simp
    have c1c : (mine.length != l.length) = false := by rw [c1]; simp
    have C1 := hid c1; clear c1
    have hn1 : (l.length : Int) ≤ 3000 := by have := HP.out.few; omega
    have hn0 : (1 : Int) ≤ l.length := by have := HP.out.pos; omega
    go_enter Try.func4, Try.ntmps4
    go_wp2_with fail
    refine (small_any _).mono ?_
    rintro e w1 ⟨rfl, u⟩
    replace HN := hid (keep_nds HN.out u)
    replace HM := hid (keep_ints HM.out u)
    replace HV := hid (keep_ints HV.out u)
    replace HC := hid (keep_ints HC.out u)
    replace HB := hid ((u.block _ (heap_lt HB.out) id).trans HB.out)
    replace HU := hid (HU.out.trans u)
    obtain ⟨k0, k1, _⟩ := cells2 HB.out
    clear u
    go_wp2_with fail
    refine (few_any _ l 200 _ HN.out (by decide)).mono ?_
    rintro e wf ⟨rfl, hwf⟩
    subst hwf
    rw [HF.out]
    go_wp2_with fail
    refine (right_any _ l _ HN.out).mono ?_
    rintro e w2 ⟨rfl, u⟩
    replace HN := hid (keep_nds HN.out u)
    replace HM := hid (keep_ints HM.out u)
    replace HV := hid (keep_ints HV.out u)
    replace HC := hid (keep_ints HC.out u)
    replace HB := hid ((u.block _ (heap_lt HB.out) id).trans HB.out)
    replace HU := hid (HU.out.trans u)
    clear u
    rw [HR.out]
    clear k0 k1
    obtain ⟨k0, k1, _⟩ := cells2 HB.out
    go_wp2_with fail
    refine (check_any _ _ _ l V C _ HN.out HV.out HC.out).mono ?_
    rintro e w3 ⟨n, rfl, _, hn, u⟩
    have HCK := hid (hn HR.out)
    replace HN := hid (keep_nds HN.out u)
    replace HM := hid (keep_ints HM.out u)
    replace HV := hid (keep_ints HV.out u)
    replace HC := hid (keep_ints HC.out u)
    replace HB := hid ((u.block _ (heap_lt HB.out) id).trans HB.out)
    replace HU := hid (HU.out.trans u)
    clear hn u k0 k1 c1b c1c
    obtain ⟨k0, k1, _⟩ := cells2 HB.out
    rcases HCK.out.1 with hn | hn
    · subst hn
      have HH := hid (HCK.out.2.1 rfl)
      clear HCK
      have c2 := HH.out.1
      have c3 := HH.out.2.1
      have c2b : ((V.length : Int) != l.length) = false := by rw [c2]; simp
      have c2c : (V.length != l.length) = false := by rw [c2]; simp
      have c3b : ((C.length : Int) != l.length) = false := by rw [c3]; simp
      have c3c : (C.length != l.length) = false := by rw [c3]; simp
      have C2 := hid c2; have C3 := hid c3; clear c2 c3
      go_wp2_with fail
      refine (play_any _ _ _ l mine C _ HN.out HM.out HC.out).mono ?_
      intro e w4 hp
      unfold PlayPost at hp
      rw [if_pos (by unfold playOk; rw [HR.out]; simp [C1.out, C3.out])] at hp
      obtain ⟨vp, rfl, hpp, u⟩ := hp
      obtain ⟨ap, cq, rfl, z1, z2, _⟩ := slice_open hpp
      have z2 : cq ≤ 9223372036854775807 := z2
      have HPP := hid (kInts.mono hpp fun x hx => hx.2)
      replace HN := hid (keep_nds HN.out u)
      replace HM := hid (keep_ints HM.out u)
      replace HV := hid (keep_ints HV.out u)
      replace HC := hid (keep_ints HC.out u)
      replace HB := hid ((u.block _ (heap_lt HB.out) id).trans HB.out)
      replace HU := hid (HU.out.trans u)
      clear hpp u k0 k1 c2b c2c c3b c3c
      obtain ⟨k0, k1, _⟩ := cells2 HB.out
      have g0 : l[0]? = some (l[0]'HP.out.pos) := List.getElem?_eq_getElem HP.out.pos
      have bnd := play_bound HP.out (mine := mine) HH.out l.length 0 _ g0 (by omega)
      have hlen : (pathI l mine C).length ≤ l.length := by
        have := playF_len HP.out mine C l.length 0 HP.out.pos
        unfold pathI; rw [List.length_cons, List.length_map]; omega
      have hpos : 0 < (pathI l mine C).length := by unfold pathI; simp
      have a0' : AlongAt l mine C 0 0 l.length 0 := ⟨HP.out.pos, by omega, rfl, by omega, by omega, fun _ => rfl⟩
      obtain ⟨bV, oV, ra, hbV, helV⟩ := slice_at HV.out (by rw [C2.out]; exact HP.out.pos)
      subst ra
      have cv := int_cells helV (j := 0) (by rw [C2.out]; exact HP.out.pos)
      rw [geti_at', Nat.add_zero] at cv
      have hVi : (0 : Int) < V.length := by have := C2.out; omega
      have A0 := hid a0'
      have hl1 : (1 : Int) ≤ (pathI l mine C).length := by omega
      have hl2 : ((pathI l mine C).length : Int) ≤ l.length := by omega
      have hl3 : (((pathI l mine C).length : Int) == 0) = false := beq_eq_false_iff_ne.2 (by omega)
      have hl4 : ((pathI l mine C).length == 0) = false := beq_eq_false_iff_ne.2 (by omega)
      clear g0 a0' hpos helV hlen
      generalize hPI : pathI l mine C = PI at *
      have HPI := hid hPI
      clear hPI
      generalize htot : (playF l mine C l.length 0).1 = tot at *
      have HTOT := hid htot
      clear htot
      generalize geti V 0 = z at *
      have hz1 : decide (z < tot) = false := decide_eq_false (by omega)
      have hz2 : decide (l.length < PI.length) = false := decide_eq_false (by omega)
      have hz3 : decide ((l.length : Int) < (PI.length : Int)) = false := decide_eq_false (by omega)
      go_wp2_with fail
      clear cv bnd hl3 hl4 hz1 hz2 hz3
      go_loopg [11, 12, 14] PI.length (fun gg s11 s12 s14 wr => ∃ (i a f : Nat) (g : Int), gg = PI.length - i ∧ s11 = .int .i64 g ∧ s12 = .int .i64 i ∧ AlongAt l mine C i a f g ∧ Upd (fun _ => False) w4 wr)
      case atStart => exact ⟨0, 0, _, _, rfl, rfl, rfl, A0.out, Upd.refl _ _⟩
      case round =>
        clear A0
        obtain ⟨i, a, f, g, hg, rfl, rfl, st, u⟩ := hrel
        have HG := hid hg; have ST := hid st; have UU := hid u
        clear hg st u
        obtain ⟨hi, hpi, _, hplen⟩ := drop_cons_at ST.out.drop
        have hi2 : i < PI.length := by rw [← HPI.out]; exact hi
        have hpi2 : PI[i] = (a : Int) := by
          have : ∀ (Q : List Int) (e : Q = PI) (h : i < Q.length), Q[i] = (a : Int) → PI[i] = (a : Int) := fun Q e h hh => by subst e; exact hh
          exact this _ HPI.out hi hpi
        have hii : (i : Int) < PI.length := by omega
        have halt := ST.out.lt
        have hai : (a : Int) < l.length := by omega
        have hgs : -(1099511627776 * 3000) ≤ g ∧ g ≤ 1099511627776 * 3000 := by have := ST.out.small; omega
        obtain ⟨b0, o0, ra, hb0, hel⟩ := slice_at HN.out (by omega)
        subst ra
        obtain ⟨b1, o1, ra, hb1, hel1⟩ := slice_at HM.out (by rw [C1.out]; omega)
        subst ra
        obtain ⟨b2, o2, ra, hb2, hel2⟩ := slice_at HC.out (by rw [C3.out]; omega)
        subst ra
        obtain ⟨b3, o3, ra, hb3, hel3⟩ := slice_at HPP.out (by omega)
        subst ra
        have hilV : a < mine.length := by rw [C1.out]; exact halt
        have hilC : a < C.length := by rw [C3.out]; exact halt
        have hilVi : (a : Int) < mine.length := by omega
        have hilCi : (a : Int) < C.length := by omega
        obtain ⟨v', m0, m1, hv⟩ := nd_cells hel halt
        obtain ⟨a', cap', rfl, g1, g2, _⟩ := slice_open hv
        have g2 : cap' ≤ 9223372036854775807 := g2
        have n0 := int_cells hel1 hilV
        have n1 := int_cells hel2 hilC
        have n2 := int_cells hel3 hi2
        rw [geti_at' hilV] at n0
        rw [geti_at' hilC] at n1
        rw [hpi2] at n2
        have hnd := List.getElem?_eq_getElem halt
        have HND := hid hnd; have HVV := hid hv; have HE3 := hid hel3
        have h8 := HP.out.len a _ hnd
        have h8i : (l[a].moves.length : Int) ≤ 8 := by omega
        have m0 := cell_nx m0 UU.out
        have m1 := cell_nx m1 UU.out
        have n0 := cell_nx n0 UU.out
        have n1 := cell_nx n1 UU.out
        have n2 := cell_nx n2 UU.out
        have k0 := cell_nx k0 UU.out
        have k1 := cell_nx k1 UU.out
        have M0 := hid m0; have M1 := hid m1; have N0 := hid n0; have N1 := hid n1; have N2 := hid n2; have K1 := hid k1
        clear hel hel1 hel2 hel3 hv hnd h8 hi hpi hpi2 hplen m0 m1 n0 n1 k0 k1
        generalize l[a] = nd at *
        obtain ⟨mi, mvs⟩ := nd
        dsimp only at *
        go_upto_region 15 with (fail)
        go_cut [129] (fun s wx => s = .bool false ∧ wx = wr)
        case first =>
          have ha0 : decide ((a : Int) < 0) = false := decide_eq_false (by omega)
          have ha1 : decide (l.length ≤ a) = false := decide_eq_false (by omega)
          have ha2 : decide ((l.length : Int) ≤ (a : Int)) = false := decide_eq_false (by omega)
          by_cases hi0 : i = 0
          · have hib : ((i : Int) == 0) = true := beq_iff_eq.2 (by omega)
            have hab : ((a : Int) != 0) = false := by rw [ST.out.start hi0]; rfl
            clear hi0
            go_wp2_with fail
            go_meet
            case rel => exact ⟨rfl, rfl⟩
          · have hib : ((i : Int) == 0) = false := beq_eq_false_iff_ne.2 (by omega)
            go_wp2_with fail
            go_meet
            case rel => exact ⟨rfl, rfl⟩
        case rest =>
          obtain ⟨rfl, hwc⟩ := hcut
          replace hwc := hwc.symm
          subst hwc
          have m1 := M1.out
          by_cases hem : mvs.length = 0
          · have hnil := List.length_eq_zero_iff.1 hem
            subst hnil
            obtain ⟨e1, e2⟩ := ST.out.stop HND.out
            rw [HPI.out] at e1
            rw [HTOT.out] at e2
            subst e2
            have hl : ((i : Int) == (PI.length : Int) - 1) = true := beq_iff_eq.2 (by omega)
            clear hem e1 M1
            go_wp2_with fail
            go_ret
            exact ⟨rfl, HU.out.trans UU.out⟩
          · have hmpos : (0 : Int) < mvs.length := by omega
            have hcl : chosen ⟨mi, mvs⟩ (if mi then geti mine a else geti C a) < mvs.length := chosen_lt ⟨mi, mvs⟩ (if mi then geti mine a else geti C a) (fun (h : mvs = []) => hem (by rw [h]; rfl))
            have hmem := List.getElem?_eq_getElem hcl
            have stp := fun t gain (e : mvs[chosen ⟨mi, mvs⟩ (if mi then geti mine a else geti C a)]? = some ⟨((t : Nat) : Int), gain⟩) => ST.out.step HP.out HND.out e rfl
            obtain ⟨t1, t2, t3, t4⟩ := HP.out.mv a _ _ HND.out (List.getElem_mem hcl)
            rw [show maxGain = 1099511627776 from rfl] at t3 t4
            have hmt : ∃ t : Nat, mvs[chosen ⟨mi, mvs⟩ (if mi then geti mine a else geti C a)].to = t := ⟨_, (Int.toNat_of_nonneg (by omega)).symm⟩
            obtain ⟨t, ht⟩ := hmt
            obtain ⟨f', st', hnext⟩ := stp t mvs[chosen ⟨mi, mvs⟩ (if mi then geti mine a else geti C a)].gain (by rw [hmem, ← ht])
            rw [HPI.out] at hnext
            have hl : ((i : Int) == (PI.length : Int) - 1) = false := beq_eq_false_iff_ne.2 (by omega)
            have ST2 := hid st'
            have hd2 := drop_cons_at st'.drop
            obtain ⟨hj, hpj, _, _⟩ := hd2
            have hpj2 : PI[i + 1] = (t : Int) := by
              have : ∀ (Q : List Int) (e : Q = PI) (h : i + 1 < Q.length), Q[i + 1] = (t : Int) → PI[i + 1] = (t : Int) := fun Q e h hh => by subst e; exact hh
              exact this _ HPI.out hj hpj
            have n3 := int_cells HE3.out hnext
            rw [hpj2] at n3
            have n3 := cell_nx n3 UU.out
            have N3 := hid n3
            have hnexti : (i : Int) + 1 < PI.length := by omega
            obtain ⟨b4, o4, ra, hb4, hel4⟩ := slice_at HVV.out (by omega)
            subst ra
            obtain ⟨e0, e1⟩ := mv_cells hel4 hcl
            rw [ht] at e0
            have E0 := hid (cell_nx e0 UU.out); have E1 := hid (cell_nx e1 UU.out)
            obtain ⟨K, HK⟩ : ∃ K : Int, Hid (K = if mi = true then geti mine a else geti C a) := ⟨_, hid rfl⟩
            have CH := hid (show chosen ⟨mi, mvs⟩ (if mi then geti mine a else geti C a) = chosen ⟨mi, mvs⟩ K by rw [HK.out])
            have HCL := hid hcl
            have hti : -1099511627776 ≤ mvs[chosen ⟨mi, mvs⟩ (if mi then geti mine a else geti C a)].gain ∧ mvs[chosen ⟨mi, mvs⟩ (if mi then geti mine a else geti C a)].gain ≤ 1099511627776 := ⟨t3, t4⟩
            generalize mvs[chosen ⟨mi, mvs⟩ (if mi then geti mine a else geti C a)].gain = gain at *
            rw [CH.out] at E0 E1 HCL
            clear hem hcl hmem stp t1 t2 t3 t4 ht st' hj hpj hpj2 n3 hel4 e0 e1 CH
            have k1 := K1.out
            have n1 := N1.out
            go_upto_region 20 with (fail)
            go_cut [14] (fun s wx => s = .int .i64 (geti C a) ∧ Upd (fun _ => False) wr wx)
            case first =>
              go_wp2_with fail
              go_quiet (fail)
              go_wp2_with fail
              go_meet
              case rel => exact ⟨rfl, (Upd.refl _ _).drewN _⟩
            case rest =>
              obtain ⟨rfl, uc⟩ := hcut
              have UC := hid uc
              clear k1 n1 m1 n2 uc
              have m0 := cell_nx M0.out UC.out
              have n0 := cell_nx N0.out UC.out
              have n2 := cell_nx N2.out UC.out
              go_upto_if 169 with (fail)
              go_cut [14] (fun s wx => s = .int .i64 K ∧ wx = wc)
              case first =>
                cases mi
                · obtain rfl : K = geti C a := HK.out
                  go_wp2_with fail
                  go_meet
                  case rel => exact ⟨rfl, rfl⟩
                · obtain rfl : K = geti mine a := HK.out
                  go_wp2_with fail
                  go_meet
                  case rel => exact ⟨rfl, rfl⟩
              case rest =>
                obtain ⟨rfl, hwc⟩ := hcut
                replace hwc := hwc.symm
                subst hwc
                clear m0 n0
                obtain ⟨bad, HBD⟩ : ∃ bad : Bool, Hid (bad = true ↔ K < 0 ∨ (mvs.length : Int) ≤ K) := ⟨decide (K < 0 ∨ (mvs.length : Int) ≤ K), hid decide_eq_true_iff⟩
                go_upto_region 23 with (fail)
                go_cut [184] (fun s wx => s = .bool bad ∧ wx = wc)
                case first =>
                  by_cases q0 : K < 0
                  · obtain rfl : bad = true := HBD.out.2 (.inl q0)
                    go_wp2_with fail
                    go_meet
                    case rel => exact ⟨rfl, rfl⟩
                  by_cases q3 : (mvs.length : Int) ≤ K
                  · obtain rfl : bad = true := HBD.out.2 (.inr q3)
                    go_wp2_with fail
                    go_meet
                    case rel => exact ⟨rfl, rfl⟩
                  · obtain rfl : bad = false := Bool.eq_false_iff.2 fun e => by have := HBD.out.1 e; omega
                    go_wp2_with fail
                    go_meet
                    case rel => exact ⟨rfl, rfl⟩
                case rest =>
                  obtain ⟨rfl, hwc⟩ := hcut
                  replace hwc := hwc.symm
                  subst hwc
                  have n3 := cell_nx N3.out UC.out
                  have e0 := cell_nx E0.out UC.out
                  have e1 := cell_nx E1.out UC.out
                  have hmz : ((mvs.length : Int) == 0) = false := beq_eq_false_iff_ne.2 (by omega)
                  have htt : ((t : Int) != t) = false := by simp
                  cases bad
                  · have kb : ¬ (K < 0 ∨ (mvs.length : Int) ≤ K) := fun h => absurd (HBD.out.2 h) (by decide)
                    obtain ⟨k, rfl⟩ := Int.eq_ofNat_of_zero_le (show 0 ≤ K by omega)
                    have kli : (k : Int) < mvs.length := by omega
                    have hch : chosen ⟨mi, mvs⟩ k = k := by unfold chosen; rw [if_neg (by dsimp only; omega), Int.toNat_natCast]
                    rw [hch] at e0 e1
                    clear kb hch
                    go_wp2_with fail
                    go_quiet (fail)
                    go_wp2_with fail
                    go_roundg (PI.length - (i + 1))
                    case measure => have := HG.out; omega
                    case rel => exact ⟨i + 1, t, f', g + gain, rfl, by first | rfl | go_num, by go_num, ST2.out, (UU.out.trans UC.out).drewN _⟩
                  · have hch : chosen ⟨mi, mvs⟩ K = 0 := by unfold chosen; rw [if_pos (HBD.out.1 rfl)]
                    rw [hch, Nat.zero_mul, Nat.add_zero] at e0 e1
                    clear hch
                    go_wp2_with fail
                    go_quiet (fail)
                    go_wp2_with fail
                    go_roundg (PI.length - (i + 1))
                    case measure => have := HG.out; omega
                    case rel => exact ⟨i + 1, t, f', g + gain, rfl, by first | rfl | go_num, by go_num, ST2.out, (UU.out.trans UC.out).drewN _⟩
    · subst hn
      go_wp2_with fail
      go_ret
      exact ⟨rfl, HU.out⟩
  · skip
    have c1b : ((mine.length : Int) != l.length) = true := by rw [bne_iff_ne]; omega
    have c1c : (mine.length != l.length) = true := by rw [bne_iff_ne]; omega
    clear c1
    go_enter Try.func4, Try.ntmps4
    go_wp2_with fail
    refine (small_any _).mono ?_
    rintro e w1 ⟨rfl, u⟩
    replace HN := hid (keep_nds HN.out u)
    replace HM := hid (keep_ints HM.out u)
    replace HV := hid (keep_ints HV.out u)
    replace HC := hid (keep_ints HC.out u)
    replace HB := hid ((u.block _ (heap_lt HB.out) id).trans HB.out)
    replace HU := hid (HU.out.trans u)
    obtain ⟨k0, k1, _⟩ := cells2 HB.out
    clear u
    go_wp2_with fail
    refine (few_any _ l 200 _ HN.out (by decide)).mono ?_
    rintro e wf ⟨rfl, hwf⟩
    subst hwf
    rw [HF.out]
    go_wp2_with fail
    refine (right_any _ l _ HN.out).mono ?_
    rintro e w2 ⟨rfl, u⟩
    replace HN := hid (keep_nds HN.out u)
    replace HM := hid (keep_ints HM.out u)
    replace HV := hid (keep_ints HV.out u)
    replace HC := hid (keep_ints HC.out u)
    replace HB := hid ((u.block _ (heap_lt HB.out) id).trans HB.out)
    replace HU := hid (HU.out.trans u)
    clear u
    rw [HR.out]
    go_wp2_with fail
    go_ret
    exact ⟨rfl, HU.out⟩
end Go.Proofs.Ytmjjfafkmfcpnaa
