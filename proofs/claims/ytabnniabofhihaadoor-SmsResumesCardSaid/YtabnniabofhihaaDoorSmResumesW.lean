/- The walk of SmsResumes (under way). -/
import Derived.Test.YtabnniabofhihaaDoorSmSt
import Derived.Test.YtabnniabofhihaaDoorSmSplits
namespace Go.Proofs.YtabnniabofhihaaDoor
open Go.RowKit Go.Deep

theorem pick_get {α : Type} (l : List α) : ∀ (ms : List Int), (∀ x ∈ ms, 0 ≤ x ∧ x < l.length) → (pick l ms).length = ms.length ∧ ∀ j (h : j < (pick l ms).length) (h2 : j < ms.length) (h3 : ms[j].toNat < l.length), (pick l ms)[j] = l[ms[j].toNat]
  | [], _ => ⟨rfl, fun j h => absurd h (Nat.not_lt_zero _)⟩
  | x :: r, hm => by
    have hx := hm x List.mem_cons_self
    obtain ⟨h1, h2⟩ := pick_get l r fun y hy => hm y (List.mem_cons_of_mem _ hy)
    have e : pick l (x :: r) = l[x.toNat]'(by omega) :: pick l r := by
      unfold pick
      rw [List.filterMap_cons, List.getElem?_eq_getElem (show x.toNat < l.length by omega)]
    refine ⟨by rw [e, List.length_cons, List.length_cons, h1], fun j h hj h3 => ?_⟩
    cases j with
    | zero => simp [e]
    | succ j => simpa [e] using h2 j (by rw [e] at h; simpa using h) (by simpa using hj) (by simpa using h3)
theorem bool_cells {A : Nat → Prop} {w : World} {b o : Nat} {l : List Bool} (h : Elems kBool A w b o l) {j : Nat} (hk : j < l.length) : w.cell? ⟨b, o + j, none⟩ = some (.bool l[j]) := by
  obtain ⟨cs, h1, h2⟩ := h.cell hk
  have h1 : cs = [.bool l[j]] := h1
  subst h1
  have := h2 0 (Nat.lt_succ_self 0)
  rw [show kBool.size = 1 from rfl, Nat.mul_one] at this
  exact this
theorem filter_ne_len {l : List Int} {x : Int} (hn : Asc l) (hx : x ∈ l) : (l.filter fun y => decide (y ≠ x)).length + 1 = l.length := by
  unfold Asc at hn
  induction l with
  | nil => cases hx
  | cons a r ih =>
    rw [List.pairwise_cons] at hn
    by_cases hax : a = x
    · subst hax
      rw [List.filter_cons_of_neg (by simp), List.filter_eq_self.2 fun y hy => by
        have := hn.1 y hy
        simpa using (by omega : y ≠ a)]
      rfl
    · rw [List.filter_cons_of_pos (by simpa using hax), List.length_cons, List.length_cons]
      rcases List.mem_cons.1 hx with rfl | hx
      · exact absurd rfl hax
      · rw [ih hn.2 hx]
/-- The rounds' inner loop: i answers have been looked at, cm have come. -/
structure Ans (wB wz w3 : World) (bb c : Nat) (f : Nat → Bs) (m m' : Ms) (a L i cm : Nat) (O : Nat → Prop) (w : World) : Prop where
  le : cm ≤ i
  len : (missL m').length + cm = (missL m).length
  left : ∀ j (h : j < (missL m).length), i ≤ j → (missL m)[j] ∈ missL m'
  lost : cm = 0 → i = 0 ∨ a + i ≤ L
  st : St wB bb 9 c f m' O w
  own : ∀ k, O k → k < wz.heap.size ∨ w3.heap.size ≤ k
  keep : ∀ g, wz.heap.size ≤ g → g < w3.heap.size → w.heap[g]? = w3.heap[g]?
  size : w3.heap.size ≤ w.heap.size
theorem Ans.skip {wB wz w3 w w' : World} {bb c : Nat} {f : Nat → Bs} {m m' : Ms} {a L i cm : Nat} {O : Nat → Prop} (h : Ans wB wz w3 bb c f m m' a L i cm O w) (u : Upd (fun _ => False) w w') (ha : a + i < L) : Ans wB wz w3 bb c f m m' a L (i + 1) cm O w' :=
  ⟨by have := h.le; omega, h.len, fun j hj hi => h.left j hj (by omega), fun _ => .inr (by omega), h.st.keep u, h.own, fun g h1 h2 => (u.block g (Nat.lt_of_lt_of_le h2 h.size) id).trans (h.keep g h1 h2), Nat.le_trans h.size u.size⟩
theorem Ans.come {wB wz w3 w w' : World} {bb c : Nat} {f : Nat → Bs} {m m' : Ms} {a L i cm t : Nat} {O O' : Nat → Prop} (h : Ans wB wz w3 bb c f m m' a L i cm O w) (hi : i < (missL m).length) (ht : (missL m)[i] = (t : Int)) (st : St wB bb 9 c f (addPart m' t (f t)) O' w') (ho : ∀ k, O' k → O k ∨ w.heap.size ≤ k) (u : Upd O w w') :
    Ans wB wz w3 bb c f m (addPart m' t (f t)) a L (i + 1) (cm + 1) O' w' := by
  have hx := h.left i hi (Nat.le_refl _)
  rw [ht] at hx
  have hl := filter_ne_len (missL_asc m') hx
  refine ⟨by have := h.le; omega, by rw [missL_add]; have := h.len; omega, fun j hj hij => ?_, fun h0 => by omega, st, fun k hk => ?_, fun g h1 h2 => ?_, Nat.le_trans h.size u.size⟩
  · rw [missL_add, List.mem_filter]
    refine ⟨h.left j hj (by omega), ?_⟩
    have := List.pairwise_iff_getElem.1 (missL_asc m) i j hi hj (by omega)
    rw [ht] at this
    simpa using (by omega : (missL m)[j] ≠ (t : Int))
  · rcases ho k hk with hk | hk
    · exact h.own k hk
    · exact .inr (Nat.le_trans h.size hk)
  · refine (u.block g (Nat.lt_of_lt_of_le h2 h.size) fun hO => ?_).trans (h.keep g h1 h2)
    rcases h.own g hO with h3 | h3 <;> omega
def kU16s : Knd (List Int) := kSlice (kInt .u16)
def kBools : Knd (List Bool) := kSlice kBool
set_option maxRecDepth 100000 in
set_option maxHeartbeats 8000000 in
theorem resumes_walk (msg : Bs) (sz : Int) (v2 v3 : Value) (first : List Int) (lost : List Bool) (w : World) (E : Env w) (hz : 6 ≤ w.heap.size) (hs : (Lit.int .u8 sz).wf = true) (h2 : kU16s.rep (· < w.heap.size) w [v2] first) (h3 : kBools.rep (· < w.heap.size) w [v3] lost) :
    Calls Tryd.prog 5 #[.string ⟨msg.toArray⟩, .int .u8 sz, v2, v3] w fun e w' => e = .returned (.bool true) ∧ Upd (fun _ => False) w w' := by
  have HE := hid E; have HZ := hid hz
  obtain ⟨fa, fc, rfl, hf1, hf2, _⟩ := slice_open h2
  obtain ⟨la, lc, rfl, hl1, hl2, _⟩ := slice_open h3
  replace hf2 : fc ≤ 9223372036854775807 := hf2
  replace hl2 : lc ≤ 9223372036854775807 := hl2
  have HF := hid h2; have HLO := hid h3
  have HSB := hid (bounds_u8 hs)
  have hsb := HSB.out
  clear E hz h2 h3 hs
  by_cases t1 : 3000 < msg.length
  · have t1i : (3000 : Int) < msg.length := by omega
    go_enter Tryd.func5, Tryd.ntmps5
    go_wp2_with fail
    refine (small_any w HE.out HZ.out).mono ?_
    rintro e w1 ⟨rfl, u⟩
    have U1 := hid u; clear u
    go_wp2_with fail
    go_ret
    exact ⟨rfl, U1.out⟩
  have t1b : decide (3000 < msg.length) = false := decide_eq_false t1
  have t1c : decide ((3000 : Int) < msg.length) = false := decide_eq_false (by omega)
  by_cases t2 : 60 < first.length
  · have t2i : (60 : Int) < first.length := by omega
    clear t1
    go_enter Tryd.func5, Tryd.ntmps5
    go_wp2_with fail
    refine (small_any w HE.out HZ.out).mono ?_
    rintro e w1 ⟨rfl, u⟩
    have U1 := hid u; clear u
    go_wp2_with fail
    go_ret
    exact ⟨rfl, U1.out⟩
  have t2b : decide (60 < first.length) = false := decide_eq_false t2
  have t2c : decide ((60 : Int) < first.length) = false := decide_eq_false (by omega)
  by_cases t3 : 200 < lost.length
  · have t3i : (200 : Int) < lost.length := by omega
    clear t1 t2
    go_enter Tryd.func5, Tryd.ntmps5
    go_wp2_with fail
    refine (small_any w HE.out HZ.out).mono ?_
    rintro e w1 ⟨rfl, u⟩
    have U1 := hid u; clear u
    go_wp2_with fail
    go_ret
    exact ⟨rfl, U1.out⟩
  have t3b : decide (200 < lost.length) = false := decide_eq_false t3
  have t3c : decide ((200 : Int) < lost.length) = false := decide_eq_false (by omega)
  have HL := hid (show msg.length ≤ 3000 by omega)
  have HF60 := hid (show first.length ≤ 60 by omega)
  have HL200 := hid (show lost.length ≤ 200 by omega)
  clear t1 t2 t3
  obtain ⟨q, hq⟩ : ∃ q : Nat, (q : Int) = 32 + sz % 109 - 24 := ⟨(32 + sz % 109 - 24).toNat, by omega⟩
  have HO := hid (show SplitOk 9 (32 + sz % 109) from ⟨by omega, by unfold maxMark; omega, by omega, by omega⟩)
  have HQ := hid (show 8 ≤ q ∧ q ≤ 116 by omega)
  have HQN := hid (show (32 + sz % 109 - 24).toNat = q by omega)
  have WS := hid (show (Lit.int .i64 (32 + sz % 109)).wf = true from iwf (by omega))
  obtain ⟨c, hc⟩ : ∃ c, cntF msg.length q = c := ⟨_, rfl⟩
  have HC := hid hc
  have hc1 : 1 ≤ c := by rw [← hc]; exact cnt_pos _ _
  have hc2 : c ≤ 2500 := by rw [← hc]; exact cnt_le HQ.out.1 (by have := HL.out; omega)
  have HC2 := hid hc2
  clear hq hc
  go_enter Tryd.func5, Tryd.ntmps5
  go_wp2_with fail
  refine (small_any w HE.out HZ.out).mono ?_
  rintro e w1 ⟨rfl, u⟩
  have U1 := hid u; clear u
  go_wp2_with fail
  refine (split_any 9 msg (32 + sz % 109) w1 (HE.out.keep0 U1.out) (by decide) WS.out (Nat.le_trans HL.out (by decide))).mono ?_
  intro e w2 hp
  obtain ⟨u, lb, lo, lcap, rfl, hlb, hk1, hk2, hel⟩ := split_ok hp HO.out (Nat.le_trans HL.out (by decide))
  rw [HQN.out] at hel hk1 ⊢
  rw [HC.out] at hk1 ⊢
  have U2 := hid (U1.out.trans u); have HEL := hid hel
  clear hp u hel hsb
  go_wp2_with fail
  refine (new_any w2 (Nat.le_trans HZ.out U2.out.size)).mono ?_
  rintro e w3 ⟨rfl, hb, u⟩
  obtain ⟨bb, hbb⟩ : ∃ x, w2.heap.size + 1 = x := ⟨_, rfl⟩
  rw [hbb] at hb ⊢
  have B0 := hid hb; have V0 := hid u
  clear hb u hbb
  have hll : (splitL 9 msg q).length = c := by rw [splitL_len, HC.out]
  have hgi : ∀ i (hi : i < (splitL 9 msg q).length), (splitL 9 msg q)[i] = partE 9 (i : Nat) (c : Nat) (chunk msg q i) := fun i hi => by
    have h := splitL_get (id := 9) (msg := msg) (n := q) (i := i) (by rw [HC.out]; omega)
    rw [List.getElem?_eq_getElem hi, HC.out] at h
    injection h
  have HLP := hid (show ∀ i (hi : i < (splitL 9 msg q).length), partF (splitL 9 msg q)[i] = some ⟨9, (i : Nat), (c : Nat), chunk msg q i⟩ from fun i hi => by
    have h := split_part (id := 9) (msg := msg) (n := q) (i := i) ⟨HO.out.1, HO.out.2.1⟩ HQ.out.1 HQ.out.2 (Nat.le_trans HL.out (by decide)) (by rw [HC.out]; omega)
    rw [HC.out] at h
    rw [hgi i hi]; exact h)
  have HLS := hid (show ∀ x ∈ splitL 9 msg q, x.length ≤ 140 from fun x hx => by
    obtain ⟨i, hi, rfl⟩ := List.mem_iff_getElem.1 hx
    have h := split_size (id := 9) (msg := msg) (n := q) (i := i) ⟨HO.out.1, HO.out.2.1⟩ HQ.out.1 (Nat.le_trans HL.out (by decide)) (by rw [HC.out]; omega)
    rw [HC.out] at h
    rw [hgi i hi]
    have := HQ.out.2
    omega)
  have HALL := hid (show ((List.range c).map (chunk msg q)).flatten = msg by rw [← HC.out]; exact chunks_all (by have := HQ.out.1; omega))
  clear hgi
  generalize splitL 9 msg q = l at *
  obtain ⟨f, hf⟩ : ∃ f : Nat → Bs, chunk msg q = f := ⟨_, rfl⟩
  rw [hf] at HLP HALL
  clear hf
  have HLL := hid hll
  have hl0 : 0 < l.length := by omega
  have c0 : w2.cell? ⟨lb, lo, none⟩ = some (.string ⟨(l[0]).toArray⟩) := str_cells HEL.out hl0
  have P0 := hid (HLP.out 0 hl0)
  have S0 := hid (HLS.out _ (List.getElem_mem hl0))
  generalize l[0] = s0 at *
  have hlb3 := Nat.lt_of_lt_of_le hlb.2 V0.out.size
  have c0 := cell_kept c0 (V0.out.block lb hlb.2 id)
  have hcz : ((c : Int) == 0) = false := beq_eq_false_iff_ne.2 (by omega)
  have hcz2 : (c == 0) = false := beq_eq_false_iff_ne.2 (by omega)
  have hc0i : (0 : Int) < c := by omega
  have hc0 : 0 < c := by omega
  clear hll hl0
  go_wp2_with fail
  refine (take_any bb _ [] s0 _ (HE.out.keep0 (U2.out.trans V0.out)) B0.out (Nat.le_trans S0.out (by decide))).mono ?_
  rintro e w4 ⟨rfl, O, hb, ho, u⟩
  obtain ⟨hta, htg⟩ := take_first P0.out
  rw [hta] at hb ⊢
  have ST := hid (show St w2 bb 9 c f ⟨c, [((0 : Nat), f 0)]⟩ O w4 from ⟨⟨_, hb, htg⟩, fun k hk => (ho k hk).elim (fun h => h.1) fun h => Nat.le_trans V0.out.size h, V0.out.comp u fun j hj h => by omega⟩)
  clear hb ho u hta htg c0 B0
  go_wp2_with fail
  go_loopg [13] first.length (fun gg s13 wr => ∃ (i : Nat) (m : Ms) (O : Nat → Prop), i ≤ first.length ∧ gg = first.length - i ∧ s13 = .int .i64 i ∧ St w2 bb 9 c f m O wr)
  case atStart => exact ⟨0, _, _, Nat.zero_le _, rfl, rfl, ST.out⟩
  case round =>
    clear ST
    obtain ⟨i, m, O, hi, hg, rfl, hst⟩ := hrel
    have HG := hid hg; have ST := hid hst
    have UST := hid hst.upd
    clear hg hst
    by_cases hlt : i < first.length
    · have hlti : (i : Int) < first.length := by omega
      obtain ⟨pb, po, ra, hpb, hel⟩ := slice_at HF.out (by omega)
      subst ra
      have hpb4 := Nat.lt_of_lt_of_le hpb U2.out.size
      have cx := cell_kept (int_cells hel hlt) ((U2.out.trans UST.out).block pb hpb id)
      have hxb : 0 ≤ first[i] ∧ first[i] ≤ 65535 := by
        obtain ⟨cs, h1, _⟩ := hel.cell hlt
        exact bounds_u16 h1.2
      clear hel
      generalize first[i] = x at *
      obtain ⟨r, hr⟩ : ∃ r : Nat, (r : Int) = x % c := ⟨(x % c).toNat, by have := Int.emod_nonneg x (show (c : Int) ≠ 0 by omega); omega⟩
      have hrl : r < c := by have := Int.emod_lt_of_pos x hc0i; omega
      have hrem : x % (c : Int) = r := hr.symm
      have hrem2 : x.tmod c = r := by rw [Int.tmod_eq_emod_of_nonneg hxb.1]; exact hrem
      have hrli : (r : Int) < c := by omega
      have hrl2 : r < l.length := by rw [HLL.out]; exact hrl
      have cr := cell_kept (str_cells HEL.out hrl2) (UST.out.block lb hlb.2 id)
      have PR := hid (HLP.out r hrl2)
      have SR := hid (HLS.out _ (List.getElem_mem hrl2))
      generalize l[r] = sr at *
      clear hr hrl2
      go_wp2_with fail
      refine (st_take sr r (HE.out.keep0 (U2.out.trans UST.out)) ST.out PR.out (Nat.le_trans SR.out (by decide))).mono ?_
      rintro e w5 ⟨rfl, O5, hst5, _, _⟩
      have ST5 := hid hst5
      clear hst5
      go_wp2_with fail
      go_roundg (first.length - (i + 1))
      case measure => have := HG.out; clear hrem hrem2; omega
      case rel => exact ⟨i + 1, _, _, by omega, rfl, by (clear hrem hrem2; go_num), ST5.out⟩
    · obtain rfl : i = first.length := by omega
      obtain ⟨wq, rfl⟩ : ∃ wq : World, wq = wr := ⟨_, rfl⟩
      have hmc : (missL m).length ≤ c := by have h := missTo_len m m.count; have := ST.out.box; obtain ⟨_, _, hgt⟩ := this; rw [hgt.count] at h; rw [← missTo_all, hgt.count]; exact h
      have HMC := hid hmc
      clear hmc HG
      go_wp2_with fail
      have hlo := HL200.out
      go_loopg [14, 15] (c + lost.length + 1) (fun gg s14 s15 wr => ∃ (k a : Nat) (m : Ms) (O : Nat → Prop), k ≤ c + lost.length ∧ gg = c + lost.length + 1 - k ∧ s15 = .int .i64 k ∧ s14 = .int .i64 a ∧ a ≤ 3000 * k ∧ (missL m).length + (lost.length - a) + k ≤ c + lost.length ∧ St w2 bb 9 c f m O wr)
      case atStart => exact ⟨0, 0, m, O, Nat.zero_le _, rfl, rfl, rfl, Nat.zero_le _, by have := HMC.out; omega, ST.out⟩
      case round =>
        clear ST UST HMC
        obtain ⟨k, a, m, O, hk, hg, rfl, rfl, hak, hinv, hst⟩ := hrel
        have HG := hid hg; have HAK := hid hak; have HINV := hid hinv; have ST := hid hst; have UST := hid hst.upd
        have hki : (k : Int) ≤ (c : Int) + lost.length := by omega
        have hki2 : k ≤ c + lost.length := hk
        clear hg hak hinv hst
        go_wp2_with fail
        refine (st_missing ST.out (by decide)).mono ?_
        rintro e m1 ⟨v, rfl, hrep, u⟩
        obtain ⟨ba, bc, rfl, hb1, hb2, _⟩ := slice_open hrep
        replace hb2 : bc ≤ 9223372036854775807 := hb2
        have R1 := hid hrep; have S1 := hid (ST.out.keep u); have N1 := hid u
        clear hrep u
        go_wp2_with fail
        refine (st_ask (HE.out.keep0 (U2.out.trans S1.out.upd)) (Nat.le_trans HZ.out (U2.out.trans S1.out.upd).size) S1.out (by unfold I64; omega)).mono ?_
        rintro e m2 ⟨rfl, u⟩
        have S2 := hid (S1.out.keep u); have N2 := hid (N1.out.trans u); have N12 := hid u
        clear u
        by_cases hms : missL m = []
        · rw [if_pos hms]
          have hz1 : ((missL m).length : Int) = 0 := by rw [hms]; rfl
          have hz2 : (((missL m).length : Int) == 0) = true := by rw [hms]; rfl
          have hz3 : ((missL m).length == 0) = true := by rw [hms]; rfl
          have HMS := hid hms
          clear hms hz1
          go_wp2_with fail
          refine (st_done S2.out (by decide)).mono ?_
          rintro e m3 ⟨rfl, u⟩
          rw [if_pos HMS.out, HALL.out]
          have S3 := hid (S2.out.keep u)
          clear u
          go_wp2_with fail
          go_ret
          exact ⟨rfl, U2.out.trans S3.out.upd⟩
        · rw [if_neg hms]
          have hzb : (((missL m).length : Int) == 0) = false := beq_eq_false_iff_ne.2 (by have := List.length_pos_iff.2 hms; omega)
          have hzc : ((missL m).length == 0) = false := beq_eq_false_iff_ne.2 (by have := List.length_pos_iff.2 hms; omega)
          obtain ⟨n, hn0, hal, hres, hnn⟩ := ask_gives S2.out (l := l) ⟨by decide, by unfold maxMark; decide⟩ HLL.out HLP.out hms
          have hmm : ∀ x ∈ (missL m).take n, 0 ≤ x ∧ x < l.length := fun x hx => by
            have h1 := (missL_iff m x).1 (List.mem_of_mem_take hx)
            obtain ⟨_, _, hgt⟩ := S2.out.box
            have := hgt.count
            have := HLL.out
            omega
          obtain ⟨hpl, hpg⟩ := pick_get l _ hmm
          have HMP := hid (List.length_pos_iff.2 hms)
          have HREP := hid (show kStrs.rep (Fresh w1 w2) w2 [.slice (some ⟨lb, lo, none⟩) c lcap] l from .inr ⟨lb, lo, lcap, by rw [HLL.out], by rw [HLL.out]; exact hk1, hk2, hlb, HEL.out⟩)
          obtain ⟨ak, hak⟩ : ∃ x, askM 9 m = x := ⟨_, rfl⟩
          obtain ⟨mo, hmo⟩ : ∃ x, pick l ((missL m).take n) = x := ⟨_, rfl⟩
          rw [hak] at hal hres hnn ⊢
          rw [hmo] at hres hpl hpg
          have HRES := hid hres; have HNN := hid hnn; have HAL := hid hal
          have HPL := hid hpl; have HPG := hid hpg; have HMM := hid hmm; have HN0 := hid hn0
          have hal2 : decide (140 < ak.length) = false := decide_eq_false (by omega)
          have hal3 : decide ((140 : Int) < ak.length) = false := decide_eq_false (by omega)
          have hmop : 0 < mo.length := by rw [hpl, List.length_take]; have := HMP.out; omega
          have hmob : ((mo.length : Int) == 0) = false := beq_eq_false_iff_ne.2 (by omega)
          have hmoc : (mo.length == 0) = false := beq_eq_false_iff_ne.2 (by omega)
          clear hms hres hnn hal hak hmo hpl hpg hmm hn0
          go_wp2_with fail
          refine (resume_any _ l ak _ (HE.out.keep0 (U2.out.trans S2.out.upd)) (Nat.le_trans HZ.out (U2.out.trans S2.out.upd).size) ((kSlice (kMap kStr fun l : List UInt8 => ⟨l.toArray⟩)).mono ((kSlice (kMap kStr fun l : List UInt8 => ⟨l.toArray⟩)).keep HREP.out fun g hg hlt => S2.out.upd.block g hlt id) fun g hg => Nat.lt_of_lt_of_le hg.2 S2.out.upd.size) (Nat.le_trans HAL.out (by decide)) (fun x hx => Nat.le_trans (HLS.out x hx) (by decide)) (by have := HLL.out; omega) HNN.out).mono ?_
          rintro e m3 ⟨u, ra, rn, rc, rfl, hrep⟩
          rw [HRES.out] at hrep ⊢
          obtain ⟨_, _, he', hr1, hr2, _⟩ := slice_open hrep
          injection he' with e1 e2 e3
          subst e2 e3
          replace hr2 : rc ≤ 9223372036854775807 := hr2
          have R3 := hid hrep; have S3 := hid (S2.out.keep u); have N3 := hid (N2.out.trans u); have N23 := hid u
          clear hrep u e1
          go_wp2_with fail
          have N13 := hid (show Upd (fun _ => False) m1 m3 from N12.out.trans N23.out)
          have SZ13 := hid N13.out.size
          obtain ⟨wz, rfl⟩ : ∃ wz : World, wz = wr := ⟨_, rfl⟩
          have AN0 := hid (show Ans w2 wz m3 bb c f m m a lost.length 0 0 O m3 from ⟨Nat.le_refl _, rfl, fun j h _ => List.getElem_mem h, fun _ => .inl rfl, S3.out, fun q hq => .inl (ST.out.lt q hq).2, fun _ _ _ => rfl, Nat.le_refl _⟩)
          have hmol : mo.length ≤ (missL m).length := by rw [HPL.out, List.length_take]; omega
          go_loopg [14, 24, 25] mo.length (fun gg s14 s24 s25 wr => ∃ (i cm : Nat) (m' : Ms) (O' : Nat → Prop), i ≤ mo.length ∧ gg = mo.length - i ∧ s25 = .int .i64 i ∧ s24 = .int .i64 cm ∧ s14 = .int .i64 ((a + i : Nat) : Int) ∧ Ans w2 wz m3 bb c f m m' a lost.length i cm O' wr)
          case atStart => exact ⟨0, 0, m, O, Nat.zero_le _, rfl, rfl, rfl, rfl, AN0.out⟩
          case round =>
            clear AN0
            obtain ⟨i, cm, m', O', hi, hg, rfl, rfl, rfl, han⟩ := hrel
            have HG3 := hid hg; have AN := hid han
            clear hg han
            by_cases hlt : i < mo.length
            · have HKC := hid (And.intro hk (And.intro hlo hc2))
              clear hf1 hf2 hl1 hl2 hk1 hk2 hb1 hb2 hr1 hr2 hk hki hki2 hlo hi hc1 hc2
              have hlti : (i : Int) < mo.length := by omega
              have hmc2 : (missL m).length ≤ 2500 := by
                have hc2 := HC2.out
                have h1 := HINV.out
                obtain ⟨_, _, hgt⟩ := ST.out.box
                have h3 := missTo_len m m.count
                rw [hgt.count] at h3
                have h4 : (missL m).length ≤ c := by rw [← missTo_all, hgt.count]; exact h3
                omega
              have hab : (a : Int) + i + 1 ≤ 100000000 := by have := HAK.out; have := HKC.out; omega
              have hcmb : (cm : Int) + 1 ≤ 100000000 := by have := AN.out.le; omega
              have hibd : (i : Int) + 1 ≤ 100000000 := by omega
              have HAB := hid hab; have HCMB := hid hcmb; have HIB := hid hibd
              clear hmc2
              have hib : i < (missL m).length := by omega
              have hibi : (i : Int) < (missL m).length := by omega
              obtain ⟨ba, bo, ra', hba, helb⟩ := slice_at R1.out (by omega)
              subst ra'
              obtain ⟨rb, ro, ra', hrb, helr⟩ := slice_at R3.out (by omega)
              subst ra'
              have hbam3 : ba < m3.heap.size := Nat.lt_of_lt_of_le hba.2 (SZ13.out)
              have cb := cell_kept (int_cells helb hib) ((AN.out.keep ba hba.1 hbam3).trans (N13.out.block ba hba.2 id))
              have cmo := cell_kept (str_cells helr hlt) (AN.out.keep rb (Nat.le_trans N2.out.size hrb.1) hrb.2)
              have hmi := HMM.out _ (List.getElem_mem (show i < ((missL m).take n).length by rw [← HPL.out]; exact hlt))
              rw [List.getElem_take] at hmi
              obtain ⟨tn, htn⟩ := Int.eq_ofNat_of_zero_le hmi.1
              have hti : tn < l.length := by omega
              have hgo : mo[i] = l[tn] := by
                have h := HPG.out i hlt (by rw [← HPL.out]; exact hlt) (by rw [List.getElem_take, htn]; simpa using hti)
                rw [h]
                congr 1
                rw [List.getElem_take, htn]
                rfl
              have PX := hid (HLP.out tn hti)
              have SX := hid (show l[tn].length ≤ 10000000 from Nat.le_trans (HLS.out _ (List.getElem_mem hti)) (by decide))
              rw [hgo] at cmo
              rw [htn] at cb
              have HTN := hid htn
              generalize l[tn] = sx at *
              have PXR := hid (show partR sx = .tuple #[.int .i64 9, .int .i64 (tn : Nat), .int .i64 (c : Nat), .string ⟨(f tn).toArray⟩, .int .i64 0] by unfold partR; rw [PX.out])
              have hll := HLL.out
              have q1 : ¬ ((tn : Int) < 0) := by omega
              have q2 : decide ((c : Int) ≤ tn) = false := decide_eq_false (by omega)
              have q3 : decide (c ≤ tn) = false := decide_eq_false (by omega)
              have q1b : decide ((tn : Int) < 0) = false := decide_eq_false q1
              clear q1
              clear hmi hgo hti htn helb helr
              by_cases hal : a + i < lost.length
              · have hali : ((a : Int) + i) < lost.length := by omega
                obtain ⟨sb, so, ra', hsb, hels⟩ := slice_at HLO.out (by omega)
                subst ra'
                have cl := cell_kept (bool_cells hels hal) ((U2.out.trans AN.out.st.upd).block sb hsb id)
                clear hels
                cases hlv : lost[a + i] with
                | true =>
                  rw [hlv] at cl
                  clear hlv
                  go_wp2_with fail
                  refine (part_any sx _ (HE.out.keep0 (U2.out.trans AN.out.st.upd)) (Nat.le_trans HZ.out (U2.out.trans AN.out.st.upd).size) SX.out).mono ?_
                  rintro e w5 ⟨rfl, u⟩
                  have K5 := hid u
                  clear u
                  rw [PXR.out]
                  have cl := cell_kept cl (K5.out.block sb (Nat.lt_of_lt_of_le hsb (U2.out.trans AN.out.st.upd).size) id)
                  have cb := cell_kept cb (K5.out.block ba (Nat.lt_of_lt_of_le hbam3 AN.out.size) id)
                  have cmo := cell_kept cmo (K5.out.block rb (Nat.lt_of_lt_of_le hrb.2 AN.out.size) id)
                  have AN6 := hid (AN.out.skip K5.out hal)
                  go_wp2_with fail
                  go_roundg (mo.length - (i + 1))
                  case measure => have := HG3.out; omega
                  case rel => exact ⟨i + 1, cm, m', O', by omega, rfl, by go_num, rfl, by (have h1 := HAB.out; go_num), AN6.out⟩
                | false =>
                  rw [hlv] at cl
                  clear hlv
                  go_wp2_with fail
                  refine (part_any sx _ (HE.out.keep0 (U2.out.trans AN.out.st.upd)) (Nat.le_trans HZ.out (U2.out.trans AN.out.st.upd).size) SX.out).mono ?_
                  rintro e w5 ⟨rfl, u⟩
                  have K5 := hid u
                  clear u
                  rw [PXR.out]
                  have cl := cell_kept cl (K5.out.block sb (Nat.lt_of_lt_of_le hsb (U2.out.trans AN.out.st.upd).size) id)
                  have cb := cell_kept cb (K5.out.block ba (Nat.lt_of_lt_of_le hbam3 AN.out.size) id)
                  have cmo := cell_kept cmo (K5.out.block rb (Nat.lt_of_lt_of_le hrb.2 AN.out.size) id)
                  go_wp2_with fail
                  refine (st_take sx tn (HE.out.keep0 (U2.out.trans (AN.out.st.keep K5.out).upd)) (AN.out.st.keep K5.out) PX.out SX.out).mono ?_
                  rintro e w6 ⟨rfl, O6, hst6, ho6, u6⟩
                  have AN6 := hid (show Ans w2 wz m3 bb c f m (addPart m' tn (f tn)) a lost.length (i + 1) (cm + 1) O6 w6 from Ans.come (w := w5) ⟨AN.out.le, AN.out.len, AN.out.left, AN.out.lost, AN.out.st.keep K5.out, AN.out.own, fun g h1 h2 => (K5.out.block g (Nat.lt_of_lt_of_le h2 AN.out.size) id).trans (AN.out.keep g h1 h2), Nat.le_trans AN.out.size K5.out.size⟩ (by omega) HTN.out hst6 ho6 u6)
                  clear hst6 ho6 u6
                  go_wp2_with fail
                  go_roundg (mo.length - (i + 1))
                  case measure => have := HG3.out; omega
                  case rel => exact ⟨i + 1, cm + 1, _, O6, by omega, rfl, by go_num, by (have h1 := HCMB.out; go_num), by (have h1 := HAB.out; go_num), AN6.out⟩
              · have halb : decide (a + i < lost.length) = false := decide_eq_false hal
                have halc : decide ((a : Int) + i < lost.length) = false := decide_eq_false (by omega)
                go_wp2_with fail
                refine (part_any sx _ (HE.out.keep0 (U2.out.trans AN.out.st.upd)) (Nat.le_trans HZ.out (U2.out.trans AN.out.st.upd).size) SX.out).mono ?_
                rintro e w5 ⟨rfl, u⟩
                have K5 := hid u
                clear u
                rw [PXR.out]
                have cb := cell_kept cb (K5.out.block ba (Nat.lt_of_lt_of_le hbam3 AN.out.size) id)
                have cmo := cell_kept cmo (K5.out.block rb (Nat.lt_of_lt_of_le hrb.2 AN.out.size) id)
                go_wp2_with fail
                refine (st_take sx tn (HE.out.keep0 (U2.out.trans (AN.out.st.keep K5.out).upd)) (AN.out.st.keep K5.out) PX.out SX.out).mono ?_
                rintro e w6 ⟨rfl, O6, hst6, ho6, u6⟩
                have AN6 := hid (show Ans w2 wz m3 bb c f m (addPart m' tn (f tn)) a lost.length (i + 1) (cm + 1) O6 w6 from Ans.come (w := w5) ⟨AN.out.le, AN.out.len, AN.out.left, AN.out.lost, AN.out.st.keep K5.out, AN.out.own, fun g h1 h2 => (K5.out.block g (Nat.lt_of_lt_of_le h2 AN.out.size) id).trans (AN.out.keep g h1 h2), Nat.le_trans AN.out.size K5.out.size⟩ (by omega) HTN.out hst6 ho6 u6)
                clear hst6 ho6 u6
                go_wp2_with fail
                go_roundg (mo.length - (i + 1))
                case measure => have := HG3.out; omega
                case rel => exact ⟨i + 1, cm + 1, _, O6, by omega, rfl, by go_num, by (have h1 := HCMB.out; go_num), by (have h1 := HAB.out; go_num), AN6.out⟩
            · obtain rfl : i = mo.length := by omega
              have hlen := AN.out.len
              have HINV2 := hid (show (missL m').length + (lost.length - (a + mo.length)) + (k + 1) ≤ c + lost.length by
                have h1 := AN.out.lost
                have h2 := HINV.out
                by_cases h0 : cm = 0
                · rcases h1 h0 with h3 | h3 <;> omega
                · omega)
              have HAK2 := hid (show a + mo.length ≤ 3000 * (k + 1) by
                have h1 := HAK.out
                have h2 : (missL m).length ≤ c := by have h := HINV.out; obtain ⟨_, _, hgt⟩ := ST.out.box; have h3 := missTo_len m m.count; rw [hgt.count] at h3; rw [← missTo_all, hgt.count]; exact h3
                omega)
              have hsub : ((missL m).length : Int) - cm = (missL m').length := by omega
              have heb : (((missL m').length : Int) == (missL m').length) = true := beq_self_eq_true _
              go_wp2_with fail
              refine (st_missing AN.out.st (by decide)).mono ?_
              rintro e m4 ⟨v, rfl, hrep, u⟩
              obtain ⟨da, dc, rfl, hd1, hd2, _⟩ := slice_open hrep
              have S4 := hid (AN.out.st.keep u)
              clear hrep u
              go_wp2_with fail
              go_roundg (c + lost.length + 1 - (k + 1))
              case measure => have := HG.out; omega
              case rel => exact ⟨k + 1, a + mo.length, m', O', by have := HINV2.out; omega, rfl, by go_num, rfl, HAK2.out, HINV2.out, S4.out⟩
end Go.Proofs.YtabnniabofhihaaDoor
