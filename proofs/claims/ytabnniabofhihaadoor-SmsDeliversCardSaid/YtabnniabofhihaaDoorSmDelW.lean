/- The walk of SmsDelivers. -/
import Derived.Test.YtabnniabofhihaaDoorSmTabs
import Derived.Test.YtabnniabofhihaaDoorSmSays
import Derived.Test.YtabnniabofhihaaDoorSmSplits
namespace Go.Proofs.YtabnniabofhihaaDoor
open Go.RowKit Go.Deep

def kU16 : Knd (List Int) := kSlice (kInt .u16)
theorem cell_nx {w w' : World} {a : Addr} {v : Value} (h : w.cell? a = some v) (u : Upd (fun _ => False) w w') : w'.cell? a = some v := cell_kept h (u.block a.block (World.block_lt_of_cell? _ _ h) id)
theorem ps_at {ps l : List Bs} (h : ps = l) {n : Nat} (hn : n < ps.length) {Q : Bs → Prop} (P : ∀ (hn : n < l.length), Q l[n]) : Q ps[n] := by subst h; exact P hn
theorem upC_self {α : Type} (g : Nat → α) (k : Nat) (x : α) : upC g k x k = x := by unfold upC; rw [if_pos rfl]
/-- Message k. -/
def msgAt (msgs : List Bs) (k : Nat) : Bs := msgs.getD k []
theorem msgAt_get {msgs : List Bs} {k : Nat} (h : k < msgs.length) : msgAt msgs k = msgs[k] := by unfold msgAt; simp [h]
theorem parts_of {k q : Nat} {msg : Bs} (hk : k < 4) (hq : 8 ≤ q ∧ q ≤ 116) (hm : msg.length ≤ 200) {n : Nat} (hn : n < (splitL k msg q).length) :
    partF (splitL k msg q)[n] = some ⟨(k : Int), (n : Nat), (cntF msg.length q : Nat), chunk msg q n⟩ ∧ (splitL k msg q)[n].length ≤ 140 := by
  have hmx := maxMark_eq
  have hc : n < cntF msg.length q := by rw [← splitL_len]; exact hn
  have hg : (splitL k msg q)[n] = partE (k : Int) (n : Nat) (cntF msg.length q : Nat) (chunk msg q n) := by
    have h := splitL_get (id := (k : Int)) (msg := msg) (n := q) (i := n) hc
    rw [List.getElem?_eq_getElem hn] at h
    injection h
  have h1 := split_part (id := (k : Int)) (msg := msg) (n := q) (i := n) ⟨by omega, by omega⟩ hq.1 hq.2 (by omega) hc
  have h2 := split_size (id := (k : Int)) (msg := msg) (n := q) (i := n) ⟨by omega, by omega⟩ hq.1 (by omega) hc
  rw [hg]
  exact ⟨h1, by omega⟩
set_option maxRecDepth 100000 in
set_option maxHeartbeats 4000000 in
theorem deliv_walk (msgs : List Bs) (sz : Int) (v0 v2 : Value) (order : List Int) (w : World) (E : Env w) (hz : 6 ≤ w.heap.size) (h0 : kStrs.rep (· < w.heap.size) w [v0] msgs) (hs : (Lit.int .u8 sz).wf = true) (h2 : kU16.rep (· < w.heap.size) w [v2] order) :
    Calls Tryd.prog 4 #[v0, .int .u8 sz, v2] w fun e w' => e = .returned (.bool true) ∧ Upd (fun _ => False) w w' := by
  have HE := hid E; have HZ := hid hz; have H0 := hid h0; have H2 := hid h2
  obtain ⟨ma, mc, rfl, hm1, hm2, _⟩ := slice_open h0
  obtain ⟨oa, oc, rfl, ho1, ho2, _⟩ := slice_open h2
  have hsb := bounds_u8 hs
  clear E hz h0 h2 hs hm2 ho2 hm1 ho1
  by_cases t1 : FewS msgs 4
  · have HF := hid t1
    clear t1
    by_cases t2 : 150 < order.length
    · have t2i : (150 : Int) < order.length := by omega
      go_enter Tryd.func4, Tryd.ntmps4
      go_wp2_with fail
      refine (small_any w HE.out HZ.out).mono ?_
      rintro e w1 ⟨rfl, u⟩
      have U1 := hid u; clear u
      go_wp2_with fail
      refine (fewS_any _ msgs 4 w1 (kStrs.mono (kStrs.keep H0.out (Same.of_upd U1.out fun _ _ => id)) fun g hg => Nat.lt_of_lt_of_le hg U1.out.size) (by decide)).mono ?_
      rintro e w2 ⟨b, rfl, hb, u⟩
      have U2 := hid (U1.out.trans u)
      obtain rfl : b = true := hb.2 HF.out
      clear u hb
      go_wp2_with fail
      go_ret
      exact ⟨rfl, U2.out⟩
    have t2b : decide (150 < order.length) = false := decide_eq_false t2
    have t2c : decide ((150 : Int) < order.length) = false := decide_eq_false (by omega)
    have HO150 := hid (show order.length ≤ 150 by omega)
    clear t2
    obtain ⟨q, hq⟩ : ∃ q : Nat, (q : Int) = 32 + sz % 109 - 24 := ⟨(32 + sz % 109 - 24).toNat, by omega⟩
    have HQ := hid (show 8 ≤ q ∧ q ≤ 116 by omega)
    have HQN := hid (show (32 + sz % 109 - 24).toNat = q by omega)
    have HSZ := hid (show 32 ≤ 32 + sz % 109 ∧ 32 + sz % 109 ≤ 140 by omega)
    have WS := hid (show (Lit.int .i64 (32 + sz % 109)).wf = true from iwf (by omega))
    have HN4 := hid (show msgs.length ≤ 4 from HF.out.1)
    have HML := hid (show ∀ k, (msgAt msgs k).length ≤ 200 from fun k => by
      by_cases h : k < msgs.length
      · rw [msgAt_get h]; exact HF.out.2 _ (List.getElem_mem h)
      · unfold msgAt; simp [h])
    clear hq
    go_enter Tryd.func4, Tryd.ntmps4
    go_wp2_with fail
    refine (small_any w HE.out HZ.out).mono ?_
    rintro e w1 ⟨rfl, u⟩
    have U1 := hid u; clear u
    go_wp2_with fail
    refine (fewS_any _ msgs 4 w1 (kStrs.mono (kStrs.keep H0.out (Same.of_upd U1.out fun _ _ => id)) fun g hg => Nat.lt_of_lt_of_le hg U1.out.size) (by decide)).mono ?_
    rintro e w2 ⟨b, rfl, hb, u⟩
    have U2 := hid (U1.out.trans u)
    obtain rfl : b = true := hb.2 HF.out
    clear u hb
    go_wp2_with fail
    refine (new_any w2 (Nat.le_trans HZ.out U2.out.size)).mono ?_
    rintro e w3 ⟨rfl, hb, u⟩
    obtain ⟨bb, hbb⟩ : ∃ x, w2.heap.size + 1 = x := ⟨_, rfl⟩
    rw [hbb] at hb ⊢
    have B0 := hid hb; have U3 := hid (U2.out.trans u)
    have HM0 := hid (show w2.heap.size ≤ w3.heap.size from u.size)
    clear hb u hbb
    go_wp2_with fail
    go_loopg [9, 10, 11] msgs.length (fun gg s9 s10 s11 wr => ∃ (i : Nat) (L : List Ent), i ≤ msgs.length ∧ gg = msgs.length - i ∧ s11 = .int .i64 i ∧ L.length = i ∧ (∀ j (h : j < L.length), L[j].ps = splitL j (msgAt msgs j) q) ∧ Tabs w3.heap.size wr s9 s10 L ∧ Upd (fun k => w3.heap.size ≤ k) w3 wr)
    case atStart => exact ⟨0, [], Nat.zero_le _, rfl, rfl, rfl, fun j h => absurd h (Nat.not_lt_zero _), Tabs.start (Nat.le_refl _), Upd.refl _ _⟩
    case round =>
      obtain ⟨i, L, hi, hg, rfl, hL, hps, ht, u⟩ := hrel
      have HG := hid hg; have HLL := hid hL; have HPS := hid hps; have HT := hid ht; have UB := hid u
      have UW := hid (show Upd (fun _ => False) w wr from U3.out.comp u fun j hj h => by have := U3.out.size; omega)
      clear hg hL hps ht u
      by_cases hlt : i < msgs.length
      · have hlti : (i : Int) < msgs.length := by omega
        obtain ⟨pb, po, ra, hpb, hel⟩ := slice_at H0.out (by omega)
        subst ra
        have c0 := cell_kept (str_cells hel hlt) (UW.out.block pb hpb id)
        have HX := hid (msgAt_get hlt)
        have hxl := HML.out i
        rw [HX.out] at hxl
        clear hel
        generalize msgs[i] = x at *
        have HXL := hid hxl
        have HI4 := hid (show i < 4 by have := HN4.out; omega)
        clear hxl
        go_wp2_with fail
        refine (split_any (i : Int) x (32 + sz % 109) wr (HE.out.keep0 UW.out) (iwf (by have := HI4.out; omega)) WS.out (Nat.le_trans HXL.out (by decide))).mono ?_
        intro e w5 hp
        obtain ⟨u, lb, lo, lcap, rfl, hlb, hk1, hk2, hel⟩ := split_ok hp ⟨by omega, by have := HI4.out; unfold maxMark; omega, HSZ.out.1, HSZ.out.2⟩ (Nat.le_trans HXL.out (by decide))
        rw [HQN.out] at hel hk1 ⊢
        have hlen : (splitL (i : Int) x q).length = cntF x.length q := splitL_len _ _ _
        have hcc := cnt_le (len := x.length) (n := q) HQ.out.1 (Nat.le_trans HXL.out (by decide))
        have hcp := cnt_pos x.length q
        obtain ⟨sA', w6, r2, w7, r3, sC', w8, r4, t8, u8⟩ := HT.out.step (by have := HLL.out; have := HI4.out; omega) u (cap := lcap) hlb hel (by rw [hlen]; exact hcc) 34 35
        rw [hlen] at r2 r3 r4
        have T8 := hid t8; have U8 := hid u8
        clear hp u hlb hk1 hk2 hel t8 u8 hlen
        generalize cntF x.length q = cc at *
        have e1 : ((cc : Int) == 0) = false := beq_eq_false_iff_ne.2 (by omega)
        have e2 : (cc == 0) = false := beq_eq_false_iff_ne.2 (by omega)
        have hib : (i : Int) + 1 ≤ 100 := by have := HI4.out; omega
        have HCC := hid (And.intro hcc hcp)
        clear hcc hcp
        go_wp2_with (at_builtin; first | refine wpList_append_run rfl _ _ _ _ rfl rfl rfl r2 ?_ | refine wpList_append_run rfl _ _ _ _ rfl rfl rfl r4 ?_)
        go_roundg (msgs.length - (i + 1))
        case measure => have := HG.out; omega
        case rel =>
          refine ⟨i + 1, _, by omega, rfl, by go_num, ?_, fun j hj => ?_, T8.out, UB.out.trans U8.out⟩
          · rw [List.length_append, HLL.out]; rfl
          · rw [List.length_append, HLL.out, List.length_singleton] at hj
            by_cases hji : j < i
            · rw [List.getElem_append_left (by rw [HLL.out]; exact hji)]
              exact HPS.out j (by rw [HLL.out]; exact hji)
            · obtain rfl : j = i := by omega
              rw [List.getElem_append_right (by rw [HLL.out]; exact Nat.le_refl _)]
              simp [HLL.out, HX.out]
      · obtain rfl : i = msgs.length := by omega
        obtain ⟨wM, rfl⟩ : ∃ x : World, x = wr := ⟨_, rfl⟩
        by_cases hN0 : msgs.length = 0
        · obtain ⟨xa, xc, hxa⟩ : ∃ a c, u9 = .slice a 0 c := by
            rcases ownsRow_fits HT.out.rowA with ⟨h1, _⟩ | ⟨g, c, h1, _⟩
            · exact ⟨_, _, h1⟩
            · exact ⟨_, _, by rw [h1, HLL.out, hN0]⟩
          subst hxa
          clear HLL HPS HT HG hi
          have hN0b : (msgs.length : Int) = 0 := by omega
          go_wp2_with fail
          go_loopg [14] 0 (fun gg s14 wr => s14 = .int .i64 0 ∧ wr = wM)
          case atStart => exact ⟨rfl, rfl⟩
          case round =>
            obtain ⟨rfl, rfl⟩ := hrel
            by_cases ho0 : 0 < order.length
            · have ho0i : (0 : Int) < order.length := by omega
              go_wp2_with fail
              go_loopg [17] 0 (fun gg s17 wr2 => s17 = .int .i64 0 ∧ wr2 = wr)
              case atStart => exact ⟨rfl, rfl⟩
              case round =>
                obtain ⟨rfl, rfl⟩ := hrel
                go_wp2_with fail
                go_ret
                exact ⟨rfl, UW.out⟩
            · have ho0b : decide (0 < order.length) = false := decide_eq_false ho0
              have ho0c : decide ((0 : Int) < order.length) = false := decide_eq_false (by omega)
              go_wp2_with fail
              go_loopg [17] 0 (fun gg s17 wr2 => s17 = .int .i64 0 ∧ wr2 = wr)
              case atStart => exact ⟨rfl, rfl⟩
              case round =>
                obtain ⟨rfl, rfl⟩ := hrel
                go_wp2_with fail
                go_ret
                exact ⟨rfl, UW.out⟩
        have hNn : 0 < msgs.length := by omega
        have hNi : (0 : Int) < msgs.length := by omega
        have hNz : ((msgs.length : Int) == 0) = false := beq_eq_false_iff_ne.2 (by omega)
        have hNz2 : (msgs.length == 0) = false := beq_eq_false_iff_ne.2 (by omega)
        obtain ⟨mb, mo, ra, hmb, helm⟩ := slice_at H0.out hNn
        subst ra
        have HMC := hid (show ∀ W, Upd (fun _ => False) w W → ∀ k (h : k < msgs.length), W.cell? ⟨mb, mo + k, none⟩ = some (.string ⟨(msgAt msgs k).toArray⟩) from fun W hW k h => by
          rw [msgAt_get h]; exact cell_kept (str_cells helm h) (hW.block mb hmb id))
        clear helm
        obtain ⟨ab, ca, xb, cx, ea, ex, F⟩ := HT.out.frz (by rw [HLL.out]; exact hNn)
        rw [HLL.out] at ea ex
        subst ea ex
        obtain ⟨c, hc⟩ : ∃ c : Nat → Nat, c = fun k => cntF (msgAt msgs k).length q := ⟨_, rfl⟩
        obtain ⟨f, hf⟩ : ∃ f : Nat → Nat → Bs, f = fun k => chunk (msgAt msgs k) q := ⟨_, rfl⟩
        have FZ := hid F
        have HPL := hid (show ∀ k (h : k < L.length), L[k].ps.length = c k from fun k h => by rw [HPS.out k h, splitL_len, hc])
        have HCK := hid (show ∀ k, 1 ≤ c k ∧ c k ≤ 2500 from fun k => by rw [hc]; exact ⟨cnt_pos _ _, cnt_le HQ.out.1 (Nat.le_trans (HML.out k) (by decide))⟩)
        have HPP := hid (show ∀ k n (hk : k < L.length) (hn : n < L[k].ps.length), partF L[k].ps[n] = some ⟨(k : Int), (n : Nat), (c k : Nat), f k n⟩ ∧ L[k].ps[n].length ≤ 140 from fun k n hk hn => by
          have hk4 : k < 4 := by have := HN4.out; have := HLL.out; omega
          rw [hc, hf]
          exact ps_at (HPS.out k hk) hn (Q := fun s => partF s = some ⟨(k : Int), (n : Nat), (cntF (msgAt msgs k).length q : Nat), chunk (msgAt msgs k) q n⟩ ∧ s.length ≤ 140) fun hn => parts_of hk4 HQ.out (HML.out k) hn)
        have HAL := hid (show ∀ k, ((List.range (c k)).map (f k)).flatten = msgAt msgs k from fun k => by rw [hc, hf]; exact chunks_all (by have := HQ.out.1; omega))
        have D0 := hid (show Dlv w wM w3.heap.size bb msgs.length c f L [] (fun k => w2.heap.size ≤ k ∧ k < w3.heap.size) (fun k => List.replicate (c k) false) wM from
          ⟨B0.out.upd UB.out (fun k hk h => by omega), BoxSt.start _ _ _, fun k hk => ⟨Nat.le_trans U2.out.size hk.1, .inl hk.2⟩, HT.out.live (fun k hk => by rw [HPL.out k hk]), UW.out⟩)
        have HM := hid (show w.heap.size ≤ w3.heap.size from U3.out.size)
        clear hc hf F HPS HT HG hi hN0 B0 UB HM0
        go_wp2_with fail
        go_loopg [14] order.length (fun gg s14 wr => ∃ (i : Nat) (bx : Bx) (O : Nat → Prop) (cm : Nat → List Bool), i ≤ order.length ∧ gg = order.length - i ∧ s14 = .int .i64 i ∧ Dlv w wM w3.heap.size bb msgs.length c f L bx O cm wr)
        case atStart => exact ⟨0, _, _, _, Nat.zero_le _, rfl, rfl, D0.out⟩
        case round =>
          clear D0 UW
          obtain ⟨i, bx, O, cm, hi, hg, rfl, hd⟩ := hrel
          have HG := hid hg; have D := hid hd
          clear hg hd
          by_cases hlt : i < order.length
          · have hlti : (i : Int) < order.length := by omega
            obtain ⟨pb, po, ra, hpb, hel⟩ := slice_at H2.out (by omega)
            subst ra
            have cO := cell_kept (int_cells hel hlt) (D.out.upd.block pb hpb id)
            have hxb : 0 ≤ order[i] ∧ order[i] ≤ 65535 := by
              obtain ⟨cs, h1, _⟩ := hel.cell hlt
              exact bounds_u16 h1.2
            clear hel
            generalize order[i] = y at *
            obtain ⟨x, rfl⟩ : ∃ x : Nat, y = (x : Int) := ⟨y.toNat, by omega⟩
            obtain ⟨k, hk⟩ : ∃ k, x % msgs.length = k := ⟨_, rfl⟩
            have hkN : k < msgs.length := by rw [← hk]; exact Nat.mod_lt _ hNn
            have hkL : k < L.length := by rw [HLL.out]; exact hkN
            have hr1 : (x : Int) % (msgs.length : Int) = k := by rw [← hk]; exact (Int.natCast_emod x msgs.length).symm
            have hr2 : (x : Int).tmod msgs.length = k := by rw [Int.tmod_eq_emod_of_nonneg hxb.1]; exact hr1
            obtain ⟨z, hz⟩ : ∃ z, x / 4 = z := ⟨_, rfl⟩
            have hz1 : (x : Int) / 4 = z := by omega
            have hz2 : (x : Int).tdiv 4 = z := by rw [Int.tdiv_eq_ediv_of_nonneg hxb.1]; exact hz1
            obtain ⟨ck, hck⟩ : ∃ ck, c k = ck := ⟨_, rfl⟩
            have hckb := HCK.out k
            rw [hck] at hckb
            obtain ⟨n, hn⟩ : ∃ n, z % ck = n := ⟨_, rfl⟩
            have hnc : n < ck := by rw [← hn]; exact Nat.mod_lt _ (by omega)
            have hn1 : (z : Int) % (ck : Int) = n := by rw [← hn]; exact (Int.natCast_emod z ck).symm
            have hn2 : (z : Int).tmod ck = n := by rw [Int.tmod_eq_emod_of_nonneg (by omega)]; exact hn1
            have hcz : ((ck : Int) == 0) = false := beq_eq_false_iff_ne.2 (by omega)
            have hcz2 : (ck == 0) = false := beq_eq_false_iff_ne.2 (by omega)
            have hnci : (n : Int) < ck := by omega
            have hkNi : (k : Int) < msgs.length := by omega
            have hpl := HPL.out k hkL
            rw [hck] at hpl
            have hnp : n < L[k].ps.length := by rw [hpl]; exact hnc
            have cA : wr.cell? ⟨ab, k, none⟩ = some (.slice (some ⟨L[k].lb, L[k].lo, none⟩) L[k].ps.length L[k].cap) := D.out.live.cell FZ.out.hab (FZ.out.ca k hkL)
            have cXM : wM.cell? ⟨xb, k, none⟩ = some (.slice (some ⟨L[k].cb, 0, none⟩) L[k].ps.length L[k].ps.length) := FZ.out.cx k hkL
            have cS := D.out.live.cell (FZ.out.str k hkL).1 (str_cells (FZ.out.str k hkL).2 hnp)
            have hpp := HPP.out k n hkL hnp
            obtain ⟨s, hs⟩ : ∃ s, L[k].ps[n] = s := ⟨_, rfl⟩
            obtain ⟨lb, hlb⟩ : ∃ v, L[k].lb = v := ⟨_, rfl⟩
            obtain ⟨lo, hlo⟩ : ∃ v, L[k].lo = v := ⟨_, rfl⟩
            obtain ⟨lcap, hlcap⟩ : ∃ v, L[k].cap = v := ⟨_, rfl⟩
            obtain ⟨cb, hcb⟩ : ∃ v, L[k].cb = v := ⟨_, rfl⟩
            rw [hpl, hlb, hlo, hlcap] at cA
            rw [hpl, hcb] at cXM
            rw [hs, hlb, hlo] at cS
            rw [hs] at hpp
            have PP := hid hpp.1; have PL := hid hpp.2; have HCB := hid hcb; have HCKE := hid hck; have HCKB := hid hckb; have CXM := hid cXM
            have PPc := hid (show partF s = some ⟨(k : Int), (n : Nat), (c k : Nat), f k n⟩ from hpp.1)
            have HCL := hid (show (cm k).length = ck by rw [D.out.st.len k hkN]; exact hck)
            have HT1 := hid (D.out.st.take D.out.box.ok HN4.out hkN (by rw [hck]; exact hnc) hpp.1).1
            have cX : wr.cell? ⟨xb, k, none⟩ = some (.slice (some ⟨cb, 0, none⟩) ck ck) := D.out.live.cell FZ.out.hxb cXM
            have HNC := hid hnc; have HKN := hid hkN; have HKL := hid hkL
            clear hpp hs hlb hlo hlcap hcb hck hckb hpl hnp cXM hk hz hn
            go_wp2_with fail
            go_quiet (fail)
            go_wp2_with fail
            have DQ := hid (D.out.keep FZ.out (Upd.drewN (Upd.refl _ wr) nq))
            refine (take_any bb O bx s _ (HE.out.keep0 DQ.out.upd) DQ.out.box (Nat.le_trans PL.out (by decide))).mono ?_
            rintro e w5 ⟨rfl, O', hb', ho, u5⟩
            rw [HT1.out]
            have L5 := DQ.out.live5 FZ.out u5
            have cX5 : w5.cell? ⟨xb, k, none⟩ = some (.slice (some ⟨cb, 0, none⟩) ck ck) := L5.cell FZ.out.hxb CXM.out
            have BK := L5.bls k HKL.out
            rw [HCB.out] at BK
            have cB := BK.cell (k := n) (by rw [HCL.out]; exact HNC.out)
            have fB := BK.frozen n
            have D6 := hid (DQ.out.take FZ.out HM.out HN4.out HLL.out HKL.out (by rw [HCKE.out]; exact HNC.out) PPc.out hb' ho u5 HCB.out)
            obtain ⟨bo, hbo⟩ : ∃ v, (cm k)[n]'(by rw [HCL.out]; exact HNC.out) = v := ⟨_, rfl⟩
            rw [hbo] at cB
            clear hb' ho u5 BK L5 hbo cX cS cA cO
            go_wp2_with fail
            obtain ⟨w6, hw6⟩ : ∃ v, w5.setCell ⟨cb, n, none⟩ (.bool true) = v := ⟨_, rfl⟩
            rw [hw6] at D6 ⊢
            clear hw6 cB fB cX5
            have cM := HMC.out w6 D6.out.upd k HKN.out
            have cX6 : w6.cell? ⟨xb, k, none⟩ = some (.slice (some ⟨cb, 0, none⟩) ck ck) := D6.out.live.cell FZ.out.hxb CXM.out
            have hbk := D6.out.live.bls k HKL.out
            rw [HCB.out, upC_self] at hbk
            have hsd := D6.out.st.said D6.out.box.ok HKN.out (HAL.out k)
            rw [upC_self] at hsd
            obtain ⟨bl, hbl⟩ : ∃ v, (cm k).set n true = v := ⟨_, rfl⟩
            have hblen : bl.length = ck := by rw [← hbl, List.length_set]; exact HCL.out
            rw [hbl] at hbk hsd
            have hrp := BlsBlk.rep (A := (· < w6.heap.size)) hbk (by rw [hblen]; have := HCKB.out; unfold maxLen; omega) hbk.lt
            rw [hblen] at hrp
            have RP := hid (show kBls.rep (· < w6.drew.heap.size) w6.drew [.slice (some ⟨cb, 0, none⟩) ck ck] bl from kBls.keep hrp fun _ _ _ => rfl)
            have SD := hid hsd
            have BLN := hid (show bl.length ≤ 2500 by rw [hblen]; exact HCKB.out.2)
            obtain ⟨mk, hmk⟩ : ∃ v, msgAt msgs k = v := ⟨_, rfl⟩
            rw [hmk] at cM SD
            have BX := hid (D6.out.box.keep (Upd.drew (Upd.refl (fun _ => False) w6)))
            have KI := hid (show (Lit.int .i64 (k : Int)).wf = true from iwf (by have := HKN.out; have := HN4.out; omega))
            have hib : (i : Int) + 1 ≤ 1000 := by have := HO150.out; omega
            clear hbk hsd hrp hblen hbl hmk
            go_region_held3 (fun w' => w'.cell? ⟨mb, mo + k, none⟩ = some (.string ⟨mk.toArray⟩) ∧ w'.cell? ⟨xb, k, none⟩ = some (.slice (some ⟨cb, 0, none⟩) ck ck)) (first | go_keep | exact ⟨cell_nx (w := w6.drew) cM HU.out, cell_nx (w := w6.drew) cX6 HU.out⟩)
              ((go_at_call 13; refine (says_any bb O' _ (k : Int) mk _ bl _ BX.out KI.out RP.out BLN.out SD.out).mono ?_; rintro e w7 ⟨rfl, hu⟩; have HU := hid hu; clear hu))
            all_goals
              go_wp2_with fail
              go_roundg (order.length - (i + 1))
              case measure => have := HG.out; omega
              case rel => exact ⟨i + 1, _, _, _, by omega, rfl, by go_num, D6.out.keep FZ.out ((Upd.drew (Upd.refl _ _)).trans HU.out)⟩
          · obtain rfl : i = order.length := by omega
            obtain ⟨wE, rfl⟩ : ∃ x : World, x = wr := ⟨_, rfl⟩
            clear HG hi
            go_wp2_with fail
            go_loopg [17] msgs.length (fun gg s17 wr => ∃ k : Nat, k ≤ msgs.length ∧ gg = msgs.length - k ∧ s17 = .int .i64 k ∧ Upd (fun _ => False) wE wr)
            case atStart => exact ⟨0, Nat.zero_le _, rfl, rfl, Upd.refl _ _⟩
            case round =>
              obtain ⟨k, hk, hg, rfl, u⟩ := hrel
              have HG := hid hg
              have D6 := hid (D.out.keep FZ.out u)
              have UE := hid u
              clear hg u
              by_cases hkN : k < msgs.length
              · have hkNi : (k : Int) < msgs.length := by omega
                have hkL : k < L.length := by rw [HLL.out]; exact hkN
                have hpl := HPL.out k hkL
                obtain ⟨ck, hck⟩ : ∃ ck, c k = ck := ⟨_, rfl⟩
                have hckb := HCK.out k
                rw [hck] at hckb hpl
                have cXM : wM.cell? ⟨xb, k, none⟩ = some (.slice (some ⟨L[k].cb, 0, none⟩) L[k].ps.length L[k].ps.length) := FZ.out.cx k hkL
                obtain ⟨cb, hcb⟩ : ∃ v, L[k].cb = v := ⟨_, rfl⟩
                rw [hpl, hcb] at cXM
                have cM := HMC.out wr D6.out.upd k hkN
                have cX6 : wr.cell? ⟨xb, k, none⟩ = some (.slice (some ⟨cb, 0, none⟩) ck ck) := D6.out.live.cell FZ.out.hxb cXM
                have hbk := D6.out.live.bls k hkL
                rw [hcb] at hbk
                have hsd := D6.out.st.said D6.out.box.ok hkN (HAL.out k)
                have hblen : (cm k).length = ck := by rw [D.out.st.len k hkN]; exact hck
                obtain ⟨bl, hbl⟩ : ∃ v, cm k = v := ⟨_, rfl⟩
                rw [hbl] at hbk hsd hblen
                have hrp := BlsBlk.rep (A := (· < wr.heap.size)) hbk (by rw [hblen]; unfold maxLen; omega) hbk.lt
                rw [hblen] at hrp
                have RP := hid (show kBls.rep (· < wr.drew.heap.size) wr.drew [.slice (some ⟨cb, 0, none⟩) ck ck] bl from kBls.keep hrp fun _ _ _ => rfl)
                have SD := hid hsd
                have BLN := hid (show bl.length ≤ 2500 by rw [hblen]; exact hckb.2)
                obtain ⟨mk, hmk⟩ : ∃ v, msgAt msgs k = v := ⟨_, rfl⟩
                rw [hmk] at cM SD
                have BX := hid (D6.out.box.keep (Upd.drew (Upd.refl (fun _ => False) wr)))
                have KI := hid (show (Lit.int .i64 (k : Int)).wf = true from iwf (by have := HN4.out; omega))
                have hkb : (k : Int) + 1 ≤ 100 := by have := HN4.out; omega
                clear hbk hsd hrp hblen hbl hmk hckb hck hpl hcb cXM
                go_wp2_with fail
                go_region_held3 (fun w' => w'.cell? ⟨mb, mo + k, none⟩ = some (.string ⟨mk.toArray⟩) ∧ w'.cell? ⟨xb, k, none⟩ = some (.slice (some ⟨cb, 0, none⟩) ck ck)) (first | go_keep | exact ⟨cell_nx (w := wr.drew) cM HU.out, cell_nx (w := wr.drew) cX6 HU.out⟩)
                  ((go_at_call 13; refine (says_any bb _ _ (k : Int) mk _ bl _ BX.out KI.out RP.out BLN.out SD.out).mono ?_; rintro e w7 ⟨rfl, hu⟩; have HU := hid hu; clear hu))
                all_goals
                  go_wp2_with fail
                  go_roundg (msgs.length - (k + 1))
                  case measure => have := HG.out; omega
                  case rel => exact ⟨k + 1, by omega, rfl, by go_num, UE.out.trans ((Upd.drew (Upd.refl _ _)).trans HU.out)⟩
              · obtain rfl : k = msgs.length := by omega
                go_wp2_with fail
                go_ret
                exact ⟨rfl, D6.out.upd⟩
  · have HF := hid t1
    clear t1
    go_enter Tryd.func4, Tryd.ntmps4
    go_wp2_with fail
    refine (small_any w HE.out HZ.out).mono ?_
    rintro e w1 ⟨rfl, u⟩
    have U1 := hid u; clear u
    go_wp2_with fail
    refine (fewS_any _ msgs 4 w1 (kStrs.mono (kStrs.keep H0.out (Same.of_upd U1.out fun _ _ => id)) fun g hg => Nat.lt_of_lt_of_le hg U1.out.size) (by decide)).mono ?_
    rintro e w2 ⟨b, rfl, hb, u⟩
    have U2 := hid (U1.out.trans u)
    obtain rfl : b = false := by
      cases b
      · rfl
      · exact absurd (hb.1 rfl) HF.out
    clear u hb
    go_wp2_with fail
    go_ret
    exact ⟨rfl, U2.out⟩
end Go.Proofs.YtabnniabofhihaaDoor
