/- Walk of the reference of games: Check. -/
import Derived.Test.YtmjjfafkmfcpnaaGmR1
namespace Go.Proofs.Ytmjjfafkmfcpnaa
open Go.RowKit Go.Deep

theorem chk_bad {l : List Nd} {V C : List Int} {w W : World} (hr : right l = true) (hn : ¬ Holds l V C) (u : Upd (fun _ => False) w W) : CheckPost l V C w (.returned (.int .i64 21)) W :=
  ⟨21, rfl, fun h => (by rw [hr] at h; cases h), fun _ => ⟨.inr rfl, fun h => absurd h (by decide), fun h => absurd h hn⟩, u⟩
theorem chk_ok {l : List Nd} {V C : List Int} {w W : World} (hr : right l = true) (hn : Holds l V C) (u : Upd (fun _ => False) w W) : CheckPost l V C w (.returned (.int .i64 0)) W :=
  ⟨0, rfl, fun h => (by rw [hr] at h; cases h), fun _ => ⟨.inl rfl, fun _ => hn, fun _ => rfl⟩, u⟩
def UptoHold (l : List Nd) (V C : List Int) (k : Nat) : Prop := ∀ i nd, i < k → l[i]? = some nd → holdsAt nd (geti V i) (geti C i) V
def Bounded (V : List Int) (k : Nat) : Prop := ∀ i, i < k → -4503599627370496 ≤ geti V i ∧ geti V i ≤ 4503599627370496
theorem UptoHold.succ {l : List Nd} {V C : List Int} {k : Nat} {nd : Nd} (h : UptoHold l V C k) (hn : l[k]? = some nd) (hh : holdsAt nd (geti V k) (geti C k) V) : UptoHold l V C (k + 1) := fun i nd' hi h' => by
  by_cases e : i = k
  · subst e; rw [hn] at h'; injection h' with h'; subst h'; exact hh
  · exact h i nd' (by omega) h'
theorem Bounded.succ {V : List Int} {k : Nat} {x : Int} (h : Bounded V k) (hx : geti V k = x) (hb : -4503599627370496 ≤ x ∧ x ≤ 4503599627370496) : Bounded V (k + 1) := fun i hi => by
  by_cases e : i = k
  · subst e; rw [hx]; exact hb
  · exact h i (by omega)
theorem not_holds_at {l : List Nd} {V C : List Int} {i : Nat} {nd : Nd} {x y : Int} (hi : l[i]? = some nd) (hx : geti V i = x) (hy : geti C i = y) (h : ¬ holdsAt nd x y V) : ¬ Holds l V C := fun hh => h (by have := hh.2.2 i nd hi; rwa [hx, hy] at this)
/-- What remains to be checked at a node: some of its moves. -/
def Rest (nd : Nd) (x y : Int) (V : List Int) (ms : List Mv) : Prop := (holdsAt nd x y V ↔ ∀ m ∈ ms, m.gain + geti V m.to.toNat ≤ x) ∧ ∀ m ∈ ms, m ∈ nd.moves
theorem one_slice {A : Nat → Prop} {w : World} {b o cap k : Nat} {l : List Mv} (h : Elems kMv A w b o l) (hk : k < l.length) (hc : 1 ≤ cap) (hm : cap ≤ maxLen) (hA : A b) : (kSlice kMv).rep A w [.slice (some ⟨b, o + k * 2, none⟩) 1 cap] [l[k]] := by
  refine .inr ⟨b, o + k * 2, cap, rfl, hc, hm, hA, fun i hi => ?_⟩
  obtain rfl : i = 0 := by simpa using hi
  obtain ⟨cs, h1, h2⟩ := h k hk
  refine ⟨cs, h1, ?_⟩
  rw [Nat.zero_mul, Nat.add_zero]
  exact h2
/-- The moves that are looked at. -/
def LCut (w : World) (nd : Nd) (x y : Int) (V : List Int) (s : Value) : Prop := ∃ a c ms, s = .slice a ms.length c ∧ ms.length ≤ 8 ∧ (kSlice kMv).rep (· < w.heap.size) w [.slice a ms.length c] ms ∧ Rest nd x y V ms

set_option maxRecDepth 100000 in
set_option maxHeartbeats 4000000 in
theorem refCheck_any (v vs cs : Value) (l : List Nd) (V C : List Int) (w : World) (hl : (kSlice kNd).rep (· < w.heap.size) w [v] l) (h1 : kInts.rep (· < w.heap.size) w [vs] V) (h2 : kInts.rep (· < w.heap.size) w [cs] C) :
    Calls Try.prog 22 #[v, .agg #[vs, cs]] w (CheckPost l V C w) := by
  obtain ⟨a0, cap0, rfl, p1, p2, p3⟩ := slice_open hl
  obtain ⟨a1, cap1, rfl, q1, q2, q3⟩ := slice_open h1
  obtain ⟨a2, cap2, rfl, r1, r2, r3⟩ := slice_open h2
  have p2 : cap0 ≤ 9223372036854775807 := p2
  have q2 : cap1 ≤ 9223372036854775807 := q2
  have r2 : cap2 ≤ 9223372036854775807 := r2
  have u0 := (Upd.refl (fun _ => False) w).alloc (.cells #[.slice a1 V.length cap1, .slice a2 C.length cap2] 25 (0, 0))
  have hb0 : (w.alloc (.cells #[.slice a1 V.length cap1, .slice a2 C.length cap2] 25 (0, 0))).heap[w.heap.size]? = some (.cells #[.slice a1 V.length cap1, .slice a2 C.length cap2] 25 (0, 0)) := heap_alloc_new
  have HL := hid (keep_nds hl u0); have HV := hid (keep_ints h1 u0); have HC := hid (keep_ints h2 u0)
  have U0 := hid u0; have HB := hid hb0
  clear hl h1 h2 u0 hb0 p3 q3 r3
  cases hr : right l
  · have HR := hid hr; clear hr
    go_enter Try.func22, Try.ntmps22
    go_wp2_with fail
    refine (refRight_any _ l _ HL.out).mono ?_
    rintro e wr ⟨rfl, rfl⟩
    rw [HR.out]
    go_wp2_with fail
    go_ret
    exact ⟨1, rfl, fun _ => rfl, fun h => (by rw [HR.out] at h; cases h), U0.out⟩
  have HR := hid hr; clear hr
  have HP := hid ((right_iff l).1 HR.out)
  by_cases c1 : V.length = l.length
  rotate_left
  · have c1b : ((V.length : Int) != l.length) = true := by rw [bne_iff_ne]; omega
    have c1c : (V.length != l.length) = true := by rw [bne_iff_ne]; omega
    have hbad : ¬ Holds l V C := fun h => c1 h.1
    have BAD := hid hbad
    clear hbad
    clear c1
    go_enter Try.func22, Try.ntmps22
    go_wp2_with fail
    refine (refRight_any _ l _ HL.out).mono ?_
    rintro e wr ⟨rfl, rfl⟩
    rw [HR.out]
    go_wp2_with fail
    go_ret
    exact chk_bad HR.out BAD.out U0.out
  by_cases c2 : C.length = l.length
  rotate_left
  · have c1b : ((V.length : Int) != l.length) = false := by rw [c1]; simp
    have c1c : (V.length != l.length) = false := by rw [c1]; simp
    have c2b : ((C.length : Int) != l.length) = true := by rw [bne_iff_ne]; omega
    have c2c : (C.length != l.length) = true := by rw [bne_iff_ne]; omega
    have hbad : ¬ Holds l V C := fun h => c2 h.2.1
    have BAD := hid hbad
    clear hbad
    clear c1 c2
    go_enter Try.func22, Try.ntmps22
    go_wp2_with fail
    refine (refRight_any _ l _ HL.out).mono ?_
    rintro e wr ⟨rfl, rfl⟩
    rw [HR.out]
    go_wp2_with fail
    go_ret
    exact chk_bad HR.out BAD.out U0.out
  have c1b : ((V.length : Int) != l.length) = false := by rw [c1]; simp
  have c1c : (V.length != l.length) = false := by rw [c1]; simp
  have c2b : ((C.length : Int) != l.length) = false := by rw [c2]; simp
  have c2c : (C.length != l.length) = false := by rw [c2]; simp
  have C1 := hid c1; have C2 := hid c2
  have hn1 : (l.length : Int) ≤ 3000 := by have := HP.out.few; omega
  have hn0 : (1 : Int) ≤ l.length := by have := HP.out.pos; omega
  have hln := hid (show l.length = l.length from rfl)
  clear c1 c2
  go_enter Try.func22, Try.ntmps22
  go_wp2_with fail
  refine (refRight_any _ l _ HL.out).mono ?_
  rintro e wr ⟨rfl, rfl⟩
  rw [HR.out]
  generalize hwn : w.alloc (.cells #[.slice a1 V.length cap1, .slice a2 C.length cap2] 25 (0, 0)) = wn at *
  clear hwn
  obtain ⟨k0, k1, _⟩ := cells2 HB.out
  go_wp2_with fail
  clear c1b c1c c2b c2c
  go_loopg [5] l.length (fun gg s wr => ∃ k : Nat, k ≤ l.length ∧ gg = l.length - k ∧ s = .int .i64 k ∧ Bounded V k ∧ wn = wr)
  case atStart => exact ⟨0, Nat.zero_le _, rfl, rfl, fun i hi => by omega, rfl⟩
  case round =>
    obtain ⟨k, hk, hg, rfl, hbd, rfl⟩ := hrel
    have HG := hid hg; have BD := hid hbd
    clear hg hbd
    by_cases hlt : k < l.length
    · have hlti : (k : Int) < l.length := by omega
      obtain ⟨b1, o1, rfl, hb1, hel1⟩ := slice_at HV.out (by rw [C1.out]; omega)
      have hilV : k < V.length := by rw [C1.out]; exact hlt
      have hilVi : (k : Int) < V.length := by omega
      have n0 := int_cells hel1 hilV
      rw [geti_at' hilV] at n0
      have hnd := List.getElem?_eq_getElem hlt
      have HND := hid hnd
      clear hel1 hnd
      generalize l[k] = nd at *
      generalize hx : geti V k = x at *
      have XX := hid hx
      clear hx
      by_cases q0 : x < -4503599627370496
      · have hbad : ¬ Holds l V C := not_holds_at HND.out XX.out rfl fun h => by have := h.1.1; rw [show maxSum = 4503599627370496 from rfl] at this; omega
        have BAD := hid hbad
        clear hbad
        go_wp2_with fail
        go_ret
        exact chk_bad HR.out BAD.out U0.out
      by_cases q1 : 4503599627370496 < x
      · have hbad : ¬ Holds l V C := not_holds_at HND.out XX.out rfl fun h => by have := h.1.2; rw [show maxSum = 4503599627370496 from rfl] at this; omega
        have BAD := hid hbad
        clear hbad
        go_wp2_with fail
        go_ret
        exact chk_bad HR.out BAD.out U0.out
      have BD2 := hid (BD.out.succ XX.out (by omega))
      go_wp2_with fail
      go_roundg (l.length - (k + 1))
      case measure => have := HG.out; omega
      case rel => exact ⟨k + 1, by omega, rfl, by go_num, BD2.out, rfl⟩
    · obtain rfl : k = l.length := by omega
      clear HG hk hlt
      go_wp2_with fail
      clear k0 k1
      go_loopg [6] l.length (fun gg s wr => ∃ k : Nat, k ≤ l.length ∧ gg = l.length - k ∧ s = .int .i64 k ∧ UptoHold l V C k ∧ Upd (fun _ => False) wn wr)
      case atStart => exact ⟨0, Nat.zero_le _, rfl, rfl, fun i nd hi => by omega, Upd.refl _ _⟩
      case round =>
        obtain ⟨i, hi, hg, rfl, hh, u⟩ := hrel
        have HG := hid hg; have HH := hid hh; have UU := hid u
        clear hg hh u
        by_cases hlt : i < l.length
        · have hlti : (i : Int) < l.length := by omega
          obtain ⟨b0, o0, rfl, hb0, hel⟩ := slice_at HL.out (by omega)
          obtain ⟨b1, o1, rfl, hb1, hel1⟩ := slice_at HV.out (by rw [C1.out]; omega)
          obtain ⟨b2, o2, rfl, hb2, hel2⟩ := slice_at HC.out (by rw [C2.out]; omega)
          have hilV : i < V.length := by rw [C1.out]; exact hlt
          have hilC : i < C.length := by rw [C2.out]; exact hlt
          have hilVi : (i : Int) < V.length := by omega
          have hilCi : (i : Int) < C.length := by omega
          obtain ⟨v', m0, m1, hv⟩ := nd_cells hel hlt
          obtain ⟨a', cap', rfl, g1, g2, _⟩ := slice_open hv
          have g2 : cap' ≤ 9223372036854775807 := g2
          have n0 := int_cells hel1 hilV
          have n1 := int_cells hel2 hilC
          rw [geti_at' hilV] at n0
          rw [geti_at' hilC] at n1
          have m0 := cell_nx m0 UU.out
          have m1 := cell_nx m1 UU.out
          have n0 := cell_nx n0 UU.out
          have n1 := cell_nx n1 UU.out
          have hbv := BD.out i hlt
          obtain ⟨d0, d1, _⟩ := cells2 ((UU.out.block _ (heap_lt HB.out) id).trans HB.out)
          have hnd := List.getElem?_eq_getElem hlt
          have hmv : ∀ m ∈ l[i].moves, 0 ≤ m.to ∧ m.to < V.length ∧ (-1099511627776 ≤ m.gain ∧ m.gain ≤ 1099511627776) ∧ -4503599627370496 ≤ geti V m.to.toNat ∧ geti V m.to.toNat ≤ 4503599627370496 := fun m hm => by
            obtain ⟨t1, t2, t3, t4⟩ := HP.out.mv i l[i] m hnd hm
            have hM : maxGain = 1099511627776 := rfl
            have := BD.out m.to.toNat (by omega)
            have hc := C1.out
            omega
          have h8 := HP.out.len i l[i] hnd
          have rm : (kSlice kMv).rep (· < wr.heap.size) wr [.slice a' l[i].moves.length cap'] l[i].moves :=
            (kSlice kMv).mono ((kSlice kMv).keep hv (Same.of_upd UU.out fun _ _ => id)) fun x hx => Nat.lt_of_lt_of_le hx UU.out.size
          have HND := hid hnd; have HMV := hid hmv; have RM := hid rm
          have h8i : (l[i].moves.length : Int) ≤ 8 := by omega
          clear hel hel1 hel2 hv hnd hmv rm
          generalize l[i] = nd at *
          generalize hx : geti V i = x at *
          generalize hy : geti C i = y at *
          have XX := hid hx; have YY := hid hy
          have hS := hid (show -maxSum ≤ x ∧ x ≤ maxSum by rw [show maxSum = 4503599627370496 from rfl]; exact hbv)
          obtain ⟨mi, mvs⟩ := nd
          dsimp only at *
          have H8 := hid h8
          clear hx hy h8
          by_cases hz : mvs.length = 0
          · obtain rfl : mvs = [] := List.length_eq_zero_iff.1 hz
            by_cases q0 : x < 0
            · have hbad : ¬ Holds l V C := not_holds_at HND.out XX.out YY.out fun h => by have := (h.2.1 rfl).1; omega
              have BAD := hid hbad
              clear hbad hz
              go_wp2_with fail
              go_ret
              exact chk_bad HR.out BAD.out (U0.out.trans UU.out)
            by_cases q1 : y = -1
            rotate_left
            · have q1b : (y != -1) = true := by rw [bne_iff_ne]; exact q1
              have hbad : ¬ Holds l V C := not_holds_at HND.out XX.out YY.out fun h => q1 (h.2.1 rfl).2
              have BAD := hid hbad
              clear hbad hz q1
              go_wp2_with fail
              go_ret
              exact chk_bad HR.out BAD.out (U0.out.trans UU.out)
            have q1b : (y != -1) = false := by rw [q1]; rfl
            have lc : LCut wr ⟨mi, []⟩ x y V (.slice a' 0 cap') := ⟨_, _, [], rfl, H8.out, RM.out, ⟨fun _ m hm => (by cases hm), fun _ => ⟨hS.out, fun _ => ⟨by omega, q1⟩, fun h => absurd rfl h, fun h => absurd rfl h⟩⟩, fun m hm => hm⟩
            have LC := hid lc
            clear lc q1 hz
            go_upto_if 106 with (fail)
            go_cut [7] (fun s wx => LCut wr ⟨mi, []⟩ x y V s ∧ wr = wx)
            case first =>
              go_wp2_with fail
              go_meet
              case rel => exact ⟨LC.out, rfl⟩
            case rest =>
              obtain ⟨⟨am, cm, ms, rfl, hm8, rms, hrs⟩, hwc⟩ := hcut
              subst hwc
              have RMS := hid rms; have RS := hid hrs
              obtain ⟨_, _, _, z1, z2, _⟩ := slice_open rms
              have hm8i : (ms.length : Int) ≤ 8 := by omega
              clear rms hrs
              go_wp2_with fail
              clear m0 m1 n0 n1
              go_loopg [10] ms.length (fun gg s wx => ∃ j : Nat, j ≤ ms.length ∧ gg = ms.length - j ∧ s = .int .i64 j ∧ (∀ j' m, j' < j → ms[j']? = some m → m.gain + geti V m.to.toNat ≤ x) ∧ Upd (fun _ => False) wr wx)
              case atStart => exact ⟨0, Nat.zero_le _, rfl, rfl, fun j' m h => by omega, Upd.refl _ _⟩
              case round =>
                obtain ⟨j, hj, hgj, rfl, hall, uj⟩ := hrel
                have HGJ := hid hgj; have ALL := hid hall; have UJ := hid uj
                clear hgj hall uj d0 d1
                by_cases hjl : j < ms.length
                · have hji : (j : Int) < ms.length := by omega
                  obtain ⟨b3, o3, rfl, hb3, hel3⟩ := slice_at RMS.out (by omega)
                  obtain ⟨c0, c1⟩ := mv_cells hel3 hjl
                  have c0 := cell_nx c0 UJ.out
                  have c1 := cell_nx c1 UJ.out
                  obtain ⟨t0, t1, t2, t3⟩ := HMV.out _ (RS.out.2 ms[j] (List.getElem_mem hjl))
                  have hmj := List.getElem?_eq_getElem hjl
                  have HMJ := hid hmj
                  obtain ⟨d0, d1, _⟩ := cells2 (((UU.out.trans UJ.out).block _ (heap_lt HB.out) id).trans HB.out)
                  clear hel3 hmj
                  generalize ms[j] = mk at *
                  obtain ⟨mto, gain⟩ := mk
                  dsimp only at *
                  obtain ⟨t, rfl⟩ := Int.eq_ofNat_of_zero_le t0
                  rw [Int.toNat_natCast] at t3
                  have htl : t < V.length := by omega
                  have hti : (t : Int) < V.length := t1
                  obtain ⟨b4, o4, e4, hb4, hel4⟩ := slice_at HV.out (by omega)
                  injection e4 with e4
                  injection e4 with e4 e5 _
                  subst e4 e5
                  have cv := int_cells hel4 htl
                  rw [geti_at' htl] at cv
                  have cv := cell_nx cv (UU.out.trans UJ.out)
                  clear hel4
                  generalize hy : geti V t = y2 at *
                  have YT := hid hy
                  clear hy
                  by_cases hc : x < gain + y2
                  · have hbad : ¬ Holds l V C := not_holds_at HND.out XX.out YY.out fun h => by
                      have h2 := RS.out.1.1 h _ (List.mem_of_getElem? HMJ.out)
                      dsimp only at h2
                      rw [Int.toNat_natCast, YT.out] at h2
                      omega
                    have BAD := hid hbad
                    clear hbad
                    go_wp2_with fail
                    go_quiet (fail)
                    go_wp2_with fail
                    go_ret
                    exact chk_bad HR.out BAD.out (U0.out.trans ((UU.out.trans UJ.out).drewN _))
                  · have hall : ∀ j' m, j' < j + 1 → ms[j']? = some m → m.gain + geti V m.to.toNat ≤ x := fun j' m h1 h2 => by
                      by_cases e : j' = j
                      · subst e
                        rw [HMJ.out] at h2; injection h2 with h2; subst h2
                        dsimp only
                        rw [Int.toNat_natCast, YT.out]; omega
                      · exact ALL.out j' m (by omega) h2
                    have ALL2 := hid hall
                    clear hall
                    go_wp2_with fail
                    go_quiet (fail)
                    go_wp2_with fail
                    go_roundg (ms.length - (j + 1))
                    case measure => have := HGJ.out; omega
                    case rel => exact ⟨j + 1, by omega, rfl, by go_num, ALL2.out, UJ.out.drewN _⟩
                · obtain rfl : j = ms.length := by omega
                  have hok : holdsAt ⟨mi, []⟩ (geti V i) (geti C i) V := by
                    rw [XX.out, YY.out]
                    refine RS.out.1.2 fun m hm => ?_
                    obtain ⟨j', hj', e⟩ := List.mem_iff_getElem.1 hm
                    exact ALL.out j' m hj' (by rw [← e]; exact List.getElem?_eq_getElem hj')
                  have HOK := hid (HH.out.succ HND.out hok)
                  clear hok
                  go_wp2_with fail
                  go_roundg (l.length - (i + 1))
                  case measure => have := HG.out; omega
                  case rel => exact ⟨i + 1, by omega, rfl, by go_num, HOK.out, UU.out.trans UJ.out⟩
          · have hnn : mvs ≠ [] := fun h => hz (by rw [h]; rfl)
            have hzb : ((mvs.length : Int) == 0) = false := beq_eq_false_iff_ne.2 (by omega)
            have hzd : decide (0 < (mvs.length : Int)) = true := decide_eq_true (by omega)
            have hzn : decide (0 < mvs.length) = true := decide_eq_true (by omega)
            cases mi
            · by_cases q0 : y < 0
              · have hbad : ¬ Holds l V C := not_holds_at HND.out XX.out YY.out fun h => by have := (h.2.2.1 hnn rfl).1; omega
                have BAD := hid hbad
                clear hbad hnn hz
                go_wp2_with fail
                go_ret
                exact chk_bad HR.out BAD.out (U0.out.trans UU.out)
              obtain ⟨k, rfl⟩ := Int.eq_ofNat_of_zero_le (show 0 ≤ y by omega)
              by_cases q1 : k < mvs.length
              rotate_left
              · have q1i : (mvs.length : Int) ≤ k := by omega
                have q1d : decide ((mvs.length : Int) ≤ k) = true := decide_eq_true q1i
                have q1n : decide (mvs.length ≤ k) = true := decide_eq_true (by omega)
                have hbad : ¬ Holds l V C := not_holds_at HND.out XX.out YY.out fun h => by have := (h.2.2.1 hnn rfl).2.1; dsimp only at this; omega
                have BAD := hid hbad
                clear hbad hnn hz q1
                go_wp2_with fail
                go_ret
                exact chk_bad HR.out BAD.out (U0.out.trans UU.out)
              have q1i : (k : Int) < mvs.length := by omega
              have q1d : decide ((mvs.length : Int) ≤ k) = false := decide_eq_false (by omega)
              have q1n : decide (mvs.length ≤ k) = false := decide_eq_false (by omega)
              obtain ⟨b3, o3, rfl, hb3, hel3⟩ := slice_at RM.out (by omega)
              have g2m : cap' - k ≤ maxLen := by unfold maxLen; omega
              have lc : LCut wr ⟨false, mvs⟩ x k V (.slice (some ⟨b3, o3 + k * 2, none⟩) 1 (cap' - k)) := by
                refine ⟨_, _, [mvs[k]], rfl, by simp, one_slice hel3 q1 (by omega) g2m hb3, ⟨fun h m hm => ?_, fun h => ?_⟩, fun m hm => ?_⟩
                · rw [List.mem_singleton] at hm; subst hm
                  refine (h.2.2.1 hnn rfl).2.2 _ ?_
                  rw [Int.toNat_natCast]; exact List.getElem?_eq_getElem q1
                · refine ⟨hS.out, fun h => absurd h hnn, fun _ _ => ⟨by omega, by dsimp only; omega, fun m hm => ?_⟩, fun _ h => by cases h⟩
                  dsimp only at hm
                  rw [Int.toNat_natCast, List.getElem?_eq_getElem q1] at hm
                  injection hm with hm; subst hm
                  exact h _ (List.mem_singleton.2 rfl)
                · rw [List.mem_singleton] at hm; subst hm; exact List.getElem_mem q1
              have LC := hid lc
              clear lc hnn hel3 hz
              go_upto_if 106 with (fail)
              go_cut [7] (fun s wx => LCut wr ⟨false, mvs⟩ x k V s ∧ wr = wx)
              case first =>
                go_wp2_with fail
                go_meet
                case rel => exact ⟨LC.out, rfl⟩
              case rest =>
                obtain ⟨⟨am, cm, ms, rfl, hm8, rms, hrs⟩, hwc⟩ := hcut
                subst hwc
                have RMS := hid rms; have RS := hid hrs
                obtain ⟨_, _, _, z1, z2, _⟩ := slice_open rms
                have hm8i : (ms.length : Int) ≤ 8 := by omega
                clear rms hrs
                go_wp2_with fail
                clear m0 m1 n0 n1
                go_loopg [10] ms.length (fun gg s wx => ∃ j : Nat, j ≤ ms.length ∧ gg = ms.length - j ∧ s = .int .i64 j ∧ (∀ j' m, j' < j → ms[j']? = some m → m.gain + geti V m.to.toNat ≤ x) ∧ Upd (fun _ => False) wr wx)
                case atStart => exact ⟨0, Nat.zero_le _, rfl, rfl, fun j' m h => by omega, Upd.refl _ _⟩
                case round =>
                  obtain ⟨j, hj, hgj, rfl, hall, uj⟩ := hrel
                  have HGJ := hid hgj; have ALL := hid hall; have UJ := hid uj
                  clear hgj hall uj d0 d1
                  by_cases hjl : j < ms.length
                  · have hji : (j : Int) < ms.length := by omega
                    obtain ⟨b3, o3, rfl, hb3, hel3⟩ := slice_at RMS.out (by omega)
                    obtain ⟨c0, c1⟩ := mv_cells hel3 hjl
                    have c0 := cell_nx c0 UJ.out
                    have c1 := cell_nx c1 UJ.out
                    obtain ⟨t0, t1, t2, t3⟩ := HMV.out _ (RS.out.2 ms[j] (List.getElem_mem hjl))
                    have hmj := List.getElem?_eq_getElem hjl
                    have HMJ := hid hmj
                    obtain ⟨d0, d1, _⟩ := cells2 (((UU.out.trans UJ.out).block _ (heap_lt HB.out) id).trans HB.out)
                    clear hel3 hmj
                    generalize ms[j] = mk at *
                    obtain ⟨mto, gain⟩ := mk
                    dsimp only at *
                    obtain ⟨t, rfl⟩ := Int.eq_ofNat_of_zero_le t0
                    rw [Int.toNat_natCast] at t3
                    have htl : t < V.length := by omega
                    have hti : (t : Int) < V.length := t1
                    obtain ⟨b4, o4, e4, hb4, hel4⟩ := slice_at HV.out (by omega)
                    injection e4 with e4
                    injection e4 with e4 e5 _
                    subst e4 e5
                    have cv := int_cells hel4 htl
                    rw [geti_at' htl] at cv
                    have cv := cell_nx cv (UU.out.trans UJ.out)
                    clear hel4
                    generalize hy : geti V t = y2 at *
                    have YT := hid hy
                    clear hy
                    by_cases hc : x < gain + y2
                    · have hbad : ¬ Holds l V C := not_holds_at HND.out XX.out YY.out fun h => by
                        have h2 := RS.out.1.1 h _ (List.mem_of_getElem? HMJ.out)
                        dsimp only at h2
                        rw [Int.toNat_natCast, YT.out] at h2
                        omega
                      have BAD := hid hbad
                      clear hbad
                      go_wp2_with fail
                      go_quiet (fail)
                      go_wp2_with fail
                      go_ret
                      exact chk_bad HR.out BAD.out (U0.out.trans ((UU.out.trans UJ.out).drewN _))
                    · have hall : ∀ j' m, j' < j + 1 → ms[j']? = some m → m.gain + geti V m.to.toNat ≤ x := fun j' m h1 h2 => by
                        by_cases e : j' = j
                        · subst e
                          rw [HMJ.out] at h2; injection h2 with h2; subst h2
                          dsimp only
                          rw [Int.toNat_natCast, YT.out]; omega
                        · exact ALL.out j' m (by omega) h2
                      have ALL2 := hid hall
                      clear hall
                      go_wp2_with fail
                      go_quiet (fail)
                      go_wp2_with fail
                      go_roundg (ms.length - (j + 1))
                      case measure => have := HGJ.out; omega
                      case rel => exact ⟨j + 1, by omega, rfl, by go_num, ALL2.out, UJ.out.drewN _⟩
                  · obtain rfl : j = ms.length := by omega
                    have hok : holdsAt ⟨false, mvs⟩ (geti V i) (geti C i) V := by
                      rw [XX.out, YY.out]
                      refine RS.out.1.2 fun m hm => ?_
                      obtain ⟨j', hj', e⟩ := List.mem_iff_getElem.1 hm
                      exact ALL.out j' m hj' (by rw [← e]; exact List.getElem?_eq_getElem hj')
                    have HOK := hid (HH.out.succ HND.out hok)
                    clear hok
                    go_wp2_with fail
                    go_roundg (l.length - (i + 1))
                    case measure => have := HG.out; omega
                    case rel => exact ⟨i + 1, by omega, rfl, by go_num, HOK.out, UU.out.trans UJ.out⟩
            · by_cases q1 : y = -1
              rotate_left
              · have q1b : (y != -1) = true := by rw [bne_iff_ne]; exact q1
                have hbad : ¬ Holds l V C := not_holds_at HND.out XX.out YY.out fun h => q1 (h.2.2.2 hnn rfl).1
                have BAD := hid hbad
                clear hbad hnn hz q1
                go_wp2_with fail
                go_ret
                exact chk_bad HR.out BAD.out (U0.out.trans UU.out)
              have q1b : (y != -1) = false := by rw [q1]; rfl
              have lc : LCut wr ⟨true, mvs⟩ x y V (.slice a' mvs.length cap') := ⟨_, _, mvs, rfl, H8.out, RM.out, ⟨fun h => (h.2.2.2 hnn rfl).2, fun h => ⟨hS.out, fun h => absurd h hnn, fun _ h => (by cases h), fun _ _ => ⟨q1, h⟩⟩⟩, fun m hm => hm⟩
              have LC := hid lc
              clear lc hnn q1 hz
              go_upto_if 106 with (fail)
              go_cut [7] (fun s wx => LCut wr ⟨true, mvs⟩ x y V s ∧ wr = wx)
              case first =>
                go_wp2_with fail
                go_meet
                case rel => exact ⟨LC.out, rfl⟩
              case rest =>
                obtain ⟨⟨am, cm, ms, rfl, hm8, rms, hrs⟩, hwc⟩ := hcut
                subst hwc
                have RMS := hid rms; have RS := hid hrs
                obtain ⟨_, _, _, z1, z2, _⟩ := slice_open rms
                have hm8i : (ms.length : Int) ≤ 8 := by omega
                clear rms hrs
                go_wp2_with fail
                clear m0 m1 n0 n1
                go_loopg [10] ms.length (fun gg s wx => ∃ j : Nat, j ≤ ms.length ∧ gg = ms.length - j ∧ s = .int .i64 j ∧ (∀ j' m, j' < j → ms[j']? = some m → m.gain + geti V m.to.toNat ≤ x) ∧ Upd (fun _ => False) wr wx)
                case atStart => exact ⟨0, Nat.zero_le _, rfl, rfl, fun j' m h => by omega, Upd.refl _ _⟩
                case round =>
                  obtain ⟨j, hj, hgj, rfl, hall, uj⟩ := hrel
                  have HGJ := hid hgj; have ALL := hid hall; have UJ := hid uj
                  clear hgj hall uj d0 d1
                  by_cases hjl : j < ms.length
                  · have hji : (j : Int) < ms.length := by omega
                    obtain ⟨b3, o3, rfl, hb3, hel3⟩ := slice_at RMS.out (by omega)
                    obtain ⟨c0, c1⟩ := mv_cells hel3 hjl
                    have c0 := cell_nx c0 UJ.out
                    have c1 := cell_nx c1 UJ.out
                    obtain ⟨t0, t1, t2, t3⟩ := HMV.out _ (RS.out.2 ms[j] (List.getElem_mem hjl))
                    have hmj := List.getElem?_eq_getElem hjl
                    have HMJ := hid hmj
                    obtain ⟨d0, d1, _⟩ := cells2 (((UU.out.trans UJ.out).block _ (heap_lt HB.out) id).trans HB.out)
                    clear hel3 hmj
                    generalize ms[j] = mk at *
                    obtain ⟨mto, gain⟩ := mk
                    dsimp only at *
                    obtain ⟨t, rfl⟩ := Int.eq_ofNat_of_zero_le t0
                    rw [Int.toNat_natCast] at t3
                    have htl : t < V.length := by omega
                    have hti : (t : Int) < V.length := t1
                    obtain ⟨b4, o4, e4, hb4, hel4⟩ := slice_at HV.out (by omega)
                    injection e4 with e4
                    injection e4 with e4 e5 _
                    subst e4 e5
                    have cv := int_cells hel4 htl
                    rw [geti_at' htl] at cv
                    have cv := cell_nx cv (UU.out.trans UJ.out)
                    clear hel4
                    generalize hy : geti V t = y2 at *
                    have YT := hid hy
                    clear hy
                    by_cases hc : x < gain + y2
                    · have hbad : ¬ Holds l V C := not_holds_at HND.out XX.out YY.out fun h => by
                        have h2 := RS.out.1.1 h _ (List.mem_of_getElem? HMJ.out)
                        dsimp only at h2
                        rw [Int.toNat_natCast, YT.out] at h2
                        omega
                      have BAD := hid hbad
                      clear hbad
                      go_wp2_with fail
                      go_quiet (fail)
                      go_wp2_with fail
                      go_ret
                      exact chk_bad HR.out BAD.out (U0.out.trans ((UU.out.trans UJ.out).drewN _))
                    · have hall : ∀ j' m, j' < j + 1 → ms[j']? = some m → m.gain + geti V m.to.toNat ≤ x := fun j' m h1 h2 => by
                        by_cases e : j' = j
                        · subst e
                          rw [HMJ.out] at h2; injection h2 with h2; subst h2
                          dsimp only
                          rw [Int.toNat_natCast, YT.out]; omega
                        · exact ALL.out j' m (by omega) h2
                      have ALL2 := hid hall
                      clear hall
                      go_wp2_with fail
                      go_quiet (fail)
                      go_wp2_with fail
                      go_roundg (ms.length - (j + 1))
                      case measure => have := HGJ.out; omega
                      case rel => exact ⟨j + 1, by omega, rfl, by go_num, ALL2.out, UJ.out.drewN _⟩
                  · obtain rfl : j = ms.length := by omega
                    have hok : holdsAt ⟨true, mvs⟩ (geti V i) (geti C i) V := by
                      rw [XX.out, YY.out]
                      refine RS.out.1.2 fun m hm => ?_
                      obtain ⟨j', hj', e⟩ := List.mem_iff_getElem.1 hm
                      exact ALL.out j' m hj' (by rw [← e]; exact List.getElem?_eq_getElem hj')
                    have HOK := hid (HH.out.succ HND.out hok)
                    clear hok
                    go_wp2_with fail
                    go_roundg (l.length - (i + 1))
                    case measure => have := HG.out; omega
                    case rel => exact ⟨i + 1, by omega, rfl, by go_num, HOK.out, UU.out.trans UJ.out⟩
        · obtain rfl : i = l.length := by omega
          have hok : Holds l V C := ⟨C1.out, C2.out, fun i nd h => HH.out i nd (List.getElem?_eq_some_iff.1 h).1 h⟩
          have HOK := hid hok
          clear hok
          go_wp2_with fail
          go_ret
          exact chk_ok HR.out HOK.out (U0.out.trans UU.out)
end Go.Proofs.Ytmjjfafkmfcpnaa
