/- Walks: Check, Play. -/
import Derived.Test.YtmjjfafkmfcpnaaGmA7
namespace Go.Proofs.Ytmjjfafkmfcpnaa
open Go.RowKit Go.Deep

theorem cell_nx {w w' : World} {a : Addr} {v : Value} (h : w.cell? a = some v) (u : Upd (fun _ => False) w w') : w'.cell? a = some v :=
  cell_kept h (u.block _ (World.block_lt_of_cell? _ _ h) id)

def CheckPost (l : List Nd) (V C : List Int) (w : World) (e : Ending) (w' : World) : Prop :=
  ∃ n : Int, e = .returned (.int .i64 n) ∧ (right l = false → n = 1) ∧ (right l = true → (n = 0 ∨ n = 21) ∧ (n = 0 ↔ Holds l V C)) ∧ Upd (fun _ => False) w w'

def NodesHold (l : List Nd) (V C : List Int) (k : Nat) : Prop := ∀ i nd, k ≤ i → l[i]? = some nd → holdsAt nd (geti V i) (geti C i) V

def HoldsCut (nd : Nd) (value choice : Int) (V : List Int) (w : World) (s : Value) (w' : World) : Prop :=
  ∃ b : Bool, s = .bool (!b) ∧ HoldsB b nd value choice V ∧ Upd (fun _ => False) w w'

theorem holdsCut {nd : Nd} {x y : Int} {V : List Int} {w w' : World} (b : Bool) (h : HoldsB b nd x y V) (u : Upd (fun _ => False) w w') : HoldsCut nd x y V w (.bool (!b)) w' := ⟨b, rfl, h, u⟩

set_option maxRecDepth 100000 in
set_option maxHeartbeats 1000000 in
theorem check_any (v vs cs : Value) (l : List Nd) (V C : List Int) (w : World) (hl : (kSlice kNd).rep (· < w.heap.size) w [v] l) (h1 : kInts.rep (· < w.heap.size) w [vs] V) (h2 : kInts.rep (· < w.heap.size) w [cs] C) :
    Calls Try.prog 21 #[v, .agg #[vs, cs]] w (CheckPost l V C w) := by
  obtain ⟨a0, cap0, rfl, p1, p2, p3⟩ := slice_open hl
  obtain ⟨a1, cap1, rfl, q1, q2, q3⟩ := slice_open h1
  obtain ⟨a2, cap2, rfl, r1, r2, r3⟩ := slice_open h2
  have p2 : cap0 ≤ 9223372036854775807 := p2
  have q2 : cap1 ≤ 9223372036854775807 := q2
  have r2 : cap2 ≤ 9223372036854775807 := r2
  have u0 := (Upd.refl (fun _ => False) w).alloc (.cells #[.slice a1 V.length cap1, .slice a2 C.length cap2] 25 (0, 0))
  have hb0 : (w.alloc (.cells #[.slice a1 V.length cap1, .slice a2 C.length cap2] 25 (0, 0))).heap[w.heap.size]? = some (.cells #[.slice a1 V.length cap1, .slice a2 C.length cap2] 25 (0, 0)) := heap_alloc_new
  have HL := hid (keep_nds hl u0); have HV := hid (keep_ints h1 u0); have HC := hid (keep_ints h2 u0)
  have U0 := hid u0; have HB := hid hb0
  clear hl h1 h2 u0 hb0 p3 q3 r3
  cases hr : right l
  · have HR := hid hr; clear hr
    go_enter Try.func21, Try.ntmps21
    go_wp2_with fail
    refine (right_any _ l _ HL.out).mono ?_
    rintro e w1 ⟨rfl, u1⟩
    have U1 := hid (U0.out.trans u1); clear u1
    rw [HR.out]
    go_wp2_with fail
    go_ret
    unfold CheckPost
    exact ⟨1, rfl, fun _ => rfl, fun h => (by rw [HR.out] at h; cases h), U1.out⟩
  have HR := hid hr; clear hr
  have HP := hid ((right_iff l).1 HR.out)
  have fin : ∀ (n : Int) (b : Bool) (W : World), (n = if b then 0 else 21) → (b = true ↔ Holds l V C) → Upd (fun _ => False) w W → CheckPost l V C w (.returned (.int .i64 n)) W := by
    intro n b W hn hb hu
    refine ⟨n, rfl, fun h => (by rw [HR.out] at h; cases h), fun _ => ?_, hu⟩
    cases b
    · have : n = 21 := hn
      exact ⟨.inr this, fun h => by omega, fun h => absurd (hb.2 h) (by decide)⟩
    · have : n = 0 := hn
      exact ⟨.inl this, fun _ => hb.1 rfl, fun _ => this⟩
  have FIN := hid fin; clear fin
  by_cases c1 : V.length = l.length
  · by_cases c2 : C.length = l.length
    · have c1b : ((V.length : Int) != l.length) = false := by rw [c1]; simp
      have c1c : (V.length != l.length) = false := by rw [c1]; simp
      have c2b : ((C.length : Int) != l.length) = false := by rw [c2]; simp
      have c2c : (C.length != l.length) = false := by rw [c2]; simp
      have C1 := hid c1; have C2 := hid c2
      have hn1 : (l.length : Int) ≤ 3000 := by have := HP.out.few; omega
      have hn0 : (1 : Int) ≤ l.length := by have := HP.out.pos; omega
      clear c1 c2
      go_enter Try.func21, Try.ntmps21
      go_wp2_with fail
      refine (right_any _ l _ HL.out).mono ?_
      rintro e w1 ⟨rfl, u1⟩
      have hb1 := (u1.block _ (heap_lt HB.out) id).trans HB.out
      obtain ⟨d0, d1, _⟩ := cells2 hb1
      have U1 := hid (U0.out.trans u1); have HB1 := hid hb1
      have HL1 := hid (keep_nds HL.out u1); have HV1 := hid (keep_ints HV.out u1); have HC1 := hid (keep_ints HC.out u1)
      clear u1 hb1 HL HV HC HB U0
      rw [HR.out]
      go_wp2_with fail
      clear d0 d1 c1b c1c c2b c2c
      go_loopg [5] l.length (fun gg s wr => ∃ k : Nat, k ≤ l.length ∧ gg = k ∧ s = .int .i64 ((k : Int) - 1) ∧ NodesHold l V C k ∧ Upd (fun _ => False) w1 wr)
      case atStart => exact ⟨l.length, Nat.le_refl _, rfl, rfl, fun i nd hi h => (by have := (List.getElem?_eq_some_iff.1 h).1; omega), Upd.refl _ _⟩
      case round =>
        obtain ⟨k, hk, hg, rfl, hh, u⟩ := hrel
        have UU := hid u; have HG := hid hg; have HH := hid hh
        clear u hg hh
        rcases Nat.eq_zero_or_pos k with hk0 | hk0
        · subst hk0
          have hfin : (true = true ↔ Holds l V C) := ⟨fun _ => ⟨C1.out, C2.out, fun i nd h => HH.out i nd (Nat.zero_le _) h⟩, fun _ => rfl⟩
          have F := FIN.out 0 true
          have F2 := fun W hW => F W rfl hfin hW
          have F3 := hid F2
          clear F F2 hfin
          go_wp2_with fail
          go_ret
          exact F3.out _ (U1.out.trans UU.out)
        · obtain ⟨i, rfl⟩ : ∃ i, k = i + 1 := ⟨k - 1, by omega⟩
          have e1 : (((i + 1 : Nat) : Int) - 1) = i := by omega
          rw [e1]
          have hlt : i < l.length := by omega
          have hlti : (i : Int) < l.length := by omega
          obtain ⟨b0, o0, rfl, hb0, hel⟩ := slice_at HL1.out (by omega)
          obtain ⟨b1, o1, rfl, hb1, hel1⟩ := slice_at HV1.out (by rw [C1.out]; omega)
          obtain ⟨b2, o2, rfl, hb2, hel2⟩ := slice_at HC1.out (by rw [C2.out]; omega)
          have hilV : i < V.length := by rw [C1.out]; exact hlt
          have hilC : i < C.length := by rw [C2.out]; exact hlt
          have hilVi : (i : Int) < V.length := by omega
          have hilCi : (i : Int) < C.length := by omega
          obtain ⟨v', m0, m1, hv⟩ := nd_cells hel hlt
          obtain ⟨a', cap', rfl, g1, g2, g3⟩ := slice_open hv
          have g2 : cap' ≤ 9223372036854775807 := g2
          have n0 := int_cells hel1 hilV
          have n1 := int_cells hel2 hilC
          rw [geti_at' hilV] at n0
          rw [geti_at' hilC] at n1
          have m0 := cell_kept m0 (UU.out.block b0 hb0 id)
          have m1 := cell_kept m1 (UU.out.block b0 hb0 id)
          have n0 := cell_kept n0 (UU.out.block b1 hb1 id)
          have n1 := cell_kept n1 (UU.out.block b2 hb2 id)
          obtain ⟨d0, d1, _⟩ := cells2 ((UU.out.block _ (heap_lt HB1.out) id).trans HB1.out)
          have hnd := List.getElem?_eq_getElem hlt
          have hmv : ∀ m ∈ l[i].moves, 0 ≤ m.to ∧ m.to < V.length ∧ (-1099511627776 ≤ m.gain ∧ m.gain ≤ 1099511627776) ∧ -4503599627370496 ≤ geti V m.to.toNat ∧ geti V m.to.toNat ≤ 4503599627370496 := fun m hm => by
            obtain ⟨t1, t2, t3, t4⟩ := HP.out.mv i l[i] m hnd hm
            have hM : maxGain = 1099511627776 := rfl
            have hS : maxSum = 4503599627370496 := rfl
            have hto : m.to.toNat < l.length := by omega
            have := (HH.out m.to.toNat l[m.to.toNat] (by omega) (List.getElem?_eq_getElem hto)).1
            have hc := C1.out
            omega
          have h8 := HP.out.len i l[i] hnd
          have rm : ∀ W, Upd (fun _ => False) wr W → (kSlice kMv).rep (· < W.heap.size) W [.slice a' l[i].moves.length cap'] l[i].moves := fun W hW =>
            (kSlice kMv).mono ((kSlice kMv).keep hv (Same.of_upd (UU.out.trans hW) fun _ _ => id)) fun x hx => Nat.lt_of_lt_of_le hx (UU.out.trans hW).size
          have rv := fun W (hW : Upd (fun _ => False) wr W) => keep_ints HV1.out (UU.out.trans hW)
          have HND := hid hnd; have HMV := hid hmv; have H8 := hid h8; have RM := hid rm; have RV := hid rv
          clear hel hel1 hel2 hv hnd hmv h8 rm rv g3
          generalize l[i] = nd at *
          generalize hx : geti V i = x at *
          generalize hy : geti C i = y at *
          have XX := hid hx; have YY := hid hy
          clear hx hy
          go_upto_region 8 with (fail)
          go_cut [47] (fun s wx => HoldsCut nd x y V wr s wx)
          case first =>
            go_region_held3 (fun w' => w'.cell? ⟨b0, o0 + i * 2, none⟩ = some (.bool nd.mine) ∧ w'.cell? ⟨b0, o0 + i * 2 + 1, none⟩ = some (.slice a' nd.moves.length cap') ∧ w'.cell? ⟨b1, o1 + i, none⟩ = some (.int .i64 x) ∧ w'.cell? ⟨b2, o2 + i, none⟩ = some (.int .i64 y) ∧ w'.cell? ⟨w.heap.size, 0, none⟩ = some (.slice (some ⟨b1, o1, none⟩) V.length cap1) ∧ w'.cell? ⟨w.heap.size, 1, none⟩ = some (.slice (some ⟨b2, o2, none⟩) C.length cap2)) (first | go_keep | exact ⟨cell_nx (w := wr.drew) m0 HU.out, cell_nx (w := wr.drew) m1 HU.out, cell_nx (w := wr.drew) n0 HU.out, cell_nx (w := wr.drew) n1 HU.out, cell_nx (w := wr.drew) d0 HU.out, cell_nx (w := wr.drew) d1 HU.out⟩)
              ((go_at_call 29; refine (holds_any nd x y V _ _ _ (RM.out _ (Upd.drew (Upd.refl _ _))) (RV.out _ (Upd.drew (Upd.refl _ _))) HMV.out H8.out).mono ?_; rintro e w3 ⟨b, rfl, hb, hu⟩; have HBB := hid hb; have HU := hid hu; clear hb hu))
            all_goals
              go_wp2_with fail
              go_meet
              case rel => exact holdsCut b HBB.out (((Upd.refl _ _).drew).trans HU.out)
          case rest =>
            obtain ⟨b, rfl, hb, uc⟩ := hcut
            have UX := hid (UU.out.trans uc)
            have HBB := hid hb
            clear uc hb UU m0 m1 n0 n1 d0 d1
            cases b
            · have hfin : (false = true ↔ Holds l V C) := ⟨fun h => (by cases h), fun h => HBB.out.2 (by have := h.2.2 i nd HND.out; rwa [XX.out, YY.out] at this)⟩
              have F := FIN.out 21 false
              have F2 := fun W hW => F W rfl hfin hW
              have F3 := hid F2
              clear F F2 hfin
              go_wp2_with fail
              go_ret
              exact F3.out _ (U1.out.trans UX.out)
            · have hnew : NodesHold l V C i := fun j nd' hj h => by
                by_cases e : j = i
                · subst e
                  rw [HND.out] at h; injection h with h; subst h
                  rw [XX.out, YY.out]
                  exact HBB.out.1 rfl
                · exact HH.out j nd' (by omega) h
              have HN := hid hnew
              clear hnew
              go_wp2_with fail
              go_roundg i
              case measure => have := HG.out; omega
              case rel => exact ⟨i, by omega, rfl, by go_num, HN.out, UX.out⟩
    · have c1b : ((V.length : Int) != l.length) = false := by rw [c1]; simp
      have c1c : (V.length != l.length) = false := by rw [c1]; simp
      have c2b : ((C.length : Int) != l.length) = true := by rw [bne_iff_ne]; omega
      have c2c : (C.length != l.length) = true := by rw [bne_iff_ne]; omega
      have hfin : (false = true ↔ Holds l V C) := ⟨fun h => (by cases h), fun h => absurd h.2.1 c2⟩
      have F := FIN.out 21 false
      have F2 := fun W hW => F W rfl hfin hW
      have F3 := hid F2
      clear F F2 hfin c1 c2
      go_enter Try.func21, Try.ntmps21
      go_wp2_with fail
      refine (right_any _ l _ HL.out).mono ?_
      rintro e w1 ⟨rfl, u1⟩
      have hb1 := (u1.block _ (heap_lt HB.out) id).trans HB.out
      obtain ⟨d0, d1, _⟩ := cells2 hb1
      have U1 := hid (U0.out.trans u1)
      clear u1 hb1
      rw [HR.out]
      go_wp2_with fail
      go_ret
      exact F3.out _ U1.out
  · have c1b : ((V.length : Int) != l.length) = true := by rw [bne_iff_ne]; omega
    have c1c : (V.length != l.length) = true := by rw [bne_iff_ne]; omega
    have hfin : (false = true ↔ Holds l V C) := ⟨fun h => (by cases h), fun h => absurd h.1 c1⟩
    have F := FIN.out 21 false
    have F2 := fun W hW => F W rfl hfin hW
    have F3 := hid F2
    clear F F2 hfin c1
    go_enter Try.func21, Try.ntmps21
    go_wp2_with fail
    refine (right_any _ l _ HL.out).mono ?_
    rintro e w1 ⟨rfl, u1⟩
    have hb1 := (u1.block _ (heap_lt HB.out) id).trans HB.out
    obtain ⟨d0, d1, _⟩ := cells2 hb1
    have U1 := hid (U0.out.trans u1)
    clear u1 hb1
    rw [HR.out]
    go_wp2_with fail
    go_ret
    exact F3.out _ U1.out
end Go.Proofs.Ytmjjfafkmfcpnaa
