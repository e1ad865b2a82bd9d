/- The statement StoreWears: the walk. -/
import Derived.Test.YtlefilfdomjkeaaDoorStT
namespace Go.Proofs.YtlefilfdomjkeaaDoor
open Go.RowKit Go.Deep Go.ChangeShapes Go.WideShapes
/-- The operations so often. -/
def timesS (k : Nat) (l : List OpS) : List OpS := (List.replicate k l).flatten
theorem timesS_succ (k : Nat) (l : List OpS) : timesS (k + 1) l = timesS k l ++ l := by
  unfold timesS
  rw [List.replicate_succ', List.flatten_append]
  simp
theorem timesS_len (k : Nat) (l : List OpS) : (timesS k l).length = k * l.length := by
  induction k with
  | zero => simp [timesS]
  | succ k ih => rw [timesS_succ, List.length_append, ih, Nat.add_mul, Nat.one_mul]
theorem timesS_mem {k : Nat} {l : List OpS} {o : OpS} (h : o ∈ timesS k l) : o ∈ l := by
  induction k with
  | zero => simp [timesS] at h
  | succ k ih =>
    rw [timesS_succ] at h
    rcases List.mem_append.1 h with h | h
    · exact ih h
    · exact h
theorem own_slice {w : World} {B n : Nat} {e : TypeId} {v : Value} {xs : List Value} (h : w.ownsRow B e 4 v n xs) : ∃ a c, v = .slice a n c := by
  rcases ownsRow_fits h with ⟨rfl, rfl⟩ | ⟨g, cap, rfl, _⟩
  · exact ⟨none, 0, rfl⟩
  · exact ⟨_, cap, rfl⟩
set_option maxRecDepth 100000 in
set_option maxHeartbeats 2000000 in
theorem wears_walk (x0 x1 : Int) (v : Value) (l : List OpS) (x3 : Int) (w : World) (E : Env w) (hz : 6 ≤ w.heap.size) (h0 : (Lit.int .u8 x0).wf = true) (h1 : (Lit.int .u8 x1).wf = true) (hl : (kSlice kOpS).rep (· < w.heap.size) w [v] l) (h3 : (Lit.int .u8 x3).wf = true) :
    Calls Tryd.prog 3 #[.int .u8 x0, .int .u8 x1, v, .int .u8 x3] w fun e w' => e = .returned (.bool true) ∧ Upd (fun _ => False) w w' := by
  have b0 := bounds_u8 h0
  have b1 := bounds_u8 h1
  have b3 := bounds_u8 h3
  clear h0 h1 h3
  obtain ⟨nb, hnb⟩ := Int.eq_ofNat_of_zero_le (by omega : 0 ≤ 2 + x0 % 5)
  obtain ⟨np, hnp⟩ := Int.eq_ofNat_of_zero_le (by omega : 0 ≤ 1 + x1 % 6)
  obtain ⟨ag, hag⟩ := Int.eq_ofNat_of_zero_le (by omega : 0 ≤ x3 % 3)
  have hb : 2 ≤ nb ∧ nb ≤ 6 := by omega
  have hp : 1 ≤ np ∧ np ≤ 6 := by omega
  have hag3 : ag ≤ 2 := by omega
  have hnbi : (nb : Int) ≤ 6 := by omega
  have hnpi : (np : Int) ≤ 6 := by omega
  have hagi : (ag : Int) ≤ 2 := by omega
  obtain ⟨a, c, rfl, hc1, hc2, hel⟩ := slice_open hl
  have hc2 : c ≤ 9223372036854775807 := hc2
  have HE := hid E; have HZ := hid hz; have HL := hid hl; have HB := hid hb; have HP := hid hp; have HAG := hid hag3
  clear E hz hl hel hb hp hag3
  go_enter Tryd.func3, Tryd.ntmps3
  go_wp2_with fail
  refine (small_any w HE.out HZ.out).mono ?_
  rintro e w1 ⟨rfl, u1⟩
  have U1 := hid u1
  have HL1 := hid ((kSlice kOpS).keep HL.out (Same.of_upd u1 fun _ _ => id))
  clear u1
  go_wp2_with fail
  refine (fewS_any _ l w1 ((kSlice kOpS).mono HL1.out fun g hg => Nat.lt_of_lt_of_le hg U1.out.size)).mono ?_
  rintro e w2 ⟨rfl, u2⟩
  have U2 := hid (U1.out.trans u2)
  have HL2 := hid ((kSlice kOpS).keep HL1.out (Same.of_upd u2 fun _ _ => id))
  clear u2 U1 HL1
  cases hfew : fewS l with
  | false =>
    go_wp2_with fail
    go_ret
    exact ⟨rfl, U2.out⟩
  | true =>
    obtain ⟨hl40, hs300⟩ := fewS_true hfew
    have HL40 := hid hl40; have HS := hid hs300
    clear hfew hl40 hs300
    go_wp2_with fail
    refine (new_ok nb np w2 (by have := HB.out; omega) (by have := HP.out; omega)).mono ?_
    rintro e w3 ⟨p, q, hp3, hq3, rfl, f3, u3⟩
    have F3 := hid f3; have PQ3 := hid (And.intro hp3 hq3); have U3 := hid (U2.out.trans u3)
    have HL3 := hid ((kSlice kOpS).keep HL2.out (Same.of_upd u3 fun _ _ => id))
    have PQL := hid (show p < w3.heap.size ∧ q < w3.heap.size from by obtain ⟨cap, k1⟩ := f3.head; obtain ⟨cs, k2, _⟩ := f3.rows; exact ⟨heap_lt k1, heap_lt k2⟩)
    clear f3 hp3 hq3 u3
    go_wp2_with fail
    go_loopg [13, 14] (ag + 1) (fun gg s13 s14 wr => ∃ k : Nat, s14 = .int .i64 k ∧ k ≤ ag + 1 ∧ gg = ag + 1 - k ∧ (∃ a' c', s13 = .slice a' (timesS k l).length c') ∧ wr.ownsRow w3.heap.size 46 4 s13 (timesS k l).length (opsC (timesS k l)) ∧ Upd (fun _ => False) w3 wr)
    case atStart => exact ⟨0, rfl, Nat.zero_le _, rfl, ⟨none, 0, rfl⟩, World.ownsRow_nil _ _ _ _, Upd.refl _ _⟩
    case round =>
      obtain ⟨k, rfl, hk, hg, ⟨a', c', rfl⟩, hown, u⟩ := hrel
      have HG := hid hg; have OWN := hid hown; have U := hid u
      clear hg hown u
      have hlk := timesS_len k l
      have hki2 : (k : Int) ≤ 3 := by have := HAG.out; omega
      by_cases hkl : k ≤ ag
      · have hkli : (k : Int) ≤ ag := by omega
        obtain ⟨a2, c2, w4, r4, o4, g4⟩ := append_ops (L := timesS k l) OWN.out ((kSlice kOpS).keep HL3.out (Same.of_upd U.out fun _ _ => id)) (by rw [hlk]; have := HAG.out; have := HL40.out; have h5 := Nat.mul_le_mul (show k ≤ 3 by omega) HL40.out; omega) U.out.size
        have LEN := hid (show (timesS k l).length + l.length = (timesS (k + 1) l).length by rw [timesS_succ, List.length_append])
        rw [← timesS_succ] at o4
        have O4 := hid o4
        have U4 := hid (U.out.grown g4 fun k hk => .inr (by
          rcases ownsRow_fits OWN.out with ⟨e, _⟩ | ⟨g, cap, e, hb, _⟩
          · rw [e] at hk; cases hk
          · rw [e] at hk; injection hk with hk; rw [← hk]; exact hb))
        clear o4 g4 hlk
        go_wp2_with (at_builtin; refine wpList_append_run rfl _ _ _ _ rfl rfl rfl r4 ?_)
        go_roundg (ag + 1 - (k + 1))
        case measure => have := HG.out; omega
        case rel => exact ⟨k + 1, by go_num, by omega, rfl, ⟨a2, c2, by rw [← LEN.out]⟩, O4.out, U4.out⟩
      · have hkli : ¬ (k : Int) ≤ ag := by omega
        have hlen := hid (show (timesS k l).length ≤ 200 from by rw [hlk]; have h5 := Nat.mul_le_mul (show k ≤ 3 by have := HAG.out; omega) HL40.out; omega)
        have QC := hid (quiet_any (w0 := w) (w := wr) (nb := nb) (np := np) HB.out HP.out (F3.out.upd U.out id id fun _ h => h.elim) (Nat.le_trans U2.out.size PQ3.out.1) (Nat.le_trans U2.out.size PQ3.out.2) (U3.out.trans U.out) HE.out HZ.out
          (ops_rep OWN.out (fun o ho => ops_ok HL.out o (timesS_mem ho)) (fun g hg => by
            rcases ownsRow_fits OWN.out with ⟨e, _⟩ | ⟨g', cap, e, h6, h7, _⟩
            · rw [e] at hg; cases hg
            · rw [e] at hg; injection hg with hg; have hg : g' = g := hg; subst hg; have := PQL.out; exact ⟨h7, by omega, by omega⟩)) (fun o ho => HS.out o (timesS_mem ho)) hlen.out)
        clear hlk
        go_wp2_with fail
        refine QC.out.mono ?_
        rintro e w5 ⟨x, O, F, S, rfl, sh5, qu5, _, _⟩
        have SH := hid sh5; have QU := hid qu5
        have FNB := hid qu5.hnb
        have WR := hid (fun (i : Nat) (hi : i < nb) => (show (((F.blk i).wear : Nat) : Int) ≤ 1000 from by have := (shop_flash sh5).1.ok.wear i (by rw [qu5.hnb]; exact hi); omega))
        have EV := hid (fun (i j : Nat) (hi : i < nb) (hj : j < nb) => qu5.tidy.pages.even (i := i) (j := j) (by rw [qu5.hnb]; exact hi) (by rw [qu5.hnb]; exact hj))
        have WC := hid (fun (i : Nat) (hi : i < nb) => shop_wear sh5 i (by rw [qu5.hnb]; exact hi))
        have N0 := hid (show 0 < nb from by have := HB.out; omega)
        clear sh5 qu5 QC
        go_wp2_with fail
        refine (WC.out 0 N0.out).mono ?_
        rintro e w6 ⟨rfl, rfl⟩
        go_wp2_with fail
        refine (WC.out 0 N0.out).mono ?_
        rintro e w6 ⟨rfl, rfl⟩
        go_wp2_with fail
        go_loopg [17, 18, 19] (nb - 1) (fun gg s17 s18 s19 wy => ∃ i il im : Nat, s19 = .int .i64 i ∧ i ≤ nb ∧ gg = nb - i ∧ il < nb ∧ im < nb ∧ s17 = .int .i64 ((F.blk il).wear : Nat) ∧ s18 = .int .i64 ((F.blk im).wear : Nat) ∧ w5 = wy)
        case atStart => exact ⟨1, 0, 0, rfl, by have := HB.out; omega, rfl, N0.out, N0.out, rfl, rfl, rfl⟩
        case round =>
          obtain ⟨i, il, im, rfl, hi, hg, hil, him, rfl, rfl, rfl⟩ := hrel
          have HG2 := hid hg; have IL := hid (And.intro hil him)
          clear hg
          have wl := WR.out il hil
          have wm := WR.out im him
          by_cases hin : i < nb
          · have hini : (i : Int) < nb := by omega
            have wi := WR.out i hin
            obtain ⟨jl, hjl, ejl⟩ : ∃ j, j < nb ∧ min (((F.blk il).wear : Nat) : Int) ((F.blk i).wear : Nat) = (((F.blk j).wear : Nat) : Int) := by
              rcases Int.le_total (((F.blk il).wear : Nat) : Int) ((F.blk i).wear : Nat) with h | h
              · exact ⟨il, hil, Int.min_eq_left h⟩
              · exact ⟨i, hin, Int.min_eq_right h⟩
            obtain ⟨jm, hjm, ejm⟩ : ∃ j, j < nb ∧ max (((F.blk im).wear : Nat) : Int) ((F.blk i).wear : Nat) = (((F.blk j).wear : Nat) : Int) := by
              rcases Int.le_total (((F.blk im).wear : Nat) : Int) ((F.blk i).wear : Nat) with h | h
              · exact ⟨i, hin, Int.max_eq_right h⟩
              · exact ⟨im, him, Int.max_eq_left h⟩
            have JJ := hid (And.intro hjl hjm)
            have WCI := hid (WC.out i hin)
            have EJL := hid ejl; have EJM := hid ejm
            obtain ⟨vl, hvl⟩ : ∃ z : Int, (((F.blk il).wear : Nat) : Int) = z := ⟨_, rfl⟩
            obtain ⟨vm, hvm⟩ : ∃ z : Int, (((F.blk im).wear : Nat) : Int) = z := ⟨_, rfl⟩
            obtain ⟨vi, hvi⟩ : ∃ z : Int, (((F.blk i).wear : Nat) : Int) = z := ⟨_, rfl⟩
            rw [hvl] at wl EJL ⊢
            rw [hvm] at wm EJM ⊢
            rw [hvi] at wi EJL EJM WCI
            clear hvl hvm hvi ejl ejm hjl hjm hil him
            go_wp2_with fail
            refine WCI.out.mono ?_
            rintro e w6 ⟨rfl, rfl⟩
            go_wp2_with fail
            refine WCI.out.mono ?_
            rintro e w6 ⟨rfl, rfl⟩
            go_wp2_with fail
            go_roundg (nb - (i + 1))
            case measure => have := HG2.out; omega
            case rel => exact ⟨i + 1, jl, jm, by go_num, hin, rfl, JJ.out.1, JJ.out.2, by rw [← EJL.out], by rw [← EJM.out], rfl⟩
          · have hini : ¬ (i : Int) < nb := by omega
            have ev := EV.out im il him hil
            have evi : (((F.blk im).wear : Nat) : Int) - ((F.blk il).wear : Nat) ≤ 1 := by omega
            have UF := hid SH.out.2.2
            clear ev hil him
            go_wp2_with fail
            go_ret
            exact ⟨rfl, UF.out⟩
theorem wears_card (x0 x1 : Int) (v : Value) (l : List OpS) (x3 : Int) (w : World) (E : Env w) (hz : 6 ≤ w.heap.size) (h0 : (Lit.int .u8 x0).wf = true) (h1 : (Lit.int .u8 x1).wf = true) (hl : (kSlice kOpS).rep (· < w.heap.size) w [v] l) (h3 : (Lit.int .u8 x3).wf = true) :
    Calls Tryd.prog 3 #[.int .u8 x0, .int .u8 x1, v, .int .u8 x3] w fun e w' => e = .returned (.bool true) ∧ Below w.heap.size w w' :=
  (wears_walk x0 x1 v l x3 w E hz h0 h1 hl h3).mono fun _ _ h => ⟨h.1, h.2.below (Nat.le_refl _) fun _ h => h.elim⟩
end Go.Proofs.YtlefilfdomjkeaaDoor
