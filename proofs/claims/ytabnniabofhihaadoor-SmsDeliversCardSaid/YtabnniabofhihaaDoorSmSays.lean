/- The statements' helper says. -/
import Derived.Test.YtabnniabofhihaaDoorSmBls
namespace Go.Proofs.YtabnniabofhihaaDoor
open Go.RowKit Go.Deep

def SaysPost (w : World) (e : Ending) (w' : World) : Prop := e = .returned (.bool true) ∧ Upd (fun _ => False) w w'
set_option maxRecDepth 100000 in
set_option maxHeartbeats 2000000 in
theorem says_any (bb : Nat) (O : Nat → Prop) (bx : Bx) (ni : Int) (msg : Bs) (v : Value) (bl : List Bool) (w : World) (hb : IsBox w O bb bx) (hi : (Lit.int .i64 ni).wf = true) (hv : kBls.rep (· < w.heap.size) w [v] bl) (hl : bl.length ≤ 2500) (hs : Said bx ni msg bl) :
    Calls Tryd.prog 13 #[.pointer (some ⟨bb, 0, none⟩), .int .i64 ni, .string ⟨msg.toArray⟩, v] w (SaysPost w) := by
  obtain ⟨va, vc, rfl, hp1, hp2, _⟩ := slice_open hv
  have HV := hid hv; have HB := hid hb; have HI := hid hi; have HS := hid hs; have HL := hid hl
  clear hv hb hi hs hp2 hp1
  go_enter Tryd.func13, Tryd.ntmps13
  go_wp2_with fail
  go_loopg [9, 10] bl.length (fun gg s9 s10 wr => ∃ k : Nat, k ≤ bl.length ∧ gg = bl.length - k ∧ s10 = .int .i64 k ∧ wr.ownsRow w.heap.size 3 1 s9 (falseTo bl k).length ((falseTo bl k).map fun x => .int .i64 x) ∧ Upd (fun _ => False) w wr)
  case atStart => exact ⟨0, Nat.zero_le _, rfl, rfl, World.ownsRow_nil _ _ _ _, Upd.refl _ _⟩
  case round =>
    obtain ⟨k, hk, hg, rfl, hown, u⟩ := hrel
    have HG := hid hg; have OWN := hid hown; have U := hid u
    clear hg hown u
    by_cases hlt : k < bl.length
    · have hlti : (k : Int) < bl.length := by omega
      obtain ⟨pb, po, ra, hpb, hel⟩ := slice_at HV.out (by omega)
      subst ra
      have c0 := cell_kept (bls_cells hel hlt) (U.out.block pb hpb id)
      clear hel
      cases hbv : bl[k] with
      | true =>
        have HN := hid (falseTo_yes hlt hbv)
        rw [hbv] at c0
        clear hbv
        go_wp2_with fail
        go_roundg (bl.length - (k + 1))
        case measure => have := HG.out; omega
        case rel => exact ⟨k + 1, by omega, rfl, by go_num, by rw [HN.out]; exact OWN.out, U.out⟩
      | false =>
        have HN := hid (falseTo_no hlt hbv)
        rw [hbv] at c0
        have hml := falseTo_len bl k
        obtain ⟨v', w4, r4, o4, u4, n4⟩ := append_one elemI OWN.out #[.int .i64 k] rfl (by simp [Value.oneCell']) (by unfold maxLen; omega) (by omega) U.out.size 41 (0, 0)
        have U4 := hid (U.out.comp u4 fun i hi e => by have := (OWN.out.lt i e).1; omega)
        have O4 := hid o4
        clear hbv o4 u4 n4
        go_wp2_with (at_builtin; refine wpList_append_run rfl _ _ _ _ rfl rfl rfl r4 ?_)
        go_roundg (bl.length - (k + 1))
        case measure => have := HG.out; omega
        case rel => exact ⟨k + 1, by omega, rfl, by go_num, by rw [HN.out, List.length_append, List.map_append]; exact O4.out, U4.out⟩
    · obtain rfl : k = bl.length := by omega
      have hrep : kInts.rep (· < wr.heap.size) wr [u9] (falses bl) := ownsRow_rep1 (K := kInt .i64) rfl (fun x => Value.int .i64 x) OWN.out (fun x hx => intRep x (by have := falseTo_mem hx; have := HL.out; unfold I64; omega)) fun g hg => (OWN.out.lt g hg).2
      obtain ⟨xa, xc, rfl, hx1, hx2, _⟩ := slice_open hrep
      have hx2 : xc ≤ 9223372036854775807 := hx2
      have HR := hid hrep
      clear hrep OWN HG hlt hk
      have hle : (falses bl).length ≤ bl.length := falseTo_len bl bl.length
      rcases HS.out with ⟨h1, h2, h3⟩ | ⟨h1, h2, h3⟩
      · have e1 : ((falses bl).length == bl.length) = true := by rw [h1]; exact beq_self_eq_true _
        have e2 : (((falses bl).length : Int) == bl.length) = true := by rw [h1]; exact beq_self_eq_true _
        have H1 := hid h1; have H2 := hid h2; have H3 := hid h3
        clear h1 h2 h3
        go_wp2_with fail
        refine (done_any' bb O bx ni _ (HB.out.keep U.out) HI.out).mono ?_
        rintro e w1 ⟨rfl, u⟩
        have U1 := hid (U.out.trans u)
        clear u
        rw [H3.out]
        go_wp2_with fail
        refine (missing_any bb O bx ni _ (HB.out.keep U1.out) HI.out).mono ?_
        rintro e w2 ⟨y, rfl, hrep, u⟩
        rw [H2.out] at hrep ⊢
        obtain ⟨ya, yc, rfl, hy1, hy2, _⟩ := slice_open hrep
        have U2 := hid (U1.out.trans u)
        have g1 : (falses bl).length = bl.length := H1.out
        clear u hrep hy2
        go_wp2_with fail
        go_ret
        exact ⟨rfl, U2.out⟩
      · have e1 : ((falses bl).length == bl.length) = false := beq_eq_false_iff_ne.2 h1
        have e2 : (((falses bl).length : Int) == bl.length) = false := beq_eq_false_iff_ne.2 (by omega)
        have e3 : ¬ ((falses bl).length : Int) = bl.length := by omega
        have H2 := hid h2; have H3 := hid h3
        by_cases hn : falses bl = []
        · have n1 : (falses bl).length = 0 := by rw [hn]; rfl
          have n2 : ((falses bl).length == 0) = true := by rw [n1]; rfl
          have n3 : (((falses bl).length : Int) == 0) = true := by rw [n1]; rfl
          have n5 : decide (falses bl = []) = true := decide_eq_true hn
          have n6 : (falses bl == []) = true := by rw [hn]; rfl
          have HN := hid hn
          clear h2 h3 hn n1
          go_wp2_with fail
          refine (done_any' bb O bx ni _ (HB.out.keep U.out) HI.out).mono ?_
          rintro e w1 ⟨rfl, u⟩
          have U1 := hid (U.out.trans u)
          have V1 := hid u
          clear u
          rw [H3.out, if_pos HN.out]
          go_wp2_with fail
          refine (missing_any bb O bx ni _ (HB.out.keep U1.out) HI.out).mono ?_
          rintro e w2 ⟨y, rfl, hrep, u⟩
          rw [H2.out] at hrep ⊢
          obtain ⟨ya, yc, rfl, hy1, hy2, _⟩ := slice_open hrep
          have hy2 : yc ≤ 9223372036854775807 := hy2
          have HRY := hid hrep
          have U2 := hid (U1.out.trans u)
          have U2b := hid (V1.out.trans u)
          clear u hrep
          go_wp2_with fail
          refine (sameNums_any _ _ (falses bl) (falses bl) _ (kInts.mono HRY.out fun g hg => hg.2) (kInts.mono (kInts.keep HR.out (Same.of_upd U2b.out fun _ _ => id)) fun g hg => Nat.lt_of_lt_of_le hg U2b.out.size)).mono ?_
          rintro e w3 ⟨rfl, u⟩
          have U3 := hid (U2.out.trans u)
          clear u
          rw [beq_self_eq_true]
          go_wp2_with fail
          go_ret
          exact ⟨rfl, U3.out⟩
        · have n1 : ¬ (falses bl).length = 0 := fun h => hn (List.length_eq_zero_iff.1 h)
          have n2 : ((falses bl).length == 0) = false := beq_eq_false_iff_ne.2 n1
          have n3 : (((falses bl).length : Int) == 0) = false := beq_eq_false_iff_ne.2 (by omega)
          have n5 : decide (falses bl = []) = false := decide_eq_false hn
          have n6 : (falses bl == []) = false := beq_eq_false_iff_ne.2 hn
          have HN := hid hn
          clear h2 h3 n1
          go_wp2_with fail
          refine (done_any' bb O bx ni _ (HB.out.keep U.out) HI.out).mono ?_
          rintro e w1 ⟨rfl, u⟩
          have U1 := hid (U.out.trans u)
          have V1 := hid u
          clear u
          rw [H3.out, if_neg HN.out]
          go_wp2_with fail
          refine (missing_any bb O bx ni _ (HB.out.keep U1.out) HI.out).mono ?_
          rintro e w2 ⟨y, rfl, hrep, u⟩
          rw [H2.out] at hrep ⊢
          obtain ⟨ya, yc, rfl, hy1, hy2, _⟩ := slice_open hrep
          have hy2 : yc ≤ 9223372036854775807 := hy2
          have HRY := hid hrep
          have U2 := hid (U1.out.trans u)
          have U2b := hid (V1.out.trans u)
          clear u hrep
          go_wp2_with fail
          refine (sameNums_any _ _ (falses bl) (falses bl) _ (kInts.mono HRY.out fun g hg => hg.2) (kInts.mono (kInts.keep HR.out (Same.of_upd U2b.out fun _ _ => id)) fun g hg => Nat.lt_of_lt_of_le hg U2b.out.size)).mono ?_
          rintro e w3 ⟨rfl, u⟩
          have U3 := hid (U2.out.trans u)
          clear u
          rw [beq_self_eq_true]
          go_wp2_with fail
          go_ret
          exact ⟨rfl, U3.out⟩
end Go.Proofs.YtabnniabofhihaaDoor
