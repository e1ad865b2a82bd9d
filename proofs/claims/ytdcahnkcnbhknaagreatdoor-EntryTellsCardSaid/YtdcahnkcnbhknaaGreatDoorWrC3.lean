/- Readers: lists. -/
import Derived.Test.YtdcahnkcnbhknaaGreatDoorWrC2
namespace Go.Proofs.YtdcahnkcnbhknaaGreatDoor
open Go.RowKit Go.Deep

theorem elemI : ElemTy Tryz.prog 22 3 1 8 := .mk' Tryz.underlying22 (z := .int .i64 0) (by kernel_rfl) (by rfl) (by decide)
theorem elemS : ElemTy Tryz.prog 34 9 1 16 := .mk' Tryz.underlying34 (z := .string ⟨#[]⟩) (by kernel_rfl) (by rfl) (by decide)
theorem owns_set {P : Nat → Prop} {w w' : World} {base : Nat} {e : TypeId} {v : Value} {n : Nat} {xs : List Value} (h : w.ownsRow base e 1 v n xs) (u : Upd P w w') (hP : ∀ k, P k → k < base) : w'.ownsRow base e 1 v n xs :=
  ownsRow_upd h u fun g hg hp => by have := (h.lt g hg).1; have := hP g hp; omega
theorem textF_vok (r : RS) (h : r.rest.length ≤ 10000000) : (textF r).1.length ≤ 10000000 := Nat.le_trans (textF_vlen r) h
theorem intF_vok (r : RS) (_ : r.rest.length ≤ 10000000) : I64 (intF r).1 := numberF_i64 _ _ _
theorem intF_len (r : RS) : (intF r).2.rest.length ≤ r.rest.length - 1 := numberF_len _ _ _
theorem intF_nil (r : RS) (h : r.rest = []) : (intF r).2.bad = true := by
  unfold intF numberF
  rw [h, numRd_nil]; rfl
theorem textF_nil (r : RS) (h : r.rest = []) : (textF r).2.bad = true := by
  have : numberF 58 0 r = (0, failS) := by unfold numberF; rw [h, numRd_nil]
  unfold textF
  rw [this]; rfl

theorem intRep {A : Nat → Prop} {w : World} (x : Int) (h : I64 x) : (kInt .i64).rep A w [.int .i64 x] x := ⟨rfl, iwf h⟩
def ItemsIntPost (b : Nat) (r : RS) (w : World) (e : Ending) (w' : World) : Prop :=
  ∃ a n c, e = .returned (.slice a n c) ∧ kInts.rep (fun g => w.heap.size ≤ g ∧ g < w'.heap.size) w' [.slice a n c] (itemsF intF r).1 ∧ RdAt w' b (itemsF intF r).2 ∧ Upd (· = b) w w'
theorem itemsInt_fin {b : Nat} {r : RS} {w w' : World} {v : Value} {out : List Int} (hbad : (itemsF intF r).2.bad = false) (ho : (itemsF intF r).1 = out) (h : w'.ownsRow w.heap.size 3 1 v out.length (out.map fun x => .int .i64 x)) (hw : ∀ x ∈ out, I64 x) (hr : RdAt w' b (itemsF intF r).2) (u : Upd (· = b) w w') : ItemsIntPost b r w (.returned v) w' := by
  have hrep := ownsRow_rep1 (K := (kInt .i64)) (A := fun g => w.heap.size ≤ g ∧ g < w'.heap.size) rfl (fun x => .int .i64 x) h (fun x hx => intRep x (hw x hx)) fun g hg => h.lt g hg
  obtain ⟨a, c, e, _⟩ := slice_open hrep
  subst e
  exact ⟨_, _, _, rfl, by rw [ho]; exact hrep, hr, u⟩
theorem itemsInt_nil {b : Nat} {r : RS} {w w' : World} (ho : (itemsF intF r).1 = []) (hr : RdAt w' b (itemsF intF r).2) (u : Upd (· = b) w w') : ItemsIntPost b r w (.returned (.slice none 0 0)) w' :=
  ⟨_, _, _, rfl, by rw [ho]; exact .inl ⟨none, 0, rfl, Nat.zero_le _, rfl⟩, hr, u⟩

set_option maxHeartbeats 2000000 in
set_option maxRecDepth 100000 in
theorem itemsInt_any (b : Nat) (r : RS) (w : World) (E : Env w) (h : RdAt w b r) (hb : 6 ≤ b) (hl : r.rest.length ≤ 10000000) (hok : r.Ok) :
    Calls Tryz.prog 101 #[.pointer (some ⟨b, 0, none⟩), .func (.func 46) #[.pointer (some ⟨b, 0, none⟩)] #[]] w (ItemsIntPost b r w) := by
  have HR := hid h; have HE := hid E
  have hge := numberF_ge 91 r
  have hlen := numberF_len 91 0 r
  have hi := numberF_i64 91 0 r
  have HO := hid (numberF_ok 91 0 hok)
  have hbl := heap_lt h
  have HIF := hid (show itemsF intF r = (if (closeF 93 (itemsL intF (numberF 91 0 r).1.toNat (numberF 91 0 r).2 []).2).bad then ([], closeF 93 (itemsL intF (numberF 91 0 r).1.toNat (numberF 91 0 r).2 []).2)
    else ((itemsL intF (numberF 91 0 r).1.toNat (numberF 91 0 r).2 []).1, closeF 93 (itemsL intF (numberF 91 0 r).1.toNat (numberF 91 0 r).2 []).2)) from rfl)
  have eg : ∀ args w, (callFunc 46 args).run Tryz.prog w = .ok (.enter 46 args) w := enters_of Tryz.func46 (by kernel_rfl) rfl
  clear h E hok
  go_enter Tryz.func101, Tryz.ntmps101
  go_wp2_with fail
  refine (number_at b r 91 0 91 _ (by decide) HE.out HR.out hb hl (by unfold I64; omega)).mono ?_
  rintro e w1 ⟨rfl, hr, u⟩
  have HQ := hid hr; have U := hid u
  clear hr u
  generalize (numberF 91 0 r).1 = n at *
  generalize (numberF 91 0 r).2 = r1 at *
  obtain ⟨n0, rfl⟩ := Int.eq_ofNat_of_zero_le hge
  rw [Int.toNat_natCast] at HIF
  have hn9 : (n0 : Int) ≤ 9223372036854775807 := hi.2
  have HN9 := hid hn9
  clear hi hn9
  have HBL := hid hbl; clear hbl
  go_wp2_with fail
  go_loopg [5, 6] n0 (fun gg s5 s6 wr => ∃ (m : Nat) (rc : RS) (out : List Int), gg = m ∧ m ≤ n0 ∧ s6 = .int .i64 m ∧ RdAt wr b rc ∧ wr.ownsRow w.heap.size 3 1 s5 out.length (out.map fun x => .int .i64 x) ∧ itemsL intF m rc out = itemsL intF n0 r1 [] ∧ rc.Ok ∧ (rc.rest.length ≤ 10000000 ∧ out.length + rc.rest.length ≤ 10000001 ∧ (rc.bad = false → out.length + rc.rest.length ≤ 10000000)) ∧ (∀ x ∈ out, I64 x) ∧ Upd (· = b) w wr)
  case atStart => exact ⟨n0, r1, [], rfl, Nat.le_refl _, rfl, HQ.out, World.ownsRow_nil _ _ _ _, rfl, HO.out, ⟨by omega, by simp; omega, fun _ => by simp; omega⟩, fun x hx => (List.not_mem_nil hx).elim, U.out⟩
  case round =>
    clear HQ U HO
    obtain ⟨m, rc, out, hg, hm, rfl, hr, hown, htot, hok, hbd, hwf, u⟩ := hrel
    have HG := hid hg; have HRC := hid hr; have OWN := hid hown; have TOT := hid htot; have OK := hid hok; have BD := hid hbd; have WF := hid hwf; have U := hid u
    have hm9 : (m : Int) ≤ 9223372036854775807 := by have := HN9.out; omega
    obtain ⟨c0, c1, hf⟩ := cells2 hr
    clear hg hr hown htot hok hbd hwf u
    have stop : itemsL intF m rc out = (out, rc) → itemsF intF r = (if (closeF 93 rc).bad then ([], closeF 93 rc) else (out, closeF 93 rc)) := fun h => by
      rw [HIF.out, ← TOT.out, h]
    have STOP := hid stop
    clear stop
    by_cases hgo : 0 < m ∧ rc.bad = false
    · obtain ⟨m', rfl⟩ : ∃ m', m = m' + 1 := ⟨m - 1, by omega⟩
      have hb2 := hgo.2
      have hstep : itemsL intF (m' + 1) rc out = itemsL intF m' (intF rc).2 (out ++ [(intF rc).1]) := by rw [itemsL, if_neg (by rw [hb2]; decide)]
      have HSTEP := hid (hstep.symm.trans TOT.out)
      rw [hb2] at c1
      have hmi : (0 : Int) < ((m' + 1 : Nat) : Int) := by omega
      have hb3 := BD.out.2.2 hb2
      have e1 : (((m' + 1 : Nat) : Int) - 1) = m' := by omega
      have hl1 := BD.out.1
      have olen := intF_len rc
      have ovok := intF_vok rc hl1
      have oent := fun h => intF_nil rc h
      have HB3 := hid hb3; have HL1 := hid hl1; have OLEN := hid olen; have OVOK := hid ovok; have OENT := hid oent
      clear hgo hb2 hstep hb3 hl1 olen ovok oent
      go_wp2_with fail
      refine (intR_any b rc _ (HE.out.keep U.out fun k hk => by omega) HRC.out hb HL1.out).mono ?_
      rintro e w3 ⟨rfl, hr, u⟩
      have own3 := owns_set OWN.out u fun k hk => by have := HBL.out; omega
      have U3 := hid (U.out.trans u); have HR3 := hid hr
      have hsz := (U.out.trans u).size
      obtain ⟨v', w4, r4, o4, u4, n4⟩ := append_one elemI own3 #[.int .i64 (intF rc).1] rfl (by simp [Value.oneCell']) (by have := HB3.out; unfold maxLen; omega) (by have := HB3.out; omega) hsz 22 (0, 0)
      have U4 := hid (U3.out.comp u4 fun i hi e => by have := (own3.lt i e).1; omega)
      have HR4 := hid (HR3.out.upd u4 fun e => by have := (own3.lt b e).1; have := HBL.out; omega)
      have O4 := hid o4
      clear hr u own3 hsz o4 u4 n4 c0 c1 hf
      go_wp2_with (at_builtin; refine wpList_append_run rfl _ _ _ _ rfl rfl rfl r4 ?_)
      go_roundg m'
      case measure => have := HG.out; omega
      case rel =>
        refine ⟨m', (intF rc).2, out ++ [(intF rc).1], rfl, by omega, by go_num, HR4.out, by rw [List.length_append, List.map_append]; exact O4.out, HSTEP.out, intF_ok OK.out, ⟨by have := OLEN.out; have := HL1.out; omega, ?_, ?_⟩, ?_, U4.out⟩
        · have := OLEN.out; have := HB3.out
          rw [List.length_append, List.length_singleton]; omega
        · intro hg2
          have := OLEN.out; have := HB3.out
          have hne : rc.rest ≠ [] := fun h => by have := OENT.out h; rw [hg2] at this; cases this
          have := List.length_pos_iff.2 hne
          rw [List.length_append, List.length_singleton]; omega
        · intro x hx
          rcases List.mem_append.1 hx with hx | hx
          · exact WF.out x hx
          · rw [List.mem_singleton] at hx; subst hx; exact OVOK.out
    · have hst : itemsL intF m rc out = (out, rc) := by
        cases m with
        | zero => rfl
        | succ m =>
          have : rc.bad = true := by
            cases hx : rc.bad
            · exact absurd ⟨Nat.succ_pos m, hx⟩ hgo
            · rfl
          exact itemsL_snoc intF _ _ _ this
      have HF := hid (STOP.out hst)
      clear hst STOP
      by_cases hm0 : 0 < m
      · have hbt : rc.bad = true := by
          cases hx : rc.bad
          · exact absurd ⟨hm0, hx⟩ hgo
          · rfl
        rw [hbt] at c1
        have hmi : (0 : Int) < (m : Int) := by omega
        clear hgo hbt hm0
        go_wp2_with fail
        clear c0 c1 hf
        refine (close_any b rc 93 _ HRC.out).mono ?_
        rintro e w2 ⟨rfl, hr, u⟩
        have O2 := hid (owns_set OWN.out u fun k hk => by have := HBL.out; omega); have HR2 := hid hr; have U2 := hid (U.out.trans u)
        clear hr u
        obtain ⟨c0, c1, hf⟩ := cells2 HR2.out
        cases hb2 : (closeF 93 rc).bad with
        | true =>
          have hF := HF.out
          rw [hb2, if_pos rfl] at hF
          have HF2 := hid hF
          rw [hb2] at c1
          clear hF hb2
          go_wp2_with fail
          go_ret
          exact itemsInt_nil (by rw [HF2.out]) (by rw [HF2.out]; exact HR2.out) U2.out
        | false =>
          have hF := HF.out
          rw [hb2, if_neg (by decide)] at hF
          have HF2 := hid hF
          have HB2 := hid hb2
          rw [hb2] at c1
          clear hF hb2
          go_wp2_with fail
          go_ret
          exact itemsInt_fin (by rw [HF2.out]; exact HB2.out) (by rw [HF2.out]) O2.out WF.out (by rw [HF2.out]; exact HR2.out) U2.out
      · obtain rfl : m = 0 := by omega
        clear hgo hm0
        go_wp2_with fail
        clear c0 c1 hf
        refine (close_any b rc 93 _ HRC.out).mono ?_
        rintro e w2 ⟨rfl, hr, u⟩
        have O2 := hid (owns_set OWN.out u fun k hk => by have := HBL.out; omega); have HR2 := hid hr; have U2 := hid (U.out.trans u)
        clear hr u
        obtain ⟨c0, c1, hf⟩ := cells2 HR2.out
        cases hb2 : (closeF 93 rc).bad with
        | true =>
          have hF := HF.out
          rw [hb2, if_pos rfl] at hF
          have HF2 := hid hF
          rw [hb2] at c1
          clear hF hb2
          go_wp2_with fail
          go_ret
          exact itemsInt_nil (by rw [HF2.out]) (by rw [HF2.out]; exact HR2.out) U2.out
        | false =>
          have hF := HF.out
          rw [hb2, if_neg (by decide)] at hF
          have HF2 := hid hF
          have HB2 := hid hb2
          rw [hb2] at c1
          clear hF hb2
          go_wp2_with fail
          go_ret
          exact itemsInt_fin (by rw [HF2.out]; exact HB2.out) (by rw [HF2.out]) O2.out WF.out (by rw [HF2.out]; exact HR2.out) U2.out

theorem numsR_any (b : Nat) (r : RS) (w : World) (E : Env w) (h : RdAt w b r) (hb : 6 ≤ b) (hl : r.rest.length ≤ 10000000) (hok : r.Ok) :
    Calls Tryz.prog 45 #[.pointer (some ⟨b, 0, none⟩)] w (ItemsIntPost b r w) := by
  have HR := hid h; have HE := hid E; have HO := hid hok
  clear h E hok
  go_enter Tryz.func45, Tryz.ntmps45
  go_wp2_with fail
  refine (itemsInt_any b r _ HE.out HR.out hb hl HO.out).mono ?_
  rintro e w1 ⟨a, n, c, rfl, h1, h2, h3⟩
  have HH := hid (show ItemsIntPost b r w (.returned (.slice a n c)) w1 from ⟨a, n, c, rfl, h1, h2, h3⟩)
  clear h1 h2 h3
  go_wp2_with fail
  go_ret
  exact HH.out

theorem strRep {A : Nat → Prop} {w : World} (x : (List UInt8)) (h : x.length ≤ 10000000) : (kMap kStr fun l : List UInt8 => ⟨l.toArray⟩).rep A w [.string ⟨x.toArray⟩] x := ⟨rfl, by show (ByteArray.mk x.toArray).size ≤ maxLen; simp [ByteArray.size]; unfold maxLen; omega⟩
def ItemsTextPost (b : Nat) (r : RS) (w : World) (e : Ending) (w' : World) : Prop :=
  ∃ a n c, e = .returned (.slice a n c) ∧ kStrs.rep (fun g => w.heap.size ≤ g ∧ g < w'.heap.size) w' [.slice a n c] (itemsF textF r).1 ∧ RdAt w' b (itemsF textF r).2 ∧ Upd (· = b) w w'
theorem itemsText_fin {b : Nat} {r : RS} {w w' : World} {v : Value} {out : List (List UInt8)} (hbad : (itemsF textF r).2.bad = false) (ho : (itemsF textF r).1 = out) (h : w'.ownsRow w.heap.size 9 1 v out.length (out.map fun x => .string ⟨x.toArray⟩)) (hw : ∀ x ∈ out, x.length ≤ 10000000) (hr : RdAt w' b (itemsF textF r).2) (u : Upd (· = b) w w') : ItemsTextPost b r w (.returned v) w' := by
  have hrep := ownsRow_rep1 (K := (kMap kStr fun l : List UInt8 => ⟨l.toArray⟩)) (A := fun g => w.heap.size ≤ g ∧ g < w'.heap.size) rfl (fun x => .string ⟨x.toArray⟩) h (fun x hx => strRep x (hw x hx)) fun g hg => h.lt g hg
  obtain ⟨a, c, e, _⟩ := slice_open hrep
  subst e
  exact ⟨_, _, _, rfl, by rw [ho]; exact hrep, hr, u⟩
theorem itemsText_nil {b : Nat} {r : RS} {w w' : World} (ho : (itemsF textF r).1 = []) (hr : RdAt w' b (itemsF textF r).2) (u : Upd (· = b) w w') : ItemsTextPost b r w (.returned (.slice none 0 0)) w' :=
  ⟨_, _, _, rfl, by rw [ho]; exact .inl ⟨none, 0, rfl, Nat.zero_le _, rfl⟩, hr, u⟩

end Go.Proofs.YtdcahnkcnbhknaaGreatDoor
