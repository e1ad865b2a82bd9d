/- The reference's reader: lists. -/
import Derived.Test.YtdcahnkcnbhknaaGreatDoorWrR5
import Derived.Test.YtdcahnkcnbhknaaGreatDoorWrC3
namespace Go.Proofs.YtdcahnkcnbhknaaGreatDoor
open Go.RowKit Go.Deep

def QIntPost (b : Nat) (r : RS) (w : World) (e : Ending) (w' : World) : Prop :=
  ∃ a n c, e = .returned (.slice a n c) ∧ kInts.rep (fun g => w.heap.size ≤ g ∧ g < w'.heap.size) w' [.slice a n c] (itemsF intF r).1 ∧ RqAt w' b (itemsF intF r).2 ∧ Upd (· = b) w w'
theorem qNumsR_fin {b : Nat} {r : RS} {w w' : World} {v : Value} {out : List Int} (ho : (itemsF intF r).1 = out) (h : w'.ownsRow w.heap.size 3 1 v out.length (out.map fun x => .int .i64 x)) (hw : ∀ x ∈ out, I64 x) (hr : RqAt w' b (itemsF intF r).2) (u : Upd (· = b) w w') : QIntPost b r w (.returned v) w' := by
  have hrep := ownsRow_rep1 (K := (kInt .i64)) (A := fun g => w.heap.size ≤ g ∧ g < w'.heap.size) rfl (fun x => .int .i64 x) h (fun x hx => intRep x (hw x hx)) fun g hg => h.lt g hg
  obtain ⟨a, c, e, _⟩ := slice_open hrep
  subst e
  exact ⟨_, _, _, rfl, by rw [ho]; exact hrep, hr, u⟩
theorem qNumsR_nil {b : Nat} {r : RS} {w w' : World} (ho : (itemsF intF r).1 = []) (hr : RqAt w' b (itemsF intF r).2) (u : Upd (· = b) w w') : QIntPost b r w (.returned (.slice none 0 0)) w' :=
  ⟨_, _, _, rfl, by rw [ho]; exact .inl ⟨none, 0, rfl, Nat.zero_le _, rfl⟩, hr, u⟩

set_option maxHeartbeats 2000000 in
set_option maxRecDepth 100000 in
theorem qNumsR_any (b : Nat) (r : RS) (w : World) (h : RqAt w b r) (hl : r.rest.length ≤ 10000000) (hok : r.Ok) :
    Calls Tryz.prog 52 #[.pointer (some ⟨b, 0, none⟩)] w (QIntPost b r w) := by
  have HR := hid h
  have hge := numberF_ge 91 r
  have hlen := numberF_len 91 0 r
  have hi := numberF_i64 91 0 r
  have HO := hid (numberF_ok 91 0 hok)
  have hbl := heap_lt h
  have HIF := hid (show itemsF intF r = (if (closeF 93 (itemsL intF (numberF 91 0 r).1.toNat (numberF 91 0 r).2 []).2).bad then ([], closeF 93 (itemsL intF (numberF 91 0 r).1.toNat (numberF 91 0 r).2 []).2)
    else ((itemsL intF (numberF 91 0 r).1.toNat (numberF 91 0 r).2 []).1, closeF 93 (itemsL intF (numberF 91 0 r).1.toNat (numberF 91 0 r).2 []).2)) from rfl)
  clear h hok
  go_enter Tryz.func52, Tryz.ntmps52
  go_wp2_with fail
  refine (qnumber_at b r 91 91 (by decide) end91 _ HR.out hl).mono ?_
  rintro e w1 ⟨rfl, hr, u⟩
  have HQ := hid hr; have U := hid u
  clear hr u
  generalize (numberF 91 0 r).1 = n at *
  generalize (numberF 91 0 r).2 = r1 at *
  obtain ⟨n0, rfl⟩ := Int.eq_ofNat_of_zero_le hge
  rw [Int.toNat_natCast] at HIF
  have hn9 : (n0 : Int) ≤ 9223372036854775807 := hi.2
  have HN9 := hid hn9
  clear hi hn9
  have HBL := hid hbl; clear hbl
  go_wp2_with fail
  go_loopg [4, 5] n0 (fun gg s4 s5 wr => ∃ (i m : Nat) (rc : RS) (out : List Int), i + m = n0 ∧ gg = m ∧ s5 = .int .i64 i ∧ RqAt wr b rc ∧ wr.ownsRow w.heap.size 3 1 s4 out.length (out.map fun x => .int .i64 x) ∧ itemsL intF m rc out = itemsL intF n0 r1 [] ∧ rc.Ok ∧ (rc.rest.length ≤ 10000000 ∧ out.length + rc.rest.length ≤ 10000001 ∧ (rc.bad = false → out.length + rc.rest.length ≤ 10000000)) ∧ (∀ x ∈ out, I64 x) ∧ Upd (· = b) w wr)
  case atStart => exact ⟨0, n0, r1, [], by omega, rfl, rfl, HQ.out, World.ownsRow_nil _ _ _ _, rfl, HO.out, ⟨by omega, by simp; omega, fun _ => by simp; omega⟩, fun x hx => (List.not_mem_nil hx).elim, U.out⟩
  case round =>
    clear HQ U HO
    obtain ⟨i, m, rc, out, him, hg, rfl, hr, hown, htot, hok, hbd, hwf, u⟩ := hrel
    have HG := hid hg; have HRC := hid hr; have OWN := hid hown; have TOT := hid htot; have OK := hid hok; have BD := hid hbd; have WF := hid hwf; have U := hid u; have HIM := hid him
    have hi9 : (i : Int) ≤ n0 := by omega
    obtain ⟨c0, c1, hf⟩ := cells2 hr
    clear hg hr hown htot hok hbd hwf u
    have stop : itemsL intF m rc out = (out, rc) → itemsF intF r = (if (closeF 93 rc).bad then ([], closeF 93 rc) else (out, closeF 93 rc)) := fun h => by
      rw [HIF.out, ← TOT.out, h]
    have STOP := hid stop
    clear stop
    cases hb2 : rc.bad with
    | true =>
      have hst : itemsL intF m rc out = (out, rc) := by
        cases m with
        | zero => rfl
        | succ m => exact itemsL_snoc intF _ _ _ hb2
      have hrc : rc = failS := by
        have := OK.out hb2
        cases rc
        dsimp only at this hb2
        subst this hb2; rfl
      have HF := hid (show itemsF intF r = ([], failS) by rw [STOP.out hst, hrc]; rfl)
      have HRF := hid (show RqAt wr b failS from hrc ▸ HRC.out)
      rw [hb2] at c1
      clear hst STOP hrc hb2
      by_cases hm : i < n0
      · have hmi : (i : Int) < n0 := by omega
        clear him
        go_wp2_with fail
        go_ret
        exact qNumsR_nil (by rw [HF.out]) (by rw [HF.out]; exact HRF.out) U.out
      · have hmi : (n0 : Int) ≤ i := by omega
        have hmb : decide ((i : Int) < n0) = false := decide_eq_false (by omega)
        have hmn : decide (i < n0) = false := decide_eq_false hm
        clear him hm
        go_wp2_with fail
        go_ret
        exact qNumsR_nil (by rw [HF.out]) (by rw [HF.out]; exact HRF.out) U.out
    | false =>
    have HB2 := hid hb2
    rw [hb2] at c1
    clear hb2
    by_cases hm : i < n0
    · obtain ⟨m', rfl⟩ : ∃ m', m = m' + 1 := ⟨m - 1, by omega⟩
      have hmi : (i : Int) < n0 := by omega
      have hstep : itemsL intF (m' + 1) rc out = itemsL intF m' (intF rc).2 (out ++ [(intF rc).1]) := by rw [itemsL, if_neg (by rw [HB2.out]; decide)]
      have HSTEP := hid (hstep.symm.trans TOT.out)
      have hb3 := BD.out.2.2 HB2.out
      have hl1 := BD.out.1
      have olen := intF_len rc
      have ovok := intF_vok rc hl1
      have oent := fun h => intF_nil rc h
      have HB3 := hid hb3; have HL1 := hid hl1; have OLEN := hid olen; have OVOK := hid ovok; have OENT := hid oent
      have hsum : (i : Int) + 1 ≤ 9223372036854775807 := by have := HN9.out; omega
      clear hm hstep hb3 hl1 olen ovok oent him STOP
      go_wp2_with fail
      refine (qIntR_any b rc _ HRC.out HL1.out).mono ?_
      rintro e w3 ⟨rfl, hr, u⟩
      have own3 := owns_set OWN.out u fun k hk => by have := HBL.out; omega
      have U3 := hid (U.out.trans u); have HR3 := hid hr
      have hsz := (U.out.trans u).size
      obtain ⟨v', w4, r4, o4, u4, n4⟩ := append_one elemI own3 #[.int .i64 (intF rc).1] rfl (by simp [Value.oneCell']) (by have := HB3.out; unfold maxLen; omega) (by have := HB3.out; omega) hsz 22 (0, 0)
      have U4 := hid (U3.out.comp u4 fun i hi e => by have := (own3.lt i e).1; omega)
      have HR4 := hid (HR3.out.upd u4 fun e => by have := (own3.lt b e).1; have := HBL.out; omega)
      have O4 := hid o4
      clear hr u own3 hsz o4 u4 n4 c0 c1 hf
      go_wp2_with (at_builtin; refine wpList_append_run rfl _ _ _ _ rfl rfl rfl r4 ?_)
      go_roundg m'
      case measure => have := HG.out; omega
      case rel =>
        refine ⟨i + 1, m', (intF rc).2, out ++ [(intF rc).1], by have := HIM.out; omega, rfl, by go_num, HR4.out, by rw [List.length_append, List.map_append]; exact O4.out, HSTEP.out, intF_ok OK.out, ⟨by have := OLEN.out; have := HL1.out; omega, ?_, ?_⟩, ?_, U4.out⟩
        · have := OLEN.out; have := HB3.out
          rw [List.length_append, List.length_singleton]; omega
        · intro hg2
          have := OLEN.out; have := HB3.out
          have hne : rc.rest ≠ [] := fun h => by have := OENT.out h; rw [hg2] at this; cases this
          have := List.length_pos_iff.2 hne
          rw [List.length_append, List.length_singleton]; omega
        · intro x hx
          rcases List.mem_append.1 hx with hx | hx
          · exact WF.out x hx
          · rw [List.mem_singleton] at hx; subst hx; exact OVOK.out
    · obtain rfl : m = 0 := by omega
      have HF := hid (STOP.out rfl)
      have hmi : (n0 : Int) ≤ i := by omega
      have hmb : decide ((i : Int) < n0) = false := decide_eq_false (by omega)
      have hmn : decide (i < n0) = false := decide_eq_false hm
      clear him hm STOP
      go_wp2_with fail
      refine (qclose_at b rc 93 93 (by decide) _ HRC.out HB2.out).mono ?_
      rintro e w2 ⟨rfl, hr, u⟩
      have O2 := hid (owns_set OWN.out u fun k hk => by have := HBL.out; omega); have HR2 := hid hr; have U2 := hid (U.out.trans u)
      clear hr u c0 c1 hf
      cases hb3 : (closeF 93 rc).bad with
      | true =>
        have hF := HF.out
        rw [hb3, if_pos rfl] at hF
        have HF2 := hid hF
        clear hF hb3
        go_wp2_with fail
        go_ret
        exact qNumsR_nil (by rw [HF2.out]) (by rw [HF2.out]; exact HR2.out) U2.out
      | false =>
        have hF := HF.out
        rw [hb3, if_neg (by decide)] at hF
        have HF2 := hid hF
        clear hF hb3
        go_wp2_with fail
        go_ret
        exact qNumsR_fin (by rw [HF2.out]) O2.out WF.out (by rw [HF2.out]; exact HR2.out) U2.out

def QTextPost (b : Nat) (r : RS) (w : World) (e : Ending) (w' : World) : Prop :=
  ∃ a n c, e = .returned (.slice a n c) ∧ kStrs.rep (fun g => w.heap.size ≤ g ∧ g < w'.heap.size) w' [.slice a n c] (itemsF textF r).1 ∧ RqAt w' b (itemsF textF r).2 ∧ Upd (· = b) w w'
theorem qTextsR_fin {b : Nat} {r : RS} {w w' : World} {v : Value} {out : List (List UInt8)} (ho : (itemsF textF r).1 = out) (h : w'.ownsRow w.heap.size 9 1 v out.length (out.map fun x => .string ⟨x.toArray⟩)) (hw : ∀ x ∈ out, x.length ≤ 10000000) (hr : RqAt w' b (itemsF textF r).2) (u : Upd (· = b) w w') : QTextPost b r w (.returned v) w' := by
  have hrep := ownsRow_rep1 (K := (kMap kStr fun l : List UInt8 => ⟨l.toArray⟩)) (A := fun g => w.heap.size ≤ g ∧ g < w'.heap.size) rfl (fun x => .string ⟨x.toArray⟩) h (fun x hx => strRep x (hw x hx)) fun g hg => h.lt g hg
  obtain ⟨a, c, e, _⟩ := slice_open hrep
  subst e
  exact ⟨_, _, _, rfl, by rw [ho]; exact hrep, hr, u⟩
theorem qTextsR_nil {b : Nat} {r : RS} {w w' : World} (ho : (itemsF textF r).1 = []) (hr : RqAt w' b (itemsF textF r).2) (u : Upd (· = b) w w') : QTextPost b r w (.returned (.slice none 0 0)) w' :=
  ⟨_, _, _, rfl, by rw [ho]; exact .inl ⟨none, 0, rfl, Nat.zero_le _, rfl⟩, hr, u⟩

end Go.Proofs.YtdcahnkcnbhknaaGreatDoor
