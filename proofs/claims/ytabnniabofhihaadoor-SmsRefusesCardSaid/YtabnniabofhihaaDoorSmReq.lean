/- sms.request reads a request. -/
import Derived.Test.YtabnniabofhihaaDoorSmSplit
namespace Go.Proofs.YtabnniabofhihaaDoor
open Go.RowKit Go.Deep

theorem upB_iff : ∀ (l : List Int), upB l = true ↔ ∀ j (h : j + 1 < l.length), l[j] < l[j + 1]
  | [] => ⟨fun _ j h => absurd h (Nat.not_lt_zero _), fun _ => rfl⟩
  | [a] => ⟨fun _ j h => by simp at h, fun _ => rfl⟩
  | a :: b :: r => by
    unfold upB
    rw [Bool.and_eq_true, decide_eq_true_eq, upB_iff (b :: r)]
    constructor
    · rintro ⟨h1, h2⟩ j h
      cases j with
      | zero => exact h1
      | succ j => exact h2 j (by simpa using h)
    · intro h
      exact ⟨h 0 (by simp), fun j hj => h (j + 1) (by simpa using hj)⟩
theorem last_at {l : List Int} {m : Nat} (h : l.length = m + 1) : l.getLastD 0 = l[m]'(by omega) := by
  cases l with
  | nil => cases h
  | cons a r =>
    have : (a :: r).length = m + 1 := h
    rw [List.getLastD_cons, List.getLastD_eq_getLast?, List.getLast?_eq_getElem?]
    cases r with
    | nil =>
      obtain rfl : m = 0 := by simpa using this
      rfl
    | cons b r =>
      simp only [List.length_cons, Nat.add_sub_cancel] at this ⊢
      obtain rfl : m = r.length + 1 := by omega
      simp
theorem ints_i64' {A : Nat → Prop} {w : World} {v : Value} {l : List Int} (h : kInts.rep A w [v] l) : ∀ x ∈ l, I64 x := by
  intro x hx
  obtain ⟨j, hj, rfl⟩ := List.mem_iff_getElem.1 hx
  obtain ⟨a, cap, rfl, _, _, h3⟩ := slice_open h
  obtain ⟨b, o, _, _, hel⟩ := h3 (by omega)
  obtain ⟨cs, h1, _⟩ := hel.cell hj
  exact wfi h1.2
def RqPost (s : Bs) (w : World) (e : Ending) (w' : World) : Prop :=
  Upd (fun _ => False) w w' ∧ ((requestF s = none ∧ ∃ a v, e = .returned (.tuple #[a, v, .bool false])) ∨
    (∃ n l a c, requestF s = some (n, l) ∧ e = .returned (.tuple #[.int .i64 n, .slice a l.length c, .bool true]) ∧ kInts.rep (Fresh w w') w' [.slice a l.length c] l))
set_option maxRecDepth 100000 in
set_option maxHeartbeats 4000000 in
theorem request_any (s : Bs) (w : World) (E : Env w) (hz : 6 ≤ w.heap.size) (hl : s.length ≤ 10000000) : Calls Tryd.prog 30 #[.string ⟨s.toArray⟩] w (RqPost s w) := by
  have HE := hid E; have HL := hid hl; have HZ := hid hz
  have l1 : (numF ⟨s, false⟩).2.rest.length ≤ s.length := Nat.le_trans (numberF_len _ _ _) (Nat.sub_le _ _)
  have i1 := numberF_i64 59 0 ⟨s, false⟩
  change I64 (numF ⟨s, false⟩).1 at i1
  have hn0 := numF_ge ⟨s, false⟩
  have ok1 : (numF ⟨s, false⟩).2.Ok := numF_ok (fun h => by cases h)
  have hg1 := numF_good (r := ⟨s, false⟩)
  have hrq : requestF s = if ReqOk s (numF ⟨s, false⟩).1 (numsF (numF ⟨s, false⟩).2).1 (numsF (numF ⟨s, false⟩).2).2 then some ((numF ⟨s, false⟩).1, (numsF (numF ⟨s, false⟩).2).1) else none := rfl
  obtain ⟨a, ha⟩ : ∃ x, (numF ⟨s, false⟩) = x := ⟨_, rfl⟩
  rw [ha] at l1 i1 ok1 hrq hg1 hn0
  have hg2 := numsF_good (r := a.2)
  obtain ⟨b, hb⟩ : ∃ x, itemsF intF a.2 = x := ⟨_, rfl⟩
  change itemsF intF a.2 = b at hb
  have hb2 : numsF a.2 = b := hb
  rw [hb2] at hrq hg2
  obtain ⟨n, r1⟩ := a; obtain ⟨l, rest2, bad2⟩ := b
  dsimp only at *
  have HRQ := hid hrq
  have no : ¬ ReqOk s n l ⟨rest2, bad2⟩ → requestF s = none := fun h => by rw [HRQ.out, if_neg h]
  have yes : ReqOk s n l ⟨rest2, bad2⟩ → requestF s = some (n, l) := fun h => by rw [HRQ.out, if_pos h]
  have L1 := hid (show r1.rest.length ≤ 10000000 by omega); have L1S := hid l1
  have HA := hid ha; have HB := hid hb; have I1 := hid i1; have OK1 := hid ok1; have NO := hid no; have YES := hid yes; have HN0 := hid hn0; have HG2 := hid hg2
  have hm := maxMark_eq
  have HM := hid hm
  clear E hl hz l1 ha hb hb2 i1 ok1 hrq no yes hg1 hn0 hg2 hm

  have hdn : doneF ⟨rest2, bad2⟩ = true ↔ bad2 = false ∧ rest2 = [] := by
    unfold doneF
    cases bad2 <;> cases rest2 <;> simp
  have HDN := hid hdn
  clear hdn
  cases hd : doneF ⟨rest2, bad2⟩ with
  | false =>
    have DN := hid hd
    have W := hid (show ¬ ReqOk s n l ⟨rest2, bad2⟩ from fun h => by have := HDN.out.2 ⟨h.1, h.2.1⟩; rw [DN.out] at this; cases this)
    clear hd
    go_enter Tryd.func30, Tryd.ntmps30
    go_wp2_with fail
    refine (open_any s w).mono ?_
    rintro e w1 ⟨rfl, hr, u⟩
    have U1 := hid u
    obtain ⟨pb, hpb⟩ : ∃ x, w.heap.size = x := ⟨_, rfl⟩
    have HPB := hid hpb
    rw [hpb] at hr ⊢
    have R1 := hid hr
    clear hpb hr u
    go_wp2_with fail
    refine (numR_any pb ⟨s, false⟩ _ (HE.out.keep0 U1.out) R1.out (by have := HZ.out; have := HPB.out; omega) HL.out).mono ?_
    rintro e w2 ⟨rfl, hr, u⟩
    rw [HA.out] at hr ⊢
    have R2 := hid hr; have U2 := hid (U1.out.comp u fun i hi e => by have := HPB.out; omega)
    clear hr u
    go_wp2_with fail
    refine (numsR_any pb r1 _ (HE.out.keep0 U2.out) R2.out (by have := HZ.out; have := HPB.out; omega) L1.out OK1.out).mono ?_
    rintro e w3 ⟨a, k, c, rfl, hrep, hr, u⟩
    rw [HB.out] at hr hrep
    obtain ⟨a', c', he, hp1, hp2, _⟩ := slice_open hrep
    injection he with e1 e2 e3
    subst e1 e2 e3
    have hp2 : c ≤ 9223372036854775807 := hp2
    have R3 := hid hr; have U3 := hid (U2.out.comp u fun i hi e => by have := HPB.out; omega)
    have REP := hid (show kInts.rep (Fresh w w3) w3 [.slice a l.length c] l from kInts.mono hrep fun g hg => ⟨Nat.le_trans U2.out.size hg.1, hg.2⟩)
    clear hr u hrep
    dsimp only
    go_wp2_with fail
    refine (done_any pb ⟨rest2, bad2⟩ _ R3.out).mono ?_
    rintro e w4 ⟨rfl, hw⟩
    subst hw
    rw [show doneF ⟨rest2, bad2⟩ = false from DN.out]
    go_wp2_with fail
    go_ret3
    exact ⟨U3.out, .inl ⟨NO.out W.out, _, _, rfl⟩⟩
  | true =>
  have DN := hid hd
  clear hd
  by_cases t1 : s.length ≤ 140
  case neg =>
    have W := hid (show ¬ ReqOk s n l ⟨rest2, bad2⟩ from fun h => t1 h.2.2.1)
    have t1c : 140 < s.length := by omega
    have t1d : (140 : Int) < s.length := by omega
    go_enter Tryd.func30, Tryd.ntmps30
    go_wp2_with fail
    refine (open_any s w).mono ?_
    rintro e w1 ⟨rfl, hr, u⟩
    have U1 := hid u
    obtain ⟨pb, hpb⟩ : ∃ x, w.heap.size = x := ⟨_, rfl⟩
    have HPB := hid hpb
    rw [hpb] at hr ⊢
    have R1 := hid hr
    clear hpb hr u
    go_wp2_with fail
    refine (numR_any pb ⟨s, false⟩ _ (HE.out.keep0 U1.out) R1.out (by have := HZ.out; have := HPB.out; omega) HL.out).mono ?_
    rintro e w2 ⟨rfl, hr, u⟩
    rw [HA.out] at hr ⊢
    have R2 := hid hr; have U2 := hid (U1.out.comp u fun i hi e => by have := HPB.out; omega)
    clear hr u
    go_wp2_with fail
    refine (numsR_any pb r1 _ (HE.out.keep0 U2.out) R2.out (by have := HZ.out; have := HPB.out; omega) L1.out OK1.out).mono ?_
    rintro e w3 ⟨a, k, c, rfl, hrep, hr, u⟩
    rw [HB.out] at hr hrep
    obtain ⟨a', c', he, hp1, hp2, _⟩ := slice_open hrep
    injection he with e1 e2 e3
    subst e1 e2 e3
    have hp2 : c ≤ 9223372036854775807 := hp2
    have R3 := hid hr; have U3 := hid (U2.out.comp u fun i hi e => by have := HPB.out; omega)
    have REP := hid (show kInts.rep (Fresh w w3) w3 [.slice a l.length c] l from kInts.mono hrep fun g hg => ⟨Nat.le_trans U2.out.size hg.1, hg.2⟩)
    clear hr u hrep
    dsimp only
    go_wp2_with fail
    refine (done_any pb ⟨rest2, bad2⟩ _ R3.out).mono ?_
    rintro e w4 ⟨rfl, hw⟩
    subst hw
    rw [show doneF ⟨rest2, bad2⟩ = true from DN.out]
    go_wp2_with fail
    go_ret3
    exact ⟨U3.out, .inl ⟨NO.out W.out, _, _, rfl⟩⟩
  have t1c : decide (140 < s.length) = false := decide_eq_false (by omega)
  have t1d : decide ((140 : Int) < s.length) = false := decide_eq_false (by omega)
  by_cases t2 : n ≤ 1073741824
  case neg =>
    have W := hid (show ¬ ReqOk s n l ⟨rest2, bad2⟩ from fun h => t2 (by have h1 := h.2.2.2.1; have := HM.out; omega))
    have t2c : 1073741824 < n := by omega
    go_enter Tryd.func30, Tryd.ntmps30
    go_wp2_with fail
    refine (open_any s w).mono ?_
    rintro e w1 ⟨rfl, hr, u⟩
    have U1 := hid u
    obtain ⟨pb, hpb⟩ : ∃ x, w.heap.size = x := ⟨_, rfl⟩
    have HPB := hid hpb
    rw [hpb] at hr ⊢
    have R1 := hid hr
    clear hpb hr u
    go_wp2_with fail
    refine (numR_any pb ⟨s, false⟩ _ (HE.out.keep0 U1.out) R1.out (by have := HZ.out; have := HPB.out; omega) HL.out).mono ?_
    rintro e w2 ⟨rfl, hr, u⟩
    rw [HA.out] at hr ⊢
    have R2 := hid hr; have U2 := hid (U1.out.comp u fun i hi e => by have := HPB.out; omega)
    clear hr u
    go_wp2_with fail
    refine (numsR_any pb r1 _ (HE.out.keep0 U2.out) R2.out (by have := HZ.out; have := HPB.out; omega) L1.out OK1.out).mono ?_
    rintro e w3 ⟨a, k, c, rfl, hrep, hr, u⟩
    rw [HB.out] at hr hrep
    obtain ⟨a', c', he, hp1, hp2, _⟩ := slice_open hrep
    injection he with e1 e2 e3
    subst e1 e2 e3
    have hp2 : c ≤ 9223372036854775807 := hp2
    have R3 := hid hr; have U3 := hid (U2.out.comp u fun i hi e => by have := HPB.out; omega)
    have REP := hid (show kInts.rep (Fresh w w3) w3 [.slice a l.length c] l from kInts.mono hrep fun g hg => ⟨Nat.le_trans U2.out.size hg.1, hg.2⟩)
    clear hr u hrep
    dsimp only
    go_wp2_with fail
    refine (done_any pb ⟨rest2, bad2⟩ _ R3.out).mono ?_
    rintro e w4 ⟨rfl, hw⟩
    subst hw
    rw [show doneF ⟨rest2, bad2⟩ = true from DN.out]
    go_wp2_with fail
    go_ret3
    exact ⟨U3.out, .inl ⟨NO.out W.out, _, _, rfl⟩⟩
  have t2c : decide (1073741824 < n) = false := decide_eq_false (by omega)
  by_cases t3 : l ≠ []
  case neg =>
    have W := hid (show ¬ ReqOk s n l ⟨rest2, bad2⟩ from fun h => t3 h.2.2.2.2.1)
    have t3e : l = [] := Classical.byContradiction t3
    have t3z : ((l.length : Int) == 0) = true := by rw [t3e]; rfl
    have t3y : (l.length == 0) = true := by rw [t3e]; rfl
    clear t3 t3e
    go_enter Tryd.func30, Tryd.ntmps30
    go_wp2_with fail
    refine (open_any s w).mono ?_
    rintro e w1 ⟨rfl, hr, u⟩
    have U1 := hid u
    obtain ⟨pb, hpb⟩ : ∃ x, w.heap.size = x := ⟨_, rfl⟩
    have HPB := hid hpb
    rw [hpb] at hr ⊢
    have R1 := hid hr
    clear hpb hr u
    go_wp2_with fail
    refine (numR_any pb ⟨s, false⟩ _ (HE.out.keep0 U1.out) R1.out (by have := HZ.out; have := HPB.out; omega) HL.out).mono ?_
    rintro e w2 ⟨rfl, hr, u⟩
    rw [HA.out] at hr ⊢
    have R2 := hid hr; have U2 := hid (U1.out.comp u fun i hi e => by have := HPB.out; omega)
    clear hr u
    go_wp2_with fail
    refine (numsR_any pb r1 _ (HE.out.keep0 U2.out) R2.out (by have := HZ.out; have := HPB.out; omega) L1.out OK1.out).mono ?_
    rintro e w3 ⟨a, k, c, rfl, hrep, hr, u⟩
    rw [HB.out] at hr hrep
    obtain ⟨a', c', he, hp1, hp2, _⟩ := slice_open hrep
    injection he with e1 e2 e3
    subst e1 e2 e3
    have hp2 : c ≤ 9223372036854775807 := hp2
    have R3 := hid hr; have U3 := hid (U2.out.comp u fun i hi e => by have := HPB.out; omega)
    have REP := hid (show kInts.rep (Fresh w w3) w3 [.slice a l.length c] l from kInts.mono hrep fun g hg => ⟨Nat.le_trans U2.out.size hg.1, hg.2⟩)
    clear hr u hrep
    dsimp only
    go_wp2_with fail
    refine (done_any pb ⟨rest2, bad2⟩ _ R3.out).mono ?_
    rintro e w4 ⟨rfl, hw⟩
    subst hw
    rw [show doneF ⟨rest2, bad2⟩ = true from DN.out]
    go_wp2_with fail
    go_ret3
    exact ⟨U3.out, .inl ⟨NO.out W.out, _, _, rfl⟩⟩
  have t3p : 0 < l.length := List.length_pos_iff.2 t3
  have t3b : ((l.length : Int) == 0) = false := beq_eq_false_iff_ne.2 (by omega)
  have t3c : (l.length == 0) = false := beq_eq_false_iff_ne.2 (by omega)
  by_cases t4 : l.length % 2 = 0
  case neg =>
    have W := hid (show ¬ ReqOk s n l ⟨rest2, bad2⟩ from fun h => t4 h.2.2.2.2.2.1)
    have t4c : (l.length : Int) % 2 = 1 := by omega
    have t4d : l.length % 2 = 1 := by omega
    go_enter Tryd.func30, Tryd.ntmps30
    go_wp2_with fail
    refine (open_any s w).mono ?_
    rintro e w1 ⟨rfl, hr, u⟩
    have U1 := hid u
    obtain ⟨pb, hpb⟩ : ∃ x, w.heap.size = x := ⟨_, rfl⟩
    have HPB := hid hpb
    rw [hpb] at hr ⊢
    have R1 := hid hr
    clear hpb hr u
    go_wp2_with fail
    refine (numR_any pb ⟨s, false⟩ _ (HE.out.keep0 U1.out) R1.out (by have := HZ.out; have := HPB.out; omega) HL.out).mono ?_
    rintro e w2 ⟨rfl, hr, u⟩
    rw [HA.out] at hr ⊢
    have R2 := hid hr; have U2 := hid (U1.out.comp u fun i hi e => by have := HPB.out; omega)
    clear hr u
    go_wp2_with fail
    refine (numsR_any pb r1 _ (HE.out.keep0 U2.out) R2.out (by have := HZ.out; have := HPB.out; omega) L1.out OK1.out).mono ?_
    rintro e w3 ⟨a, k, c, rfl, hrep, hr, u⟩
    rw [HB.out] at hr hrep
    obtain ⟨a', c', he, hp1, hp2, _⟩ := slice_open hrep
    injection he with e1 e2 e3
    subst e1 e2 e3
    have hp2 : c ≤ 9223372036854775807 := hp2
    have R3 := hid hr; have U3 := hid (U2.out.comp u fun i hi e => by have := HPB.out; omega)
    have REP := hid (show kInts.rep (Fresh w w3) w3 [.slice a l.length c] l from kInts.mono hrep fun g hg => ⟨Nat.le_trans U2.out.size hg.1, hg.2⟩)
    clear hr u hrep
    dsimp only
    go_wp2_with fail
    refine (done_any pb ⟨rest2, bad2⟩ _ R3.out).mono ?_
    rintro e w4 ⟨rfl, hw⟩
    subst hw
    rw [show doneF ⟨rest2, bad2⟩ = true from DN.out]
    go_wp2_with fail
    go_ret3
    exact ⟨U3.out, .inl ⟨NO.out W.out, _, _, rfl⟩⟩
  have t4c : (l.length : Int) % 2 = 0 := by omega
  obtain ⟨m, hmm⟩ : ∃ m, l.length = m + 1 := ⟨l.length - 1, by omega⟩
  have hml : m < l.length := by omega
  have hmi : (l.length : Int) - 1 = m := by omega
  have hmi2 : (m : Int) < l.length := by omega
  have hla : l.getLastD 0 = l[m]'hml := last_at hmm
  have HLA := hid hla
  clear hla hmm
  by_cases t5 : l[m] ≤ 2500
  case neg =>
    have W := hid (show ¬ ReqOk s n l ⟨rest2, bad2⟩ from fun h => t5 (by have h1 := h.2.2.2.2.2.2.1; rw [HLA.out] at h1; exact h1))
    have t5c : 2500 < l[m] := by omega
    clear t3 t4
    go_enter Tryd.func30, Tryd.ntmps30
    go_wp2_with fail
    refine (open_any s w).mono ?_
    rintro e w1 ⟨rfl, hr, u⟩
    have U1 := hid u
    obtain ⟨pb, hpb⟩ : ∃ x, w.heap.size = x := ⟨_, rfl⟩
    have HPB := hid hpb
    rw [hpb] at hr ⊢
    have R1 := hid hr
    clear hpb hr u
    go_wp2_with fail
    refine (numR_any pb ⟨s, false⟩ _ (HE.out.keep0 U1.out) R1.out (by have := HZ.out; have := HPB.out; omega) HL.out).mono ?_
    rintro e w2 ⟨rfl, hr, u⟩
    rw [HA.out] at hr ⊢
    have R2 := hid hr; have U2 := hid (U1.out.comp u fun i hi e => by have := HPB.out; omega)
    clear hr u
    go_wp2_with fail
    refine (numsR_any pb r1 _ (HE.out.keep0 U2.out) R2.out (by have := HZ.out; have := HPB.out; omega) L1.out OK1.out).mono ?_
    rintro e w3 ⟨a, k, c, rfl, hrep, hr, u⟩
    rw [HB.out] at hr hrep
    obtain ⟨a', c', he, hp1, hp2, _⟩ := slice_open hrep
    injection he with e1 e2 e3
    subst e1 e2 e3
    have hp2 : c ≤ 9223372036854775807 := hp2
    have R3 := hid hr; have U3 := hid (U2.out.comp u fun i hi e => by have := HPB.out; omega)
    have REP := hid (show kInts.rep (Fresh w w3) w3 [.slice a l.length c] l from kInts.mono hrep fun g hg => ⟨Nat.le_trans U2.out.size hg.1, hg.2⟩)
    clear hr u hrep
    dsimp only
    go_wp2_with fail
    refine (done_any pb ⟨rest2, bad2⟩ _ R3.out).mono ?_
    rintro e w4 ⟨rfl, hw⟩
    subst hw
    rw [show doneF ⟨rest2, bad2⟩ = true from DN.out]
    obtain ⟨gb, go, ra, hgb, hel⟩ := slice_at REP.out (by omega)
    subst ra
    have cm := int_cells hel hml
    have HEL := hid hel
    clear hel
    go_wp2_with fail
    go_ret3
    exact ⟨U3.out, .inl ⟨NO.out W.out, _, _, rfl⟩⟩
  have t5c : decide (2500 < l[m]) = false := decide_eq_false (by omega)
  have T := hid (And.intro t1 (And.intro t2 (And.intro t3 (And.intro t4 t5))))
  clear t1 t2 t3 t4 t5
  go_enter Tryd.func30, Tryd.ntmps30
  go_wp2_with fail
  refine (open_any s w).mono ?_
  rintro e w1 ⟨rfl, hr, u⟩
  have U1 := hid u
  obtain ⟨pb, hpb⟩ : ∃ x, w.heap.size = x := ⟨_, rfl⟩
  have HPB := hid hpb
  rw [hpb] at hr ⊢
  have R1 := hid hr
  clear hpb hr u
  go_wp2_with fail
  refine (numR_any pb ⟨s, false⟩ _ (HE.out.keep0 U1.out) R1.out (by have := HZ.out; have := HPB.out; omega) HL.out).mono ?_
  rintro e w2 ⟨rfl, hr, u⟩
  rw [HA.out] at hr ⊢
  have R2 := hid hr; have U2 := hid (U1.out.comp u fun i hi e => by have := HPB.out; omega)
  clear hr u
  go_wp2_with fail
  refine (numsR_any pb r1 _ (HE.out.keep0 U2.out) R2.out (by have := HZ.out; have := HPB.out; omega) L1.out OK1.out).mono ?_
  rintro e w3 ⟨a, k, c, rfl, hrep, hr, u⟩
  rw [HB.out] at hr hrep
  obtain ⟨a', c', he, hp1, hp2, _⟩ := slice_open hrep
  injection he with e1 e2 e3
  subst e1 e2 e3
  have hp2 : c ≤ 9223372036854775807 := hp2
  have R3 := hid hr; have U3 := hid (U2.out.comp u fun i hi e => by have := HPB.out; omega)
  have REP := hid (show kInts.rep (Fresh w w3) w3 [.slice a l.length c] l from kInts.mono hrep fun g hg => ⟨Nat.le_trans U2.out.size hg.1, hg.2⟩)
  clear hr u hrep
  dsimp only
  go_wp2_with fail
  refine (done_any pb ⟨rest2, bad2⟩ _ R3.out).mono ?_
  rintro e w4 ⟨rfl, hw⟩
  subst hw
  rw [show doneF ⟨rest2, bad2⟩ = true from DN.out]
  obtain ⟨gb, go, ra, hgb, hel⟩ := slice_at REP.out (by omega)
  subst ra
  have cm := int_cells hel hml
  have HEL := hid hel
  clear hel
  go_wp2_with fail
  go_loopg [8] (l.length - 1) (fun gg s8 wr => ∃ i : Nat, 1 ≤ i ∧ i ≤ l.length ∧ gg = l.length - i ∧ s8 = .int .i64 i ∧ (∀ j (h : j + 1 < l.length), j + 1 < i → l[j] < l[j + 1]) ∧ Upd (fun _ => False) w3 wr)
  case atStart => exact ⟨1, Nat.le_refl _, by omega, rfl, rfl, fun j _ h => by omega, Upd.refl _ _⟩
  case round =>
    obtain ⟨i, hi1, hi2, hg, rfl, hup, u⟩ := hrel
    have HG := hid hg; have UP := hid hup; have U := hid u
    clear hg hup u cm
    by_cases hlt : i < l.length
    · have hlti : (i : Int) < l.length := by omega
      obtain ⟨j, hj⟩ : ∃ j, i = j + 1 := ⟨i - 1, by omega⟩
      have hji : (i : Int) - 1 = j := by omega
      have hjl : j < l.length := by omega
      have hjli : (j : Int) < l.length := by omega
      have c1 := cell_kept (int_cells HEL.out hlt) (U.out.block gb hgb.2 id)
      have c2 := cell_kept (int_cells HEL.out hjl) (U.out.block gb hgb.2 id)
      by_cases hle : l[i] ≤ l[j]
      · have W := hid (show ¬ ReqOk s n l ⟨rest2, bad2⟩ from fun h => by
          have h1 := (upB_iff l).1 h.2.2.2.2.2.2.2.1 j (by omega)
          have h2 : l[j + 1] = l[i] := by congr 1; omega
          omega)
        clear hj
        go_wp2_with fail
        go_quiet (fail)
        go_wp2_with fail
        go_ret3
        exact ⟨U3.out.trans (U.out.drewN _), .inl ⟨NO.out W.out, _, _, rfl⟩⟩
      · have hleb : decide (l[i] ≤ l[j]) = false := decide_eq_false hle
        have NXT := hid (show ∀ q (h : q + 1 < l.length), q + 1 < i + 1 → l[q] < l[q + 1] from fun q h hq => by
          by_cases hqi : q + 1 < i
          · exact UP.out q h hqi
          · have hqj : q = j := by omega
            subst hqj
            have h2 : l[q + 1] = l[i] := by congr 1; omega
            omega)
        clear hle hj
        go_wp2_with fail
        go_quiet (fail)
        go_wp2_with fail
        go_roundg (l.length - (i + 1))
        case measure => have := HG.out; omega
        case rel => exact ⟨i + 1, by omega, by omega, rfl, by go_num, NXT.out, U.out.drewN _⟩
    · obtain rfl : i = l.length := by omega
      have hupb : upB l = true := (upB_iff l).2 fun j h => UP.out j h h
      have HUP := hid hupb
      obtain ⟨g1, g2, g3⟩ := HG2.out (HDN.out.1 DN.out).1
      have hnl : (numsE l).length ≤ 140 := by
        have h1 := congrArg List.length g1
        rw [List.length_append] at h1
        have := T.out.1
        have := L1S.out
        omega
      have HNL := hid hnl
      have m1 := numE_len I1.out
      obtain ⟨pe, h4⟩ : ∃ x, numE n ++ numsE l = x := ⟨_, rfl⟩
      have HPE := hid h4
      have a1 : ∀ w, (Op.stringOp .add ⟨(numE n).toArray⟩ ⟨(numsE l).toArray⟩).run Tryd.prog w = .ok (.string ⟨pe.toArray⟩) w := fun w => by rw [add_lists _ _ (by omega), h4]
      have WF := hid (ints_i64' REP.out)
      clear hupb g1 g2 g3 hnl m1 h4
      have fin : ∀ (w' : World), Upd (fun _ => False) w3 w' → kInts.rep (Fresh w w') w' [.slice (some ⟨gb, go, none⟩) l.length c] l := fun w' u => kInts.mono (kInts.keep REP.out fun g hg hlt => u.block g hlt id) fun g hg => ⟨hg.1, Nat.lt_of_lt_of_le hg.2 u.size⟩
      have FIN := hid fin
      clear fin
      by_cases t6 : pe = s
      · have t6b : (pe == s) = true := beq_iff_eq.2 t6
        have W := hid (show ReqOk s n l ⟨rest2, bad2⟩ from ⟨(HDN.out.1 DN.out).1, (HDN.out.1 DN.out).2, T.out.1, by have := T.out.2.1; have := HM.out; omega, T.out.2.2.1, T.out.2.2.2.1, by rw [HLA.out]; exact T.out.2.2.2.2, HUP.out, by rw [HPE.out]; exact t6⟩)
        clear t6
        go_wp2_with fail
        refine (numE_any _ I1.out _ (HE.out.keep0 (U3.out.trans U.out))).mono ?_
        rintro e w5 ⟨rfl, u⟩
        have U5 := hid (U.out.trans u); clear u
        go_wp2_with fail
        refine (numsE_any _ l _ (HE.out.keep0 (U3.out.trans U5.out)) (kInts.mono (FIN.out _ U5.out) fun g hg => hg.2) WF.out (by have := HNL.out; unfold numsE at this; omega)).mono ?_
        rintro e w6 ⟨rfl, u⟩
        have U6 := hid (U5.out.trans u); clear u
        go_wp2_with fail
        go_ret3
        exact ⟨U3.out.trans U6.out, .inr ⟨n, l, _, _, YES.out W.out, rfl, FIN.out _ U6.out⟩⟩
      · have t6b : (pe == s) = false := beq_eq_false_iff_ne.2 t6
        have W := hid (show ¬ ReqOk s n l ⟨rest2, bad2⟩ from fun h => t6 (by rw [← HPE.out]; exact h.2.2.2.2.2.2.2.2))
        clear t6
        go_wp2_with fail
        refine (numE_any _ I1.out _ (HE.out.keep0 (U3.out.trans U.out))).mono ?_
        rintro e w5 ⟨rfl, u⟩
        have U5 := hid (U.out.trans u); clear u
        go_wp2_with fail
        refine (numsE_any _ l _ (HE.out.keep0 (U3.out.trans U5.out)) (kInts.mono (FIN.out _ U5.out) fun g hg => hg.2) WF.out (by have := HNL.out; unfold numsE at this; omega)).mono ?_
        rintro e w6 ⟨rfl, u⟩
        have U6 := hid (U5.out.trans u); clear u
        go_wp2_with fail
        go_ret3
        exact ⟨U3.out.trans U6.out, .inl ⟨NO.out W.out, _, _, rfl⟩⟩

end Go.Proofs.YtabnniabofhihaaDoor
