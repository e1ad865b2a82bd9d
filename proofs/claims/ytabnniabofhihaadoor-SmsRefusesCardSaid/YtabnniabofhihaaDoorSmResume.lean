/- sms.Resume returns the parts that a request asks for. -/
import Derived.Test.YtabnniabofhihaaDoorSmReq
namespace Go.Proofs.YtabnniabofhihaaDoor
open Go.RowKit Go.Deep

def fitAt (id : Int) (n i : Nat) (p : Bs) : Bool := match partF p with | some q => decide (q.id = id) && decide (q.index = (i : Int)) && decide (q.count = (n : Int)) | none => false
theorem fitB_iff (id : Int) (n : Nat) : ∀ (l : List Bs) (i : Nat), fitB id n i l = true ↔ ∀ j (h : j < l.length), fitAt id n (i + j) l[j] = true
  | [], i => ⟨fun _ j h => absurd h (Nat.not_lt_zero _), fun _ => rfl⟩
  | p :: r, i => by
    have e : fitB id n i (p :: r) = (fitAt id n i p && fitB id n (i + 1) r) := rfl
    rw [e, Bool.and_eq_true, fitB_iff id n r (i + 1)]
    constructor
    · rintro ⟨h1, h2⟩ j h
      cases j with
      | zero => exact h1
      | succ j =>
        have := h2 j (by simpa using h)
        rw [show i + 1 + j = i + (j + 1) by omega] at this
        exact this
    · intro h
      refine ⟨h 0 (by simp), fun j hj => ?_⟩
      have := h (j + 1) (by simpa using hj)
      rw [show i + (j + 1) = i + 1 + j by omega] at this
      exact this
theorem sel_snoc {α : Type} (parts : List α) (a b : Int) : ∀ (k : Nat) (p : List Int), p.length = 2 * k → sel parts (p ++ [a, b]) = sel parts p ++ (parts.drop a.toNat).take (b.toNat - a.toNat)
  | 0, p, h => by
    obtain rfl : p = [] := List.length_eq_zero_iff.1 (by omega)
    simp [sel]
  | k + 1, x :: y :: r, h => by
    have := sel_snoc parts a b k r (by simp at h; omega)
    show sel parts (x :: y :: (r ++ [a, b])) = _
    rw [sel, this, sel, List.append_assoc]
theorem sel_mem {α : Type} (parts : List α) : ∀ (l : List Int) {x : α}, x ∈ sel parts l → x ∈ parts
  | [], _, h => nomatch h
  | [_], _, h => nomatch h
  | a :: b :: r, x, h => by
    rw [sel] at h
    rcases List.mem_append.1 h with h | h
    · exact List.mem_of_mem_drop (List.mem_of_mem_take h)
    · exact sel_mem parts r h
theorem up_le {l : List Int} (h : ∀ q (h : q + 1 < l.length), l[q] < l[q + 1]) {i : Nat} : ∀ {m : Nat} (_ : i ≤ m) (hm : m < l.length), l[i]'(by omega) ≤ l[m]
  | 0, him, hm => by
    obtain rfl : i = 0 := by omega
    exact Int.le_refl _
  | m + 1, him, hm => by
    by_cases e : i = m + 1
    · subst e; exact Int.le_refl _
    · have h1 := up_le h (i := i) (m := m) (by omega) (by omega)
      have h2 := h m hm
      omega
def ResPost (l : List Bs) (ask : Bs) (w : World) (e : Ending) (w' : World) : Prop :=
  Upd (fun _ => False) w w' ∧ ∃ a n c, e = .returned (.tuple #[.slice a n c, .int .i64 (resumeF l ask).2]) ∧ kStrs.rep (Fresh w w') w' [.slice a n c] (resumeF l ask).1
theorem nil_strs {A : Nat → Prop} {w : World} : kStrs.rep A w [.slice none 0 0] ([] : List Bs) := .inl ⟨none, 0, rfl, Nat.zero_le _, rfl⟩
theorem strs_len {A : Nat → Prop} {w : World} {v : Value} {l : List Bs} (h : kStrs.rep A w [v] l) : ∀ x ∈ l, x.length ≤ maxLen := by
  intro x hx
  obtain ⟨j, hj, rfl⟩ := List.mem_iff_getElem.1 hx
  obtain ⟨a, cap, rfl, _, _, h3⟩ := slice_open h
  obtain ⟨b, o, _, _, hel⟩ := h3 (by omega)
  obtain ⟨cs, h1, _⟩ := hel.cell hj
  have h2 := h1.2
  have : (ByteArray.mk (l[j]).toArray).size ≤ maxLen := h2
  simpa [ByteArray.size] using this
theorem res_nil {l : List Bs} {ask : Bs} {w w' : World} {n : Int} (h : resumeF l ask = ([], n)) (u : Upd (fun _ => False) w w') : ResPost l ask w (.returned (.tuple #[.slice none 0 0, .int .i64 n])) w' :=
  ⟨u, none, 0, 0, by rw [h], by rw [h]; exact nil_strs⟩
set_option maxRecDepth 100000 in
set_option maxHeartbeats 4000000 in
theorem resume_any (v : Value) (l : List Bs) (ask : Bs) (w : World) (E : Env w) (hz : 6 ≤ w.heap.size) (hv : kStrs.rep (· < w.heap.size) w [v] l) (hl : ask.length ≤ 10000000) (hll : ∀ x ∈ l, x.length ≤ 10000000) (hlen : l.length ≤ 3000)
    (hnn : ∀ n rq, requestF ask = some (n, rq) → ∀ x ∈ rq, 0 ≤ x) : Calls Tryd.prog 17 #[v, .string ⟨ask.toArray⟩] w (ResPost l ask w) := by
  obtain ⟨va, vc, rfl, hp1, hp2, _⟩ := slice_open hv
  have hp2 : vc ≤ 9223372036854775807 := hp2
  have HE := hid E; have HL := hid hl; have HZ := hid hz; have HV := hid hv; have HLL := hid hll; have HLN := hid hlen; have HNN := hid hnn
  have HRF := hid (show resumeF l ask = (match requestF ask with
    | none => ([], 2)
    | some (id, rq) =>
      if fitB id l.length 0 l = false then ([], 1)
      else if l = [] then ([], 1)
      else if (l.length : Int) < rq.getLastD 0 then ([], 3)
      else (sel l rq, 0)) from rfl)
  clear E hl hz hv hll hlen hnn
  go_enter Tryd.func17, Tryd.ntmps17
  go_wp2_with fail
  refine (request_any ask w HE.out HZ.out HL.out).mono ?_
  rintro e w1 ⟨u, hq⟩
  have U1 := hid u
  clear u
  rcases hq with ⟨hq, x, y, rfl⟩ | ⟨n, rq, ra, rc, hq, rfl, hrep⟩
  · have HF := hid (show resumeF l ask = ([], 2) by rw [HRF.out, hq])
    clear hq
    go_wp2_with fail
    go_ret2
    exact res_nil HF.out U1.out
  have HQ := hid hq; have REP := hid hrep
  have hrf := HRF.out
  rw [hq] at hrf
  dsimp only at hrf
  have HRF2 := hid hrf
  have HNN2 := hid (HNN.out n rq hq)
  have hrok : ReqOk ask n rq (numsF (numF ⟨ask, false⟩).2).2 := by
    unfold requestF at hq
    split at hq
    · rename_i hok
      injection hq with hq
      injection hq with h1 h2
      rw [h1, h2] at hok
      exact hok
    · cases hq
  obtain ⟨_, _, _, _, r1, r2, r3, r4, _⟩ := hrok
  have R := hid (And.intro r1 (And.intro r2 (And.intro r3 r4)))
  clear hq hrep hrf r1 r2 r3 r4 HRF HNN
  go_wp2_with fail
  go_loopg [28] l.length (fun gg s28 wr => ∃ k : Nat, k ≤ l.length ∧ gg = l.length - k ∧ s28 = .int .i64 k ∧ (∀ j (h : j < l.length), j < k → fitAt n l.length j l[j] = true) ∧ Upd (fun _ => False) w1 wr)
  case atStart => exact ⟨0, Nat.zero_le _, rfl, rfl, fun j _ h => absurd h (Nat.not_lt_zero _), Upd.refl _ _⟩
  case round =>
    obtain ⟨k, hk, hg, rfl, hfit, u⟩ := hrel
    have HG := hid hg; have FIT := hid hfit; have U := hid u
    clear hg hfit u
    by_cases hlt : k < l.length
    · have hlti : (k : Int) < l.length := by omega
      obtain ⟨pb, po, ra', hpb, hel⟩ := slice_at HV.out (by omega)
      subst ra'
      have c0 := cell_kept (str_cells hel hlt) ((U1.out.trans U.out).block pb hpb id)
      have hxl := HLL.out _ (List.getElem_mem hlt)
      have BAD := hid (show fitAt n l.length k l[k] = false → resumeF l ask = ([], 1) from fun h => by
        rw [HRF2.out, if_pos]
        cases hb : fitB n l.length 0 l with
        | false => rfl
        | true =>
          have := (fitB_iff n l.length l 0).1 hb k hlt
          rw [Nat.zero_add, h] at this
          cases this)
      have NXT := hid (show fitAt n l.length k l[k] = true → ∀ j (h : j < l.length), j < k + 1 → fitAt n l.length j l[j] = true from fun hf j h hj => by
        by_cases hjk : j < k
        · exact FIT.out j h hjk
        · obtain rfl : j = k := by omega
          exact hf)
      clear hel
      generalize l[k] = s at *
      have HXL := hid hxl
      clear hxl
      have HPF := hid (show partR s = (match partF s with
        | some p => .tuple #[.int .i64 p.id, .int .i64 p.index, .int .i64 p.count, .string ⟨p.bytes.toArray⟩, .int .i64 0]
        | none => .tuple #[.int .i64 0, .int .i64 0, .int .i64 0, .string ⟨#[]⟩, .int .i64 2]) from rfl)
      have HFA := hid (show fitAt n l.length k s = (match partF s with | some q => decide (q.id = n) && decide (q.index = (k : Int)) && decide (q.count = (l.length : Int)) | none => false) from rfl)
      cases hpt : partF s with
      | none =>
        have hpr := HPF.out; rw [hpt] at hpr
        have HPR := hid hpr
        have B := hid (BAD.out (by rw [HFA.out, hpt]))
        clear hpr hpt
        go_wp2_with fail
        refine (part_any s _ (HE.out.keep0 (U1.out.trans U.out)) (Nat.le_trans HZ.out (U1.out.trans U.out).size) HXL.out).mono ?_
        rintro e w2 ⟨rfl, u⟩
        have UR := hid (U.out.trans u)
        have U2 := hid (U1.out.trans (U.out.trans u)); clear u
        rw [HPR.out]
        go_wp2_with fail
        go_ret2
        exact res_nil B.out U2.out
      | some q =>
        obtain ⟨qi, qx, qc, qb⟩ := q
        have hpr := HPF.out; rw [hpt] at hpr
        dsimp only at hpr
        have HPR := hid hpr
        have hfa := HFA.out; rw [hpt] at hfa
        dsimp only at hfa
        have HFA2 := hid hfa
        clear hpr hpt hfa
        by_cases t1 : qi = n
        case neg =>
          have B := hid (BAD.out (by rw [HFA2.out, decide_eq_false t1]; rfl))
          have t1b : (qi == n) = false := beq_eq_false_iff_ne.2 t1
          go_wp2_with fail
          refine (part_any s _ (HE.out.keep0 (U1.out.trans U.out)) (Nat.le_trans HZ.out (U1.out.trans U.out).size) HXL.out).mono ?_
          rintro e w2 ⟨rfl, u⟩
          have UR := hid (U.out.trans u)
          have U2 := hid (U1.out.trans (U.out.trans u)); clear u
          rw [HPR.out]
          go_wp2_with fail
          go_ret2
          exact res_nil B.out U2.out
        have t1b : (qi == n) = true := beq_iff_eq.2 t1
        by_cases t2 : qx = (k : Int)
        case neg =>
          have B := hid (BAD.out (by rw [HFA2.out, decide_eq_false t2, Bool.and_false]; rfl))
          have t2b : (qx == (k : Int)) = false := beq_eq_false_iff_ne.2 t2
          go_wp2_with fail
          refine (part_any s _ (HE.out.keep0 (U1.out.trans U.out)) (Nat.le_trans HZ.out (U1.out.trans U.out).size) HXL.out).mono ?_
          rintro e w2 ⟨rfl, u⟩
          have UR := hid (U.out.trans u)
          have U2 := hid (U1.out.trans (U.out.trans u)); clear u
          rw [HPR.out]
          go_wp2_with fail
          go_ret2
          exact res_nil B.out U2.out
        have t2b : (qx == (k : Int)) = true := beq_iff_eq.2 t2
        by_cases t3 : qc = (l.length : Int)
        case neg =>
          have B := hid (BAD.out (by rw [HFA2.out, decide_eq_false t3, Bool.and_false]))
          have t3b : (qc == (l.length : Int)) = false := beq_eq_false_iff_ne.2 t3
          go_wp2_with fail
          refine (part_any s _ (HE.out.keep0 (U1.out.trans U.out)) (Nat.le_trans HZ.out (U1.out.trans U.out).size) HXL.out).mono ?_
          rintro e w2 ⟨rfl, u⟩
          have UR := hid (U.out.trans u)
          have U2 := hid (U1.out.trans (U.out.trans u)); clear u
          rw [HPR.out]
          go_wp2_with fail
          go_ret2
          exact res_nil B.out U2.out
        have t3b : (qc == (l.length : Int)) = true := beq_iff_eq.2 t3
        have N := hid (NXT.out (by rw [HFA2.out, decide_eq_true t1, decide_eq_true t2, decide_eq_true t3]; rfl))
        go_wp2_with fail
        refine (part_any s _ (HE.out.keep0 (U1.out.trans U.out)) (Nat.le_trans HZ.out (U1.out.trans U.out).size) HXL.out).mono ?_
        rintro e w2 ⟨rfl, u⟩
        have UR := hid (U.out.trans u)
        have U2 := hid (U1.out.trans (U.out.trans u)); clear u
        rw [HPR.out]
        go_wp2_with fail
        go_roundg (l.length - (k + 1))
        case measure => have := HG.out; omega
        case rel => exact ⟨k + 1, by omega, rfl, by go_num, N.out, UR.out⟩
    · obtain rfl : k = l.length := by omega
      have hfb : fitB n l.length 0 l = true := (fitB_iff n l.length l 0).2 fun j h => by rw [Nat.zero_add]; exact FIT.out j h h
      have hrf := HRF2.out
      rw [hfb, if_neg (by decide)] at hrf
      have U2 := hid (U1.out.trans U.out)
      clear hfb hlt
      by_cases he : l = []
      · rw [if_pos he] at hrf
        have HF := hid hrf
        have hez : ((l.length : Int) == 0) = true := by rw [he]; rfl
        have hez2 : (l.length == 0) = true := by rw [he]; rfl
        clear hrf he
        go_wp2_with fail
        go_ret2
        exact res_nil HF.out U2.out
      rw [if_neg he] at hrf
      have hlp : 0 < l.length := List.length_pos_iff.2 he
      have hez : ((l.length : Int) == 0) = false := beq_eq_false_iff_ne.2 (by omega)
      have hez2 : (l.length == 0) = false := beq_eq_false_iff_ne.2 (by omega)
      have hrp : 0 < rq.length := List.length_pos_iff.2 R.out.1
      obtain ⟨m, hmm⟩ : ∃ m, rq.length = m + 1 := ⟨rq.length - 1, by omega⟩
      have hml : m < rq.length := by omega
      have hmi : (rq.length : Int) - 1 = m := by omega
      have hmi2 : (m : Int) < rq.length := by omega
      have hla : rq.getLastD 0 = rq[m]'hml := last_at hmm
      rw [hla] at hrf
      obtain ⟨gb, go, ra', hgb, hel⟩ := slice_at REP.out (by omega)
      subst ra'
      obtain ⟨_, rc', he', hq1, hq2, _⟩ := slice_open REP.out
      injection he' with e1 e2 e3
      subst e3
      have hq2 : rc ≤ 9223372036854775807 := hq2
      have cm := cell_kept (int_cells hel hml) (U.out.block gb hgb.2 id)
      have HEL := hid hel
      clear hel he e1 e2
      by_cases h3 : (l.length : Int) < rq[m]
      · rw [if_pos h3] at hrf
        have HF := hid hrf
        clear hrf hla
        go_wp2_with fail
        go_ret2
        exact res_nil HF.out U2.out
      rw [if_neg h3] at hrf
      have h3b : decide ((l.length : Int) < rq[m]) = false := decide_eq_false h3
      have HF := hid hrf
      have HLA := hid (show rq[m] ≤ l.length by omega)
      have UPB := hid ((upB_iff rq).1 R.out.2.2.2)
      have HMM := hid hmm
      clear hrf hla h3 hmm
      obtain ⟨wq, rfl⟩ : ∃ wq : World, wq = wr := ⟨_, rfl⟩
      have UQ := hid U.out
      go_wp2_with fail
      go_loopg [16, 17] rq.length (fun gg s16 s17 wr => ∃ i : Nat, i % 2 = 0 ∧ i ≤ rq.length ∧ gg = rq.length - i ∧ s17 = .int .i64 i ∧ wr.ownsRow wq.heap.size 9 1 s16 (sel l (rq.take i)).length ((sel l (rq.take i)).map fun x => .string ⟨x.toArray⟩) ∧ (0 < i → ∀ hj : i - 1 < rq.length, ((sel l (rq.take i)).length : Int) ≤ rq[i - 1]) ∧ Upd (fun _ => False) wq wr)
      case atStart => exact ⟨0, rfl, Nat.zero_le _, rfl, rfl, by simp [sel]; exact World.ownsRow_nil _ _ _ _, fun h => absurd h (Nat.not_lt_zero _), Upd.refl _ _⟩
      case round =>
        clear cm
        obtain ⟨i, hpar, hj, hg, rfl, hown, hsl, u⟩ := hrel
        have HG := hid hg; have OWN := hid hown; have SL := hid hsl; have UJ := hid u
        have HR2 := R.out.2.1
        clear hg hown hsl u
        by_cases hlt : i < rq.length
        · have hlt1 : i + 1 < rq.length := by omega
          have hlti : (i : Int) < rq.length := by omega
          have hlti1 : (i : Int) + 1 < rq.length := by omega
          have u3 := (UQ.out).trans UJ.out
          have c1 := cell_kept (int_cells HEL.out hlt) ((U.out.trans UJ.out).block gb hgb.2 id)
          have c2 := cell_kept (int_cells HEL.out hlt1) ((U.out.trans UJ.out).block gb hgb.2 id)
          have hab := UPB.out i hlt1
          have ha0 := HNN2.out _ (List.getElem_mem hlt)
          have hbm : rq[i + 1] ≤ rq[m] := up_le (fun q h => UPB.out q h) (by omega) hml
          have hal : ((sel l (rq.take i)).length : Int) ≤ rq[i] := by
            by_cases hj0 : i = 0
            · subst hj0; simp [sel]; exact ha0
            · have h1 := SL.out (by omega) (by omega)
              have h2 := UPB.out (i - 1) (by omega)
              have h3 : rq[i - 1 + 1]'(by omega) = rq[i] := by congr 1; omega
              omega
          have htk : rq.take (i + 2) = rq.take i ++ [rq[i], rq[i + 1]] := by
            rw [List.take_succ_eq_append_getElem hlt1, List.take_succ_eq_append_getElem hlt, List.append_assoc]; rfl
          have hsn : sel l (rq.take (i + 2)) = sel l (rq.take i) ++ (l.drop rq[i].toNat).take (rq[i + 1].toNat - rq[i].toNat) := by
            rw [htk]; exact sel_snoc l _ _ (i / 2) _ (by rw [List.length_take]; omega)
          obtain ⟨a, ha⟩ := Int.eq_ofNat_of_zero_le ha0
          obtain ⟨b, hb⟩ := Int.eq_ofNat_of_zero_le (show 0 ≤ rq[i + 1] by omega)
          have hb2 := HLA.out
          rw [ha] at hab hal c1 hsn
          rw [hb] at hab hbm c2 hsn
          rw [Int.toNat_natCast, Int.toNat_natCast] at hsn
          have habn : a < b := by omega
          have hbl : b ≤ l.length := by omega
          obtain ⟨pb, po, ra', hpb, hel⟩ := slice_at HV.out (by omega)
          subst ra'
          have hnews : ∀ q u, (((l.drop a).take (b - a)).map fun x => Value.string ⟨x.toArray⟩)[q]? = some u → (wr.drew).cell? ((⟨pb, po + a, none⟩ : Addr).add q) = some u := fun q u hq => by
            have hql : q < b - a := by
              have h1 := (List.getElem?_eq_some_iff.1 hq).1
              rw [List.length_map, List.length_take, List.length_drop] at h1; omega
            have e1 : Addr.add ⟨pb, po + a, none⟩ q = ⟨pb, po + (a + q), none⟩ := by unfold Addr.add; split <;> simp_all <;> omega
            rw [e1]
            have hcq := cell_kept (str_cells hel (j := a + q) (by omega)) (((U1.out.trans U.out).trans UJ.out).block pb hpb id)
            rw [List.getElem?_map, List.getElem?_take, if_pos hql, List.getElem?_drop, List.getElem?_eq_getElem (by omega)] at hq
            injection hq with hq
            rw [← hq]
            exact hcq
          have hnl : (((l.drop a).take (b - a)).map fun x => Value.string ⟨x.toArray⟩).length = (b - a) * 1 := by rw [List.length_map, List.length_take, List.length_drop]; omega
          have hl3 := HLN.out
          obtain ⟨v', w4, r4, o4, g4, n4⟩ := append_own2 elemS OWN.out.drew ⟨pb, po + a, none⟩ (b - a) (vc - a) _ hnl hnews (fun u hu => by obtain ⟨x, _, rfl⟩ := List.mem_map.1 hu; rfl) (by unfold maxLen; omega) (by omega) (show wq.heap.size ≤ wr.drew.heap.size from UJ.out.size) 23
          have O4 := hid (show w4.ownsRow wq.heap.size 9 1 v' (sel l (rq.take (i + 2))).length ((sel l (rq.take (i + 2))).map fun x => .string ⟨x.toArray⟩) by
            rw [hsn, List.length_append, List.map_append, List.length_take, List.length_drop, Nat.min_eq_left (by omega)]; exact o4)
          have U4 := hid (UJ.out.drew.grown g4 fun q hq => .inr (OWN.out.lt q hq).1)
          have SL4 := hid (show 0 < i + 2 → ∀ hj : i + 2 - 1 < rq.length, ((sel l (rq.take (i + 2))).length : Int) ≤ rq[i + 2 - 1] from fun _ hj => by
            have h3 : rq[i + 2 - 1] = rq[i + 1] := by congr 1
            rw [h3, hb, hsn, List.length_append, List.length_take, List.length_drop]; omega)
          have HPI := hid (show (i + 2) % 2 = 0 ∧ i + 2 ≤ rq.length by omega)
          have habi : (a : Int) ≤ b := by omega
          have hbli : (b : Int) ≤ l.length := by omega
          have hblc : (b : Int) ≤ vc := by omega
          have hblc2 : b ≤ vc := by omega
          have ha0' : ¬ ((a : Int) < 0) := by omega
          have hva : ¬ vc = a := by omega
          have hvab : (vc == a) = false := beq_eq_false_iff_ne.2 hva
          have hvs : ¬ vc - a = 0 := by omega
          obtain ⟨i1, hi1⟩ : ∃ x, i + 1 = x := ⟨_, rfl⟩
          have hi1i : (i : Int) + 1 = i1 := by omega
          have hi1l : i1 < rq.length := by omega
          have hi1li : (i1 : Int) < rq.length := by omega
          rw [hi1] at c2
          have hib : -9223372036854775808 ≤ (i1 : Int) ∧ (i1 : Int) ≤ 9223372036854775807 := by omega
          have z1 : IntKind.i64.wrap (i1 : Int) = i1 := IntWalk.i64_in _ hib
          have z2 : wrap64 (i1 : Int) = i1 := IntWalk.wrap64_in _ hib
          have z3 : IntKind.i64.wrap ((i : Int) + 1) = i1 := by rw [hi1i]; exact z1
          have z4 : wrap64 ((i : Int) + 1) = i1 := by rw [hi1i]; exact z2
          have K1 : wr.cell? ⟨gb, go + i, none⟩ = some (.int .i64 a) ∧ wr.cell? ⟨gb, go + i1, none⟩ = some (.int .i64 b) := ⟨c1, c2⟩
          have K2 : wr.drew.cell? ⟨gb, go + i, none⟩ = some (.int .i64 a) ∧ wr.drew.cell? ⟨gb, go + i1, none⟩ = some (.int .i64 b) := ⟨c1, c2⟩
          have hgw : w4.heap[gb]? = wr.heap[gb]? := g4.block gb (Nat.lt_of_lt_of_le hgb.2 (U.out.trans UJ.out).size) (fun e => by have := (OWN.out.lt gb e.symm).1; have := Nat.lt_of_lt_of_le hgb.2 U.out.size; omega)
          have K4 : w4.cell? ⟨gb, go + i, none⟩ = some (.int .i64 a) ∧ w4.cell? ⟨gb, go + i1, none⟩ = some (.int .i64 b) := ⟨cell_kept c1 hgw, cell_kept c2 hgw⟩
          clear hgw
          clear o4 g4 n4 hnews hnl hel hsn htk hal hab hbm ha hb hb2 ha0 habn hi1 hlt1 hlti1
          go_wp2_with fail
          go_region_held3 (fun w' => w'.cell? ⟨gb, go + i, none⟩ = some (.int .i64 a) ∧ w'.cell? ⟨gb, go + i1, none⟩ = some (.int .i64 b)) (first | with_reducible exact K1 | with_reducible exact K2 | with_reducible exact K4 | go_keep) ((refine step_append_run rfl _ _ _ _ rfl rfl rfl r4 ?_))
          all_goals
            go_wp2_with fail
            go_roundg (rq.length - (i + 2))
            case measure => have := HG.out; have := HPI.out.2; clear z1 z2 z3 z4; omega
            case rel => exact ⟨i + 2, HPI.out.1, HPI.out.2, rfl, by (clear z1 z2 z3 z4; go_num), O4.out, SL4.out, U4.out⟩
        · obtain rfl : i = rq.length := by omega
          have own0 := OWN.out
          rw [List.take_length] at own0
          obtain ⟨ga, gn, gc, rfl⟩ : ∃ a n c, u16 = .slice a n c := by
            rcases ownsRow_fits own0 with ⟨h, _⟩ | ⟨g, cap, h, _⟩
            · exact ⟨_, _, _, h⟩
            · exact ⟨_, _, _, h⟩
          have OWN0 := hid own0
          have U5 := hid (U2.out.trans UJ.out)
          have hw5 := hid (U1.out.trans U.out).size
          clear own0 OWN SL
          go_wp2_with fail
          go_ret2
          refine ⟨U5.out, _, _, _, by rw [HF.out]; rfl, ?_⟩
          rw [HF.out]
          refine ownsRow_rep1 (K := kMap kStr fun l => ⟨l.toArray⟩) rfl (fun x => Value.string ⟨x.toArray⟩) OWN0.out (fun x hx => strRep x (HLL.out x (sel_mem l _ hx))) fun g hg => ?_
          have h := OWN0.out.lt g hg
          exact ⟨Nat.le_trans hw5.out h.1, h.2⟩
end Go.Proofs.YtabnniabofhihaaDoor
