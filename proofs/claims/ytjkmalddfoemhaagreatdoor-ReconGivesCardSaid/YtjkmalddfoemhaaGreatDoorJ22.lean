/- Walks: the text of a signature is taken (Take). -/
import Derived.Test.YtjkmalddfoemhaaGreatDoorJ21
import Derived.Test.YtjkmalddfoemhaaGreatDoorJ18
import Derived.Test.YtjkmalddfoemhaaGreatDoorJ13
import Derived.Test.YtjkmalddfoemhaaGreatDoorCWrR3
namespace Go.Proofs.YtjkmalddfoemhaaGreatDoor
open Go.RowKit Go.Deep

def TkPost (R : Rg) (O : Nat → Prop) (b r : Nat) (hs : Hs) (t : List UInt8) (w : World) (e : Ending) (w' : World) : Prop :=
  e = .returned (.int .i64 (takeF rdF R hs t).2) ∧ ∃ O', IsHis w' O' b r (takeF rdF R hs t).1 ∧ (∀ k, O' k → O k ∨ w.heap.size ≤ k) ∧ Upd O w w'
theorem sg_cells {w : World} {p : Nat} {a b c : Value} {t : TypeId} (h : w.heap[p]? = some (.cells #[a, b, c] t (0, 0))) : w.cell? ⟨p, 0, none⟩ = some a ∧ w.cell? ⟨p, 1, none⟩ = some b ∧ w.cell? ⟨p, 2, none⟩ = some c := by
  refine ⟨?_, ?_, ?_⟩ <;> (rw [cell_of_block h]; rfl)
set_option maxRecDepth 100000 in
set_option maxHeartbeats 8000000 in
theorem tkR_any {O Or : Nat → Prop} {b r : Nat} {hs : Hs} {R : Rg} {w : World} (h : HPre w O Or b r hs R) (t : List UInt8) (hl : t.length ≤ 2000000) (ht : (tkR t).1.text.length ≤ 1000000) : Calls Tryz.prog 26 #[.pointer (some ⟨b, 0, none⟩), .string ⟨t.toArray⟩] w (TkPost R O b r hs t w) := by
  have HH := hid h; have HL := hid hl
  have L1 := hid (show (numF ⟨t, false⟩).2.rest.length ≤ 10000000 by have : _ ≤ t.length - 1 := numF_len ⟨t, false⟩; omega)
  have L2 := hid (show (numF (numF ⟨t, false⟩).2).2.rest.length ≤ 10000000 by have : _ ≤ t.length - 1 := numF_len ⟨t, false⟩; have := numF_len (numF ⟨t, false⟩).2; omega)
  have I1 := hid (show I64 (numF ⟨t, false⟩).1 from numberF_i64 59 0 _)
  have I2 := hid (show I64 (numF (numF ⟨t, false⟩).2).1 from numberF_i64 59 0 _)
  have L3 := hid (show (textF (numF (numF ⟨t, false⟩).2).2).1.length ≤ 1000000 from ht)
  have TS := hid (show tkR t = (⟨(numF ⟨t, false⟩).1, (textF (numF (numF ⟨t, false⟩).2).2).1, (numF (numF ⟨t, false⟩).2).1⟩, (textF (numF (numF ⟨t, false⟩).2).2).2) from rfl)
  obtain ⟨r0, hr0⟩ : ∃ x : RS, ⟨t, false⟩ = x := ⟨_, rfl⟩
  rw [hr0] at L1 L2 I1 I2 L3 TS
  obtain ⟨x1, hx1⟩ : ∃ x, numF r0 = x := ⟨_, rfl⟩
  rw [hx1] at L1 L2 I1 I2 L3 TS
  obtain ⟨x2, hx2⟩ : ∃ x, numF x1.2 = x := ⟨_, rfl⟩
  rw [hx2] at L2 I2 L3 TS
  obtain ⟨x3, hx3⟩ : ∃ x, textF x2.2 = x := ⟨_, rfl⟩
  rw [hx3] at L3 TS
  obtain ⟨key, r1⟩ := x1
  obtain ⟨mark, r2⟩ := x2
  obtain ⟨text, r3⟩ := x3
  have HX1 := hid hx1; have HX2 := hid hx2; have HX3 := hid hx3; have HR0 := hid hr0
  have hz : 6 ≤ w.heap.size := h.gnd.six
  have HZ := hid hz
  clear h hl ht hr0 hx1 hx2 hx3 hz
  go_enter Tryz.func26, Tryz.ntmps26
  go_wp2_with fail
  refine (open_any t w).mono ?_
  rintro e w1 ⟨rfl, hr, u⟩
  rw [HR0.out] at hr
  have Q1 := hid hr; have U1 := hid u
  clear hr u
  obtain ⟨pb, hpb⟩ : ∃ x, w.heap.size = x := ⟨_, rfl⟩
  have HPB := hid hpb
  have PB6 := hid (show 6 ≤ pb by rw [← hpb]; exact HZ.out)
  replace Q1 := hid (hpb ▸ Q1.out)
  rw [hpb]
  clear hpb
  go_wp2_with fail
  refine (numR_any pb r0 _ (HH.out.gnd.env.keep0 U1.out) Q1.out PB6.out (by rw [← HR0.out]; exact Nat.le_trans HL.out (by decide))).mono ?_
  rintro e w2 ⟨rfl, hr, u⟩
  rw [HX1.out] at hr ⊢
  have Q2 := hid hr
  have U2 := hid (show Upd (fun _ => False) w w2 from U1.out.comp u fun i hi q => by have := HPB.out; omega)
  clear hr u Q1
  obtain ⟨y2, hy2⟩ : ∃ y2, y2 = w2.alloc (.cells #[.int .i64 key, .string ⟨#[]⟩, .int .i64 0] 49 (0, 0)) := ⟨_, rfl⟩
  have uy : Upd (fun _ => False) w2 y2 := by rw [hy2]; exact (Upd.refl _ _).alloc _
  have YB := hid (show y2.heap[w2.heap.size]? = some (.cells #[.int .i64 key, .string ⟨#[]⟩, .int .i64 0] 49 (0, 0)) by rw [hy2]; exact heap_alloc_new)
  have HY2 := hid hy2
  have QY := hid (Q2.out.upd uy id)
  have UY := hid (U2.out.trans uy)
  have PL := hid (show pb < w2.heap.size from heap_lt Q2.out)
  have WL := hid (show w.heap.size ≤ w2.heap.size from U2.out.size)
  obtain ⟨ps, hps⟩ : ∃ x, w2.heap.size = x := ⟨_, rfl⟩
  rw [hps] at YB PL WL
  have HPS := hid hps
  clear uy hy2 Q2 hps
  go_upto_region 3 with (fail)
  try rw [← HY2.out]
  try rw [HPS.out]
  go_wp2_with fail
  refine (numR_any pb r1 _ (HH.out.gnd.env.keep0 UY.out) QY.out PB6.out L1.out).mono ?_
  rintro e w3 ⟨rfl, hr, u⟩
  rw [HX2.out] at hr ⊢
  have Q3 := hid hr
  have U3 := hid (show Upd (fun _ => False) w w3 from UY.out.comp u fun i hi q => by have := HPB.out; omega)
  have B3 := hid ((u.block ps (heap_lt YB.out) (by have := PL.out; omega)).trans YB.out)
  clear hr u QY
  go_wp2_with fail
  refine (textR_any pb r2 _ (HH.out.gnd.env.keep0 U3.out) Q3.out PB6.out L2.out).mono ?_
  rintro e w4 ⟨rfl, hr, u⟩
  rw [HX3.out] at hr ⊢
  have Q4 := hid hr
  have U4 := hid (show Upd (fun _ => False) w w4 from U3.out.comp u fun i hi q => by have := HPB.out; omega)
  have B4 := hid ((u.block ps (heap_lt B3.out) (by have := PL.out; omega)).trans B3.out)
  clear hr u Q3 B3 YB
  obtain ⟨y5, hy5⟩ : ∃ y5, y5 = (w4.setCell ⟨ps, 2, none⟩ (.int .i64 mark)).setCell ⟨ps, 1, none⟩ (.string ⟨text.toArray⟩) := ⟨_, rfl⟩
  have B5 := hid (show y5.heap[ps]? = some (.cells #[.int .i64 key, .string ⟨text.toArray⟩, .int .i64 mark] 49 (0, 0)) by
    rw [hy5]
    have e1 : (w4.setCell ⟨ps, 2, none⟩ (.int .i64 mark)).heap[ps]? = some (.cells #[.int .i64 key, .string ⟨#[]⟩, .int .i64 mark] 49 (0, 0)) := by simp [heap_setCell, Obj.setAt, B4.out]
    simp [heap_setCell, Obj.setAt, e1])
  have u5 : Upd (· = ps) w4 y5 := by rw [hy5]; exact ((Upd.refl _ _).at_ 2 _).at_ 1 _
  have Q5 := hid (Q4.out.upd u5 (by have := PL.out; omega))
  have U5 := hid (show Upd (fun _ => False) w y5 from U4.out.comp u5 fun i hi q => by have := WL.out; omega)
  have HY5 := hid hy5
  have c4 : w4.heap[ps]? = some (.cells #[.int .i64 key, .string ⟨#[]⟩, .int .i64 0] 49 (0, 0)) := B4.out
  obtain ⟨m0, m1, m2⟩ := sg_cells c4
  have mf : ∀ o, w4.frozen? ⟨ps, o, none⟩ = false := fun _ => frozen_of_block c4
  clear hy5 u5 Q4 c4
  go_upto_region 4 with (fail)
  try rw [← HY5.out]
  clear m0 m1 m2 mf
  go_wp2_with fail
  refine (done_any pb r3 _ Q5.out).mono ?_
  rintro en w8 ⟨rfl, rfl⟩
  by_cases hd : r3.bad = false ∧ r3.rest = []
  case neg =>
    rw [done_no hd]
    have EE := hid (show takeF rdF R hs t = (hs, 2) from if_neg (by unfold TkOk; rw [TS.out]; exact hd))
    clear hd
    go_wp2_with fail
    go_ret
    exact ⟨by rw [EE.out] <;> rfl, O, by rw [EE.out]; exact HH.out.his.keep U5.out, fun k hk => .inl hk, U5.out.mono fun _ q => q.elim⟩
  rw [done_yes hd]
  have EE := hid (show takeF rdF R hs t = addF rdF R hs ⟨key, text, mark⟩ from by
    have c : TkOk t := by unfold TkOk; rw [TS.out]; exact hd
    unfold takeF
    rw [if_pos c, TS.out])
  obtain ⟨m0, m1, m2⟩ := sg_cells B5.out
  clear hd
  go_wp2_with fail
  refine (add_any (s := ⟨key, text, mark⟩) ⟨HH.out.his.keep U5.out, HH.out.gnd.keep U5.out, HH.out.plain, fun k hk hk' => HH.out.apart k hk hk', I1.out, I2.out, L3.out, by have := HH.out.plain.len; have := HH.out.few; omega, Nat.le_trans HH.out.few (by decide)⟩).mono ?_
  rintro en y1 ⟨rfl, O', q1, q2, q3⟩
  have QA := hid q1; have QB := hid q2; have QC := hid q3
  clear q1 q2 q3 m0 m1 m2
  go_wp2_with fail
  go_ret
  refine ⟨by rw [EE.out] <;> rfl, O', by rw [EE.out]; exact QA.out, fun k hk => (QB.out k hk).imp id fun z => Nat.le_trans U5.out.size z, ?_⟩
  exact (U5.out.mono fun _ q => q.elim : Upd O w y5).trans QC.out
end Go.Proofs.YtjkmalddfoemhaaGreatDoor
namespace Go.Proofs.YtjkmalddfoemhaaGreatDoor
open Go.RowKit Go.Deep

/-- A row of texts. -/
def TxsAt (w : World) (B : Nat) (v : Value) (l : List (List UInt8)) : Prop := w.ownsRow B 9 1 v l.length (l.map fun x => .string ⟨x.toArray⟩)
theorem txs_lt {w : World} {B : Nat} {v : Value} {l : List (List UInt8)} (h : TxsAt w B v l) : ∀ g, v.ownBlock = some g → B ≤ g ∧ g < w.heap.size := by
  intro g hg
  rcases ownsRow_fits h with ⟨rfl, _⟩ | ⟨g', cap, rfl, h1, h2, _⟩
  · cases hg
  · cases hg; exact ⟨h1, h2⟩
theorem TxsAt.get {w : World} {B : Nat} {v : Value} {l : List (List UInt8)} (h : TxsAt w B v l) (hp : 0 < l.length) : ∃ g cap, v = .slice (some ⟨g, 0, none⟩) l.length cap ∧ l.length ≤ cap ∧ cap ≤ maxLen ∧ B ≤ g ∧ g < w.heap.size ∧
    ∀ i (hi : i < l.length), w.cell? ⟨g, i, none⟩ = some (.string ⟨l[i].toArray⟩) := by
  obtain ⟨h1, ⟨h2, h3⟩ | ⟨g, cap, cur, hv, hb, hg, hn, hc, hs, ht⟩⟩ := h
  · omega
  · refine ⟨g, cap, hv, hn, hc, hb, heap_lt hg, fun i hi => ?_⟩
    have e : (l.map fun x => Value.string ⟨x.toArray⟩)[i]? = some (.string ⟨l[i].toArray⟩) := by
      rw [List.getElem?_map, List.getElem?_eq_getElem hi]; rfl
    rw [cell_of_block hg, ← e, ← ht, List.getElem?_take, if_pos (by omega), Array.getElem?_toList]
def giveV (hs : Hs) (s : List UInt8) (b : Int) : List (List UInt8) := if (readO MM s).2 = 0 then giveF hs (readO MM s).1 b else []
def GivePost (hs : Hs) (s : List UInt8) (b : Int) (w : World) (e : Ending) (w' : World) : Prop :=
  ∃ v, e = .returned (.tuple #[v, .int .i64 (readO MM s).2]) ∧ TxsAt w' w.heap.size v (giveV hs s b) ∧ Upd (fun _ => False) w w'
theorem signed_sg (h : Hs) (m : Int) : (signedM h m).1 = sgM h m := by
  unfold signedM sgM
  cases idxF h m with
  | none => rfl
  | some i =>
    show (match h[i]? with | some n => (n.sg, true) | none => (SgNone, false)).1 = match h[i]? with | some n => n.sg | none => ⟨0, [], 0⟩
    cases h[i]? <;> rfl
theorem giveL_in {h : Hs} {l : List (Int × Int)} {ms : List Int} {k : Nat} (hk : k < ms.length) (b : Int) (c : InR l ms[k]) : giveL h l (ms.drop k) b = giveL h l (ms.drop (k + 1)) b := by
  rw [List.drop_eq_getElem_cons hk, giveL, if_pos c]
theorem giveL_end {h : Hs} {l : List (Int × Int)} {ms : List Int} {k : Nat} (hk : k < ms.length) {b : Int} (c : ¬ InR l ms[k]) (hb : b < ((sgE (sgM h ms[k])).length : Int)) : giveL h l (ms.drop k) b = [] := by
  rw [List.drop_eq_getElem_cons hk, giveL, if_neg c, if_pos hb]
theorem giveL_out {h : Hs} {l : List (Int × Int)} {ms : List Int} {k : Nat} (hk : k < ms.length) {b : Int} (c : ¬ InR l ms[k]) (hb : ¬ b < ((sgE (sgM h ms[k])).length : Int)) : giveL h l (ms.drop k) b = sgE (sgM h ms[k]) :: giveL h l (ms.drop (k + 1)) (b - (sgE (sgM h ms[k])).length) := by
  rw [List.drop_eq_getElem_cons hk, giveL, if_neg c, if_neg hb]
set_option maxRecDepth 100000 in
set_option maxHeartbeats 8000000 in
theorem give_any {O Or : Nat → Prop} {b r : Nat} {hs : Hs} {R : Rg} {w : World} (h : HPre w O Or b r hs R) (s : List UInt8) (hl : s.length ≤ 100000) (bud : Int) (hbud : I64 bud) : Calls Tryz.prog 36 #[.pointer (some ⟨b, 0, none⟩), .string ⟨s.toArray⟩, .int .i64 bud] w (GivePost hs s bud w) := by
  have HH := hid h; have HL := hid hl; have HBUD := hid hbud
  have MS := hid (fun x (hx : x ∈ sortedF hs (marksF hs)) => (show (idxF hs x).isSome from ((sorted_ok h.plain _).2 x).1 hx |>.2))
  have MI := hid (fun x (hx : x ∈ marksF hs) => (show I64 x from by have := marks_small h.plain hx; have := h.few; unfold I64; omega))
  have SI := hid (fun x (hx : x ∈ sortedF hs (marksF hs)) => (show I64 x from by have := his_mark h.plain (MS.out x hx); have := h.few; unfold I64; omega))
  have SN := hid (show (sortedF hs (marksF hs)).length ≤ 60 by
    rw [(sorted_all h.plain (ms := marksF hs) fun m q => (mem_marksF hs m).2 q).length_eq, marksF_len]
    have := h.plain.len; have := h.few; omega)
  clear h hl hbud
  go_enter Tryz.func36, Tryz.ntmps36
  go_wp2_with fail
  refine (readO_any s w HH.out.gnd.env HH.out.gnd.six (by have := HL.out; omega)).mono ?_
  rintro e w1 ⟨v1, rfl, ho, u⟩
  have U1 := hid u
  by_cases he : (readO MM s).2 = 0
  case neg =>
    have GV := hid (show giveV hs s bud = [] from if_neg he)
    have t0 : ((readO MM s).2 == 0) = false := beq_eq_false_iff_ne.2 he
    clear ho u
    go_wp2_with fail
    go_ret2
    exact ⟨_, rfl, by rw [GV.out]; exact World.ownsRow_nil _ _ _ _, U1.out⟩
  have LL := hid (readO_len MM s)
  have GV := hid (show giveV hs s bud = giveL hs (readO MM s).1 (sortedF hs (marksF hs)) bud from if_pos he)
  obtain ⟨l, hlx⟩ : ∃ l, (readO MM s).1 = l := ⟨_, rfl⟩
  rw [hlx] at ho GV LL
  have HE0 := hid he
  rw [he]
  have t0 : ((0 : Int) == 0) = true := rfl
  have PL := hid ho
  obtain ⟨al, cl, rfl, hl1, hl2⟩ := prs_slice ho
  have hl2 : cl ≤ 9223372036854775807 := hl2
  clear ho u hlx he
  go_wp2_with fail
  refine (hmarks_any (HH.out.his.keep U1.out)).mono ?_
  rintro en y1 ⟨vm, rfl, ho, u⟩
  have R1 := hid (ints_rep ho MI.out)
  have U2 := hid (U1.out.trans u)
  replace PL := hid (ownsRow_upd PL.out u fun _ _ => id : PrsAt y1 w.heap.size (.slice al l.length cl) l)
  clear ho u
  go_wp2_with fail
  refine (hsorted_any (HH.out.his.keep U2.out) HH.out.plain HH.out.few _ _ (marksF hs) R1.out).mono ?_
  rintro en y2 ⟨vs, rfl, ho, u⟩
  have U3 := hid (U2.out.trans u)
  replace PL := hid (ownsRow_upd PL.out u fun _ _ => id : PrsAt y2 w.heap.size (.slice al l.length cl) l)
  obtain ⟨ms, hms⟩ : ∃ ms, sortedF hs (marksF hs) = ms := ⟨_, rfl⟩
  rw [hms] at ho MS SI SN GV
  have RS_ := hid (ints_rep ho SI.out)
  obtain ⟨asl, cs, rfl, hs1, hs2⟩ := own_slice ho
  have hs2 : cs ≤ 9223372036854775807 := hs2
  have HY := hid (HH.out.keep U3.out)
  have CELL := hid (fun (y : World) (u : Upd (fun j => y2.heap.size ≤ j) y2 y) (hp : 0 < ms.length) => (show ∃ g o, asl = some ⟨g, o, none⟩ ∧ ∀ k (hk : k < ms.length), y.cell? ⟨g, o + k, none⟩ = some (.int .i64 ms[k]) from by
    obtain ⟨a, c, e, _, _, h3⟩ := slice_open RS_.out
    obtain ⟨g, o, ea, hg, hel⟩ := h3 hp
    injection e with e1 _ _
    exact ⟨g, o, by rw [e1, ea], fun k hk => cell_kept (int_cells hel hk) (u.block g hg.2 (by have := hg.2; omega))⟩))
  obtain ⟨N, hN⟩ : ∃ N, ms.length = N := ⟨_, rfl⟩
  have HN := hid hN
  have hN60 : N ≤ 60 := by rw [← hN]; exact SN.out
  rw [hN] at hs1 ⊢
  clear ho u hms hN R1 RS_
  go_wp2_with fail
  go_loopg [2, 10, 12, 13, 14, 15, 29] N (fun gg s2 s10 _ _ _ _ s29 wr => ∃ k : Nat, k ≤ N ∧ gg = N - k ∧ s29 = .int .i64 k ∧ ∃ (bd : Int) (out : List (List UInt8)), s2 = .int .i64 bd ∧ I64 bd ∧ TxsAt wr y2.heap.size s10 out ∧ out.length ≤ k ∧ out ++ giveL hs l (ms.drop k) bd = giveL hs l ms bud ∧ Upd (fun j => y2.heap.size ≤ j) y2 wr)
  case atStart => exact ⟨0, Nat.zero_le _, rfl, rfl, bud, [], rfl, HBUD.out, World.ownsRow_nil _ _ _ _, Nat.le_refl _, by rw [List.drop_zero]; rfl, Upd.refl _ _⟩
  case round =>
    obtain ⟨k, hk, hg, rfl, bd, out, rfl, hbd, ho, hol, htot, u⟩ := hrel
    have HG := hid hg; have HB := hid hbd; have OW := hid ho; have OL := hid hol; have TOT := hid htot; have UP := hid u
    have UF := hid (u.shut fun i hi q => by omega)
    clear hg hbd hol htot u
    obtain ⟨ao, co, rfl, ho1, ho2⟩ := own_slice ho
    have ho2 : co ≤ 9223372036854775807 := ho2
    clear ho
    by_cases hlt : k < N
    case neg =>
      have hlti : ¬ (k : Int) < N := by omega
      have FIN := hid (show giveV hs s bud = out by
        rw [GV.out, ← TOT.out, List.drop_of_length_le (by rw [HN.out]; omega), giveL, List.append_nil])
      go_wp2_with fail
      go_ret2
      exact ⟨_, by rw [HE0.out] <;> rfl, by rw [FIN.out]; exact ownsRow_base OW.out U3.out.size, U3.out.trans UF.out⟩
    have hlti : (k : Int) < N := by omega
    have hk1 : (k : Int) + 1 ≤ 1000 := by omega
    have hkl : k < ms.length := by rw [HN.out]; exact hlt
    obtain ⟨g, o, rfl, hcell⟩ := CELL.out _ UP.out (by omega)
    have m0 := hcell k hkl
    have GIN := hid (fun c => giveL_in (h := hs) (l := l) (ms := ms) hkl bd c)
    have GEND := hid (fun c d => giveL_end (h := hs) (l := l) (ms := ms) (b := bd) hkl c d)
    have GOUT := hid (fun c d => giveL_out (h := hs) (l := l) (ms := ms) (b := bd) hkl c d)
    obtain ⟨m, hm⟩ : ∃ m, ms[k] = m := ⟨_, rfl⟩
    have MM1 := hid (MS.out m (hm ▸ List.getElem_mem hkl))
    have MW := hid (show (Lit.int .i64 m).wf = true from iwf (SI.out m (hm ▸ List.getElem_mem hkl)))
    rw [hm] at m0 GIN GEND GOUT
    clear hcell hm
    go_wp2_with fail
    refine (in_any _ _ l m _ (ownsRow_upd PL.out UF.out fun _ _ => id) (by have := LL.out; have := HL.out; omega)).mono ?_
    rintro en w3 ⟨rfl, u⟩
    have UF3 := hid (UF.out.trans u)
    have UP3 := hid (UP.out.trans (u.mono fun _ q => q.elim))
    have OW3 := hid (ownsRow_upd OW.out u fun _ _ => id : TxsAt w3 y2.heap.size (.slice ao out.length co) out)
    clear u m0
    by_cases hin : InR l m
    case pos =>
      rw [decide_eq_true hin]
      have ST := hid (GIN.out hin)
      go_wp2_with fail
      go_roundg (N - (k + 1))
      case measure => have := HG.out; omega
      case rel => exact ⟨k + 1, by omega, rfl, by go_num, bd, out, rfl, HB.out, OW3.out, Nat.le_succ_of_le OL.out, by rw [← ST.out]; exact TOT.out, UP3.out⟩
    rw [decide_eq_false hin]
    replace GEND := hid (fun d => GEND.out hin d)
    replace GOUT := hid (fun d => GOUT.out hin d)
    clear hin GIN
    go_wp2_with fail
    refine (hsigned_any (HY.out.his.keep UF3.out) m MW.out).mono ?_
    rintro en w4 ⟨rfl, u⟩
    rw [signed_sg]
    have SW := sg_wf HH.out.plain HH.out.gnd.ring.ok (Nat.le_trans HH.out.few (by decide)) MM1.out
    have HSG := hid (show True from trivial)
    obtain ⟨sg, hsg⟩ : ∃ sg, sgM hs m = sg := ⟨_, rfl⟩
    rw [hsg] at SW GEND GOUT ⊢
    obtain ⟨key, text, mark⟩ := sg
    obtain ⟨⟨sw1, sw2⟩, ⟨sw3, sw4⟩, sw5⟩ := SW
    have sw1 : 0 ≤ key := sw1
    have sw2 : key < 200 := sw2
    have sw3 : 0 ≤ mark := sw3
    have sw4 : mark < 4000 := sw4
    have sw5 : text.length ≤ 1000000 := sw5
    have UF4 := hid (UF3.out.trans u)
    have UP4 := hid (UP3.out.trans (u.mono fun _ q => q.elim))
    have OW4 := hid (ownsRow_upd OW3.out u fun _ _ => id : TxsAt w4 y2.heap.size (.slice ao out.length co) out)
    have J0 : Hid (I64 key) := hid (by unfold I64; omega)
    have J1 : Hid (I64 mark) := hid (by unfold I64; omega)
    have J2 : Hid (text.length ≤ 10000000) := hid (by omega)
    have n0 := numE_len J0.out
    have n1 := numE_len J1.out
    have n2 : (textE text).length ≤ 1000100 := by
      unfold textE
      rw [List.length_append, List.length_cons, List.length_append, List.length_singleton]
      have := itoa_len_small text.length (by omega)
      omega
    obtain ⟨e0, he0⟩ : ∃ y, numE key = y := ⟨_, rfl⟩
    obtain ⟨e1, he1⟩ : ∃ y, numE mark = y := ⟨_, rfl⟩
    obtain ⟨e2, he2⟩ : ∃ y, textE text = y := ⟨_, rfl⟩
    obtain ⟨p1, v1⟩ : ∃ y, e0 ++ e1 = y := ⟨_, rfl⟩
    obtain ⟨p2, v2⟩ : ∃ y, p1 ++ e2 = y := ⟨_, rfl⟩
    have hsp : sgE ⟨key, text, mark⟩ = p2 := by unfold sgE; rw [← v2, ← v1, ← he0, ← he1, ← he2]
    have vl1 : p1.length = e0.length + e1.length := by rw [← v1, List.length_append]
    have vl2 : p2.length = p1.length + e2.length := by rw [← v2, List.length_append]
    rw [hsp] at GEND GOUT
    rw [he0] at n0
    rw [he1] at n1
    rw [he2] at n2
    have va1 : ∀ w, (Op.stringOp .add ⟨e0.toArray⟩ ⟨e1.toArray⟩).run Tryz.prog w = .ok (.string ⟨p1.toArray⟩) w := fun w => by rw [← v1]; exact add_lists _ _ (by omega) w
    have va2 : ∀ w, (Op.stringOp .add ⟨p1.toArray⟩ ⟨e2.toArray⟩).run Tryz.prog w = .ok (.string ⟨p2.toArray⟩) w := fun w => by rw [← v2]; exact add_lists _ _ (by omega) w
    have PL2 := hid (show p2.length ≤ 2000000 by omega)
    have HE0k := hid he0; have HE1k := hid he1; have HE2k := hid he2
    obtain ⟨W1, hW1⟩ : ∃ W1, W1 = w4.alloc (.cells #[.int .i64 key, .string ⟨text.toArray⟩, .int .i64 mark] 49 (0, 0)) := ⟨_, rfl⟩
    have hb1 : W1.heap[w4.heap.size]? = some (.cells #[.int .i64 key, .string ⟨text.toArray⟩, .int .i64 mark] 49 (0, 0)) := by rw [hW1]; exact heap_alloc_new
    have u1 : Upd (fun _ => False) w4 W1 := by rw [hW1]; exact (Upd.refl _ _).alloc _
    have HW1 := hid hW1
    have UW := hid (U3.out.trans (UF4.out.trans u1))
    have UPW := hid (UP4.out.trans (u1.mono fun _ q => q.elim))
    have OWW := hid (ownsRow_upd OW4.out u1 fun _ _ => id : TxsAt W1 y2.heap.size (.slice ao out.length co) out)
    have qY0 : Hid (W1.drew.heap[w4.heap.size]? = _) := hid hb1
    have qV0 := hid ((Upd.refl (fun _ => False) W1).drew)
    clear u hsg sw1 sw2 sw3 sw4 sw5 n0 n1 n2 he0 he1 he2 v1 v2 vl1 vl2 hsp hW1 hb1 u1 UF UF3 UF4 UP UP3 UP4 OW OW3 OW4
    unfold sgV
    go_upto_region 10 with (fail)
    try rw [← HW1.out]
    first | (go_region_held3 (fun w' => w'.cell? ⟨w4.heap.size, 0, none⟩ = some (.int .i64 key) ∧ w'.cell? ⟨w4.heap.size, 1, none⟩ = some (.string ⟨text.toArray⟩) ∧ w'.cell? ⟨w4.heap.size, 2, none⟩ = some (.int .i64 mark)) (first | with_reducible exact sg_cells qY0.out | with_reducible exact sg_cells qY1.out | with_reducible exact sg_cells qY2.out | with_reducible exact sg_cells qY3.out | go_keep) (first | (go_at_call 25; with_reducible refine (show Calls _ _ _ _ (fun e w' => e = .returned (.string ⟨e0.toArray⟩) ∧ Upd (fun _ => False) _ w') from by rw [← HE0k.out]; exact numE_any key J0.out _ (HH.out.gnd.env.keep0 (UW.out.trans qV0.out))).mono ?_; rintro en wq1 ⟨rfl, u⟩; have qY1 := hid ((u.block _ (heap_lt qY0.out) id).trans qY0.out); have qV1 := hid (qV0.out.trans u); clear u) | (go_at_call 25; with_reducible refine (show Calls _ _ _ _ (fun e w' => e = .returned (.string ⟨e1.toArray⟩) ∧ Upd (fun _ => False) _ w') from by rw [← HE1k.out]; exact numE_any mark J1.out _ (HH.out.gnd.env.keep0 (UW.out.trans qV1.out))).mono ?_; rintro en wq2 ⟨rfl, u⟩; have qY2 := hid ((u.block _ (heap_lt qY1.out) id).trans qY1.out); have qV2 := hid (qV1.out.trans u); clear u) | (go_at_call 103; with_reducible refine (show Calls _ _ _ _ (fun e w' => e = .returned (.string ⟨e2.toArray⟩) ∧ Upd (fun _ => False) _ w') from by rw [← HE2k.out]; exact textE_any text J2.out _ (HH.out.gnd.env.keep0 (UW.out.trans qV2.out))).mono ?_; rintro en wq3 ⟨rfl, u⟩; have qY3 := hid ((u.block _ (heap_lt qY2.out) id).trans qY2.out); have qV3 := hid (qV2.out.trans u); clear u))) | fail
    have UX := hid (UW.out.trans qV3.out)
    have UPX := hid (UPW.out.trans (qV3.out.mono fun _ q => q.elim : Upd (fun j => y2.heap.size ≤ j) W1 wq3))
    have row := ownsRow_upd OWW.out qV3.out fun _ _ => id
    clear qY0 qY1 qY2 qY3 qV0 qV1 qV2 qV3 va1 va2 UW UPW OWW HE0k HE1k HE2k
    by_cases hb : bd < (p2.length : Int)
    case pos =>
      have FIN := hid (show giveV hs s bud = out by rw [GV.out, ← TOT.out, GEND.out hb, List.append_nil])
      have ROW := hid (row : TxsAt wq3 y2.heap.size (.slice ao out.length co) out)
      clear row
      go_wp2_with fail
      go_ret2
      exact ⟨_, by rw [HE0.out] <;> rfl, by rw [FIN.out]; exact ownsRow_base ROW.out U3.out.size, UX.out⟩
    have ST := hid (GOUT.out (by first | exact hb | omega))
    have HB1 := HB.out
    have s0 : -9223372036854775808 ≤ bd - (p2.length : Int) := by omega
    have s1 : bd - (p2.length : Int) ≤ 9223372036854775807 := by have := HB1.2; omega
    have NB := hid (show I64 (bd - (p2.length : Int)) from ⟨s0, s1⟩)
    obtain ⟨v', w5, r5, o5, u5, n5⟩ := append_one elemS row #[.string ⟨p2.toArray⟩] rfl (by simp [Value.oneCell']) (by have := OL.out; unfold maxLen; omega) (by have := OL.out; omega) UPX.out.size 55 (0, 0)
    have O5 := hid o5; have R5 := hid r5
    have U5 := hid (show Upd (fun j => y2.heap.size ≤ j) wq3 w5 from u5.mono fun j hj => (txs_lt (w := wq3) (l := out) row j hj).1)
    clear row o5 r5 u5 n5
    go_wp2_with (at_builtin; refine wpList_append_run rfl _ _ _ _ rfl rfl rfl R5.out ?_)
    go_roundg (N - (k + 1))
    case measure => have := HG.out; omega
    case rel =>
      refine ⟨k + 1, by omega, rfl, by go_num, bd - (p2.length : Int), out ++ [p2], rfl, NB.out, ?_, by rw [List.length_append, List.length_singleton]; have := OL.out; omega, ?_, UPX.out.trans U5.out⟩
      · unfold TxsAt
        rw [List.length_append, List.map_append]
        exact O5.out
      · rw [← TOT.out, ST.out, List.append_assoc]
        rfl
end Go.Proofs.YtjkmalddfoemhaaGreatDoor
namespace Go.Proofs.YtjkmalddfoemhaaGreatDoor
open Go.RowKit Go.Deep

set_option maxRecDepth 100000 in
set_option maxHeartbeats 4000000 in
theorem rin12_any (B : Nat) (v : Value) (l : List (Int × Int)) (n : Int) (w : World) (h : PrsAt w B v l) (hl : l.length ≤ 1000000000) : Calls Tryz.prog 24 #[v, .int .i64 n] w fun e w' => e = .returned (.bool (decide (InR l n))) ∧ w = w' := by
  obtain ⟨a, cap, rfl, hs1, hs2⟩ := prs_slice h
  have hs2 : cap ≤ 9223372036854775807 := hs2
  have CELL := hid (fun (hp : 0 < l.length) => (show ∃ g, a = some ⟨g, 0, none⟩ ∧ ∀ k (hk : k < l.length), w.cell? ⟨g, k * 2, none⟩ = some (.int .i64 l[k].1) ∧ w.cell? ⟨g, k * 2 + 1, none⟩ = some (.int .i64 l[k].2) from by
    obtain ⟨g, c2, e, _, _, _, hgl, hc⟩ := PrsAt.get h hp
    injection e with e1 _ _
    exact ⟨g, e1, hc⟩))
  have HL := hid hl
  clear h hl
  go_enter Tryz.func24, Tryz.ntmps24
  go_wp2_with fail
  go_loopg [5] l.length (fun gg s5 wr => ∃ k : Nat, k ≤ l.length ∧ gg = l.length - k ∧ s5 = .int .i64 k ∧ (InR l n ↔ InR (l.drop k) n) ∧ w = wr)
  case atStart => exact ⟨0, Nat.zero_le _, rfl, rfl, by rw [List.drop_zero], rfl⟩
  case round =>
    obtain ⟨k, hk, hg, rfl, hi, rfl⟩ := hrel
    have HG := hid hg; have HI := hid hi
    clear hg hi
    by_cases hlt : k < l.length
    case neg =>
      have hlti : ¬ (k : Int) < l.length := by omega
      have NO := hid (show ¬ InR l n from fun q => by
        have q := HI.out.1 q
        rw [List.drop_of_length_le (by omega)] at q
        obtain ⟨p, hp, _⟩ := q
        cases hp)
      go_wp2_with fail
      go_ret
      exact ⟨by rw [decide_eq_false NO.out] <;> rfl, rfl⟩
    have hlti : (k : Int) < l.length := by omega
    have hk1 : (k : Int) + 1 ≤ 9223372036854775807 := by have := HL.out; omega
    obtain ⟨g, rfl, hc⟩ := CELL.out (by omega)
    obtain ⟨c0, c1⟩ := hc k hlt
    have DR := hid (show InR l n ↔ (l[k].1 ≤ n ∧ n < l[k].2) ∨ InR (l.drop (k + 1)) n by rw [HI.out, List.drop_eq_getElem_cons hlt, inR_cons])
    obtain ⟨p, hp⟩ : ∃ p, l[k] = p := ⟨_, rfl⟩
    rw [hp] at c0 c1 DR
    obtain ⟨x1, x2⟩ := p
    clear hc hp
    by_cases t1 : x1 ≤ n
    case neg =>
      have d1 : decide (x1 ≤ n) = false := decide_eq_false t1
      have ST := hid (show InR l n ↔ InR (l.drop (k + 1)) n from ⟨fun q => (DR.out.1 q).elim (fun z => absurd z.1 t1) id, fun q => DR.out.2 (.inr q)⟩)
      go_wp2_with fail
      go_roundg (l.length - (k + 1))
      case measure => have := HG.out; omega
      case rel => exact ⟨k + 1, by omega, rfl, by go_num, ST.out, rfl⟩
    have d1 : decide (x1 ≤ n) = true := decide_eq_true t1
    by_cases t2 : n < x2
    case neg =>
      have d2 : decide (n < x2) = false := decide_eq_false t2
      have ST := hid (show InR l n ↔ InR (l.drop (k + 1)) n from ⟨fun q => (DR.out.1 q).elim (fun z => absurd z.2 t2) id, fun q => DR.out.2 (.inr q)⟩)
      go_wp2_with fail
      go_roundg (l.length - (k + 1))
      case measure => have := HG.out; omega
      case rel => exact ⟨k + 1, by omega, rfl, by go_num, ST.out, rfl⟩
    have d2 : decide (n < x2) = true := decide_eq_true t2
    have YES := hid (DR.out.2 (.inl ⟨t1, t2⟩))
    go_wp2_with fail
    go_ret
    exact ⟨by rw [decide_eq_true YES.out] <;> rfl, rfl⟩
set_option maxRecDepth 100000 in
set_option maxHeartbeats 4000000 in
theorem within_any (A C : Nat → Prop) (va vb : Value) (a b : List Int) (w : World) (ha : kInts.rep A w [va] a) (hb : kInts.rep C w [vb] b) (h1 : a.Pairwise (· < ·)) (h2 : b.Pairwise (· < ·)) (hs : ∀ x ∈ a, x ∈ b) (hla : a.length ≤ 1000) (hlb : b.length ≤ 1000) (hA : ∀ g, A g → g < w.heap.size) (hC : ∀ g, C g → g < w.heap.size) : Calls Tryz.prog 34 #[va, vb] w fun e w' => e = .returned (.bool true) ∧ Upd (fun _ => False) w w' := by
  obtain ⟨pa, ca, rfl, a1, a2, a3⟩ := slice_open ha
  obtain ⟨pb, cb, rfl, b1, b2, b3⟩ := slice_open hb
  have a2 : ca ≤ 9223372036854775807 := a2
  have b2 : cb ≤ 9223372036854775807 := b2
  have CA := hid (fun (y : World) (u : Upd (fun _ => False) w y) (hp : 0 < a.length) => (show ∃ g o, pa = some ⟨g, o, none⟩ ∧ ∀ k (hk : k < a.length), y.cell? ⟨g, o + k, none⟩ = some (.int .i64 a[k]) from by
    obtain ⟨g, o, e, hg, hel⟩ := a3 hp
    exact ⟨g, o, e, fun k hk => cell_kept (int_cells hel hk) (u.block g (hA g hg) id)⟩))
  have CB := hid (fun (y : World) (u : Upd (fun _ => False) w y) (hp : 0 < b.length) => (show ∃ g o, pb = some ⟨g, o, none⟩ ∧ ∀ k (hk : k < b.length), y.cell? ⟨g, o + k, none⟩ = some (.int .i64 b[k]) from by
    obtain ⟨g, o, e, hg, hel⟩ := b3 hp
    exact ⟨g, o, e, fun k hk => cell_kept (int_cells hel hk) (u.block g (hC g hg) id)⟩))
  have H1 := hid (List.pairwise_iff_getElem.1 h1); have H2 := hid (List.pairwise_iff_getElem.1 h2); have HS := hid hs
  clear ha hb h1 h2 hs a3 b3 hA hC
  obtain ⟨la, hla'⟩ : ∃ n, a.length = n := ⟨_, rfl⟩
  obtain ⟨lb, hlb'⟩ : ∃ n, b.length = n := ⟨_, rfl⟩
  have LA := hid hla'; have LB := hid hlb'
  rw [hla'] at a1 hla ⊢
  rw [hlb'] at b1 hlb ⊢
  clear hla' hlb'
  go_enter Tryz.func34, Tryz.ntmps34
  go_wp2_with fail
  go_loopg [5, 6] la (fun gg s5 s6 wr => ∃ i k : Nat, i ≤ la ∧ gg = la - i ∧ s6 = .int .i64 i ∧ s5 = .int .i64 k ∧ k ≤ lb ∧ (∀ j (hj : j < b.length), j < k → ∀ i' (hi : i' < a.length), i ≤ i' → b[j] < a[i']) ∧ Upd (fun _ => False) w wr)
  case atStart => exact ⟨0, 0, Nat.zero_le _, rfl, rfl, rfl, Nat.zero_le _, fun j hj c => absurd c (Nat.not_lt_zero _), Upd.refl _ _⟩
  case round =>
    obtain ⟨i, k, hi, hg, rfl, rfl, hk, hp, u⟩ := hrel
    have GO := hid hg; have HP := hid hp; have UO := hid u
    clear hg hp u
    by_cases hlt : i < la
    case neg =>
      have hlti : ¬ (i : Int) < la := by omega
      go_wp2_with fail
      go_ret
      exact ⟨rfl, UO.out⟩
    have hlti : (i : Int) < la := by omega
    have hi1 : (i : Int) + 1 ≤ 9223372036854775807 := by omega
    have hil : i < a.length := by rw [LA.out]; exact hlt
    obtain ⟨ga, oa, rfl, hca⟩ := CA.out _ UO.out (by omega)
    have HCA := hid (fun y u => CA.out y u (by omega))
    obtain ⟨x, hx⟩ : ∃ x, a[i] = x := ⟨_, rfl⟩
    have XB := hid (HS.out x (hx ▸ List.getElem_mem hil))
    have HX := hid hx
    have hbp : 0 < b.length := List.length_pos_of_mem XB.out
    have HPI := hid (fun j hj c => HP.out j hj c i hil (Nat.le_refl _))
    rw [hx] at HPI
    clear hca hx
    go_wp2_with fail
    have K0 := hid hk
    go_loopg [5] (lb - k) (fun gg s5 wr => ∃ k : Nat, k ≤ lb ∧ gg = lb - k ∧ s5 = .int .i64 k ∧ (∀ j (hj : j < b.length), j < k → b[j] < x) ∧ Upd (fun _ => False) w wr)
    case atStart => exact ⟨k, K0.out, rfl, rfl, HPI.out, UO.out⟩
    case round =>
      obtain ⟨k, hk, hg, rfl, hp, u⟩ := hrel
      have HG := hid hg; have HQ := hid hp; have UI := hid u
      clear hg hp HPI K0 u
      by_cases hkl : k < lb
      case neg =>
        exfalso
        obtain ⟨j, hj, e⟩ := List.getElem_of_mem XB.out
        have := HQ.out j hj (by rw [← LB.out] at hkl; omega)
        omega
      have hkli : (k : Int) < lb := by omega
      have hkd : decide ((k : Int) < (lb : Int)) = true := decide_eq_true hkli
      have hkn : ¬ (lb : Int) ≤ k := by omega
      have hknd : decide ((lb : Int) ≤ k) = false := decide_eq_false hkn
      have hk1 : (k : Int) + 1 ≤ 9223372036854775807 := by omega
      have hkb : k < b.length := by rw [LB.out]; exact hkl
      obtain ⟨gb, ob, rfl, hcb⟩ := CB.out _ UI.out hbp
      have m1 := hcb k hkb
      obtain ⟨ga', oa', ea, hca⟩ := HCA.out _ UI.out
      cases ea
      have m0 := hca i hil
      rw [HX.out] at m0
      clear hca hcb
      obtain ⟨y, hy⟩ : ∃ y, b[k] = y := ⟨_, rfl⟩
      have HY := hid hy
      rw [hy] at m1
      clear hy
      by_cases t : y < x
      case pos =>
        have td : decide (y < x) = true := decide_eq_true t
        go_wp2_with (first | go_quiet (fail) | fail)
        go_roundg (lb - (k + 1))
        case measure => have := HG.out; omega
        case rel =>
          refine ⟨k + 1, by omega, rfl, by go_num, fun j hj c => ?_, UI.out.drewN _⟩
          by_cases e : j = k
          · subst e; rw [HY.out]; exact t
          · exact HQ.out j hj (by omega)
      have td : decide (y < x) = false := decide_eq_false t
      have YX : y = x := by
        obtain ⟨j, hj, e⟩ := List.getElem_of_mem XB.out
        by_cases c : j < k
        · have := HQ.out j hj c; omega
        · by_cases c2 : j = k
          · subst c2; rw [← HY.out, e]
          · have := H2.out k j hkb hj (by omega)
            rw [HY.out, e] at this
            exact absurd this t
      subst YX
      have te : (y == y) = true := beq_self_eq_true y
      go_wp2_with (first | go_quiet (fail) | fail)
      go_roundg (la - (i + 1))
      case measure => have := GO.out; omega
      case rel =>
        refine ⟨i + 1, k, by omega, rfl, by go_num, rfl, hk, fun j hj c i' hi' d => ?_, (UI.out.drewN _)⟩
        have q1 := HQ.out j hj c
        have q2 := H1.out i i' hil hi' (by omega)
        rw [HX.out] at q2
        omega
/-- The sum of the bytes of texts. -/
def sizeTo (l : List (List UInt8)) (k : Nat) : Int := bytesL (l.take k)
theorem sizeTo_succ {l : List (List UInt8)} {k : Nat} (hk : k < l.length) : sizeTo l (k + 1) = sizeTo l k + (l[k].length : Int) := by
  unfold sizeTo bytesL
  rw [List.take_succ_eq_append_getElem hk, List.map_append, List.sum_append]
  simp
theorem sizeTo_all {l : List (List UInt8)} {k : Nat} (hk : l.length ≤ k) : sizeTo l k = bytesL l := by unfold sizeTo; rw [List.take_of_length_le hk]
theorem sizeTo_le {l : List (List UInt8)} {m : Int} (hm : ∀ t ∈ l, (t.length : Int) ≤ m) : ∀ k, k ≤ l.length → 0 ≤ sizeTo l k ∧ sizeTo l k ≤ m * k
  | 0, _ => by constructor <;> simp [sizeTo, bytesL]
  | k + 1, hk => by
    have h1 := sizeTo_le hm k (by omega)
    have h2 := hm _ (List.getElem_mem (show k < l.length by omega))
    rw [sizeTo_succ (by omega)]
    have e : m * ((k + 1 : Nat) : Int) = m * k + m := by rw [Int.natCast_add, Int.mul_add]; simp
    rw [e]
    omega
set_option maxRecDepth 100000 in
set_option maxHeartbeats 4000000 in
theorem size_any (B : Nat) (v : Value) (l : List (List UInt8)) (w : World) (h : TxsAt w B v l) (hl : l.length ≤ 1000) (hm : ∀ t ∈ l, (t.length : Int) ≤ 2000000) : Calls Tryz.prog 162 #[v] w fun e w' => e = .returned (.int .i64 (bytesL l)) ∧ w = w' := by
  obtain ⟨a, cap, rfl, hs1, hs2⟩ := own_slice h
  have hs2 : cap ≤ 9223372036854775807 := hs2
  have CELL := hid (fun (hp : 0 < l.length) => (show ∃ g, a = some ⟨g, 0, none⟩ ∧ ∀ k (hk : k < l.length), w.cell? ⟨g, k, none⟩ = some (.string ⟨l[k].toArray⟩) from by
    obtain ⟨g, c2, e, _, _, _, hgl, hc⟩ := TxsAt.get h hp
    injection e with e1 _ _
    exact ⟨g, e1, hc⟩))
  have HM := hid hm; have SZ := hid (sizeTo_le hm)
  clear h hm
  go_enter Tryz.func162, Tryz.ntmps162
  go_wp2_with fail
  go_loopg [3, 8] l.length (fun gg s3 s8 wr => ∃ k : Nat, k ≤ l.length ∧ gg = l.length - k ∧ s8 = .int .i64 k ∧ s3 = .int .i64 (sizeTo l k) ∧ w = wr)
  case atStart => exact ⟨0, Nat.zero_le _, rfl, rfl, rfl, rfl⟩
  case round =>
    obtain ⟨k, hk, hg, rfl, rfl, rfl⟩ := hrel
    have HG := hid hg
    clear hg
    by_cases hlt : k < l.length
    case neg =>
      have hlti : ¬ (k : Int) < l.length := by omega
      have KE := hid (sizeTo_all (l := l) (k := k) (by omega))
      go_wp2_with fail
      go_ret
      exact ⟨by rw [KE.out] <;> rfl, rfl⟩
    have hlti : (k : Int) < l.length := by omega
    have hk1 : (k : Int) + 1 ≤ 9223372036854775807 := by omega
    obtain ⟨g, rfl, hc⟩ := CELL.out (by omega)
    have c0 := hc k hlt
    have ST := hid (sizeTo_succ hlt)
    have t1 := HM.out _ (List.getElem_mem hlt)
    obtain ⟨t2, t3⟩ := SZ.out k hk
    obtain ⟨t, ht⟩ : ∃ t, l[k] = t := ⟨_, rfl⟩
    rw [ht] at c0 ST t1
    obtain ⟨z, hz⟩ : ∃ z, sizeTo l k = z := ⟨_, rfl⟩
    rw [hz] at ST t2 t3 ⊢
    have z0 : -9223372036854775808 ≤ z + (t.length : Int) := by omega
    have z1 : z + (t.length : Int) ≤ 9223372036854775807 := by omega
    clear hc ht hz
    go_wp2_with fail
    go_roundg (l.length - (k + 1))
    case measure => have := HG.out; omega
    case rel => exact ⟨k + 1, by omega, rfl, by go_num, by rw [ST.out], rfl⟩
set_option maxRecDepth 100000 in
set_option maxHeartbeats 4000000 in
theorem texts12_any (B C : Nat) (v1 v2 : Value) (l : List (List UInt8)) (w : World) (h1 : TxsAt w B v1 l) (h2 : TxsAt w C v2 l) (hl : l.length ≤ 1000) : Calls Tryz.prog 89 #[v1, v2] w fun e w' => e = .returned (.bool true) ∧ Upd (fun _ => False) w w' := by
  obtain ⟨a, cap, rfl, hs1, hs2⟩ := own_slice h1
  obtain ⟨b, cbp, rfl, hb1, hb2⟩ := own_slice h2
  have hs2 : cap ≤ 9223372036854775807 := hs2
  have hb2 : cbp ≤ 9223372036854775807 := hb2
  have CA := hid (fun (y : World) (u : Upd (fun _ => False) w y) (hp : 0 < l.length) => (show ∃ g, a = some ⟨g, 0, none⟩ ∧ ∀ k (hk : k < l.length), y.cell? ⟨g, k, none⟩ = some (.string ⟨l[k].toArray⟩) from by
    obtain ⟨g, c2, e, _, _, _, hgl, hc⟩ := TxsAt.get h1 hp
    injection e with e1 _ _
    exact ⟨g, e1, fun k hk => cell_kept (hc k hk) (u.block g hgl id)⟩))
  have CB := hid (fun (y : World) (u : Upd (fun _ => False) w y) (hp : 0 < l.length) => (show ∃ g, b = some ⟨g, 0, none⟩ ∧ ∀ k (hk : k < l.length), y.cell? ⟨g, k, none⟩ = some (.string ⟨l[k].toArray⟩) from by
    obtain ⟨g, c2, e, _, _, _, hgl, hc⟩ := TxsAt.get h2 hp
    injection e with e1 _ _
    exact ⟨g, e1, fun k hk => cell_kept (hc k hk) (u.block g hgl id)⟩))
  clear h1 h2
  have t0 : ((l.length : Int) == (l.length : Int)) = true := beq_self_eq_true _
  go_enter Tryz.func89, Tryz.ntmps89
  go_wp2_with fail
  go_loopg [5] l.length (fun gg s5 wr => ∃ k : Nat, k ≤ l.length ∧ gg = l.length - k ∧ s5 = .int .i64 k ∧ Upd (fun _ => False) w wr)
  case atStart => exact ⟨0, Nat.zero_le _, rfl, rfl, Upd.refl _ _⟩
  case round =>
    obtain ⟨k, hk, hg, rfl, u⟩ := hrel
    have HG := hid hg; have UR := hid u
    clear hg u
    by_cases hlt : k < l.length
    case neg =>
      have hlti : ¬ (k : Int) < l.length := by omega
      go_wp2_with fail
      go_ret
      exact ⟨rfl, UR.out⟩
    have hlti : (k : Int) < l.length := by omega
    have hk1 : (k : Int) + 1 ≤ 9223372036854775807 := by omega
    obtain ⟨g, rfl, hc⟩ := CA.out _ UR.out (by omega)
    obtain ⟨g2, rfl, hd⟩ := CB.out _ UR.out (by omega)
    have c0 := hc k hlt
    have c1 := hd k hlt
    obtain ⟨t, ht⟩ : ∃ t, l[k] = t := ⟨_, rfl⟩
    rw [ht] at c0 c1
    clear hc hd ht
    go_wp2_with (first | go_quiet (fail) | fail)
    go_roundg (l.length - (k + 1))
    case measure => have := HG.out; omega
    case rel => exact ⟨k + 1, by omega, rfl, by go_num, by first | exact UR.out | exact UR.out.drew | exact UR.out.drewN _⟩

set_option maxRecDepth 100000 in
set_option maxHeartbeats 4000000 in
theorem text12_any (key mark : Int) (text : List UInt8) (w : World) (sw1 : 0 ≤ key) (sw2 : key < 200) (sw3 : 0 ≤ mark) (sw4 : mark < 4000) (sw5 : text.length ≤ 1000000) : Calls Tryz.prog 90 #[.agg #[.int .i64 key, .string ⟨text.toArray⟩, .int .i64 mark]] w fun e w' => e = .returned (.string ⟨(sgE ⟨key, text, mark⟩).toArray⟩) ∧ Upd (fun _ => False) w w' := by
  have J0 : Hid (I64 key) := hid (by unfold I64; omega)
  have J1 : Hid (I64 mark) := hid (by unfold I64; omega)
  have J2 : Hid (text.length ≤ 10000000) := hid (by omega)
  have n0 := numE_len J0.out
  have n1 := numE_len J1.out
  have n2 : (textE text).length ≤ 1000100 := by
    unfold textE
    rw [List.length_append, List.length_cons, List.length_append, List.length_singleton]
    have := itoa_len_small text.length (by omega)
    omega
  obtain ⟨e0, he0⟩ : ∃ y, numE key = y := ⟨_, rfl⟩
  obtain ⟨e1, he1⟩ : ∃ y, numE mark = y := ⟨_, rfl⟩
  obtain ⟨e2, he2⟩ : ∃ y, textE text = y := ⟨_, rfl⟩
  obtain ⟨p1, v1⟩ : ∃ y, e0 ++ e1 = y := ⟨_, rfl⟩
  obtain ⟨p2, v2⟩ : ∃ y, p1 ++ e2 = y := ⟨_, rfl⟩
  have hsp : sgE ⟨key, text, mark⟩ = p2 := by unfold sgE; rw [← v2, ← v1, ← he0, ← he1, ← he2]
  have vl1 : p1.length = e0.length + e1.length := by rw [← v1, List.length_append]
  have vl2 : p2.length = p1.length + e2.length := by rw [← v2, List.length_append]
  rw [he0] at n0
  rw [he1] at n1
  rw [he2] at n2
  rw [hsp]
  have va1 : ∀ w, (Op.stringOp .add ⟨e0.toArray⟩ ⟨e1.toArray⟩).run Tryz.prog w = .ok (.string ⟨p1.toArray⟩) w := fun w => by rw [← v1]; exact add_lists _ _ (by omega) w
  have va2 : ∀ w, (Op.stringOp .add ⟨p1.toArray⟩ ⟨e2.toArray⟩).run Tryz.prog w = .ok (.string ⟨p2.toArray⟩) w := fun w => by rw [← v2]; exact add_lists _ _ (by omega) w
  have HE0k := hid he0; have HE1k := hid he1; have HE2k := hid he2
  obtain ⟨W1, hW1⟩ : ∃ W1, W1 = w.alloc (.cells #[.int .i64 key, .string ⟨text.toArray⟩, .int .i64 mark] 49 (0, 0)) := ⟨_, rfl⟩
  have hb1 : W1.heap[w.heap.size]? = some (.cells #[.int .i64 key, .string ⟨text.toArray⟩, .int .i64 mark] 49 (0, 0)) := by rw [hW1]; exact heap_alloc_new
  have HW1 := hid hW1
  have UW := hid (show Upd (fun _ => False) w W1 by rw [hW1]; exact (Upd.refl _ _).alloc _)
  have qY0 : Hid (W1.drew.heap[w.heap.size]? = _) := hid hb1
  have qV0 := hid ((Upd.refl (fun _ => False) W1).drew)
  clear sw1 sw2 sw3 sw4 sw5 n0 n1 n2 he0 he1 he2 v1 v2 vl1 vl2 hsp hW1 hb1
  go_enter Tryz.func90, Tryz.ntmps90
  go_upto_region 1 with (fail)
  try rw [← HW1.out]
  first | (go_region_held3 (fun w' => w'.cell? ⟨w.heap.size, 0, none⟩ = some (.int .i64 key) ∧ w'.cell? ⟨w.heap.size, 1, none⟩ = some (.string ⟨text.toArray⟩) ∧ w'.cell? ⟨w.heap.size, 2, none⟩ = some (.int .i64 mark)) (first | with_reducible exact sg_cells qY0.out | with_reducible exact sg_cells qY1.out | with_reducible exact sg_cells qY2.out | with_reducible exact sg_cells qY3.out | go_keep) (first | (go_at_call 163; with_reducible refine (show Calls _ _ _ _ (fun e w' => e = .returned (.string ⟨e0.toArray⟩) ∧ Upd (fun _ => False) _ w') from by rw [← HE0k.out]; exact qNum_any key J0.out _).mono ?_; rintro en wq1 ⟨rfl, u⟩; have qY1 := hid ((u.block _ (heap_lt qY0.out) id).trans qY0.out); have qV1 := hid (qV0.out.trans u); clear u) | (go_at_call 163; with_reducible refine (show Calls _ _ _ _ (fun e w' => e = .returned (.string ⟨e1.toArray⟩) ∧ Upd (fun _ => False) _ w') from by rw [← HE1k.out]; exact qNum_any mark J1.out _).mono ?_; rintro en wq2 ⟨rfl, u⟩; have qY2 := hid ((u.block _ (heap_lt qY1.out) id).trans qY1.out); have qV2 := hid (qV1.out.trans u); clear u) | (go_at_call 164; with_reducible refine (show Calls _ _ _ _ (fun e w' => e = .returned (.string ⟨e2.toArray⟩) ∧ Upd (fun _ => False) _ w') from by rw [← HE2k.out]; exact qText_any text J2.out _).mono ?_; rintro en wq3 ⟨rfl, u⟩; have qY3 := hid ((u.block _ (heap_lt qY2.out) id).trans qY2.out); have qV3 := hid (qV2.out.trans u); clear u))) | fail
  have UX := hid (UW.out.trans qV3.out)
  clear qY0 qY1 qY2 qY3 qV0 qV1 qV2 qV3 va1 va2 UW HE0k HE1k HE2k
  go_wp2_with fail
  go_ret
  exact ⟨rfl, UX.out⟩
/-- The texts of the signatures of a history, in the order of marks. -/
def sgTexts (h : Hs) (ms : List Int) : List (List UInt8) := ms.map fun m => sgE (sgM h m)
set_option maxRecDepth 100000 in
set_option maxHeartbeats 8000000 in
theorem longest_any {O Or : Nat → Prop} {b r : Nat} {hs : Hs} {R : Rg} {w : World} (h : HPre w O Or b r hs R) : Calls Tryz.prog 35 #[.pointer (some ⟨b, 0, none⟩)] w fun e w' => (∃ x : Int, e = .returned (.tuple #[.int .i64 x, .int .i64 (bytesL (sgTexts hs (marksF hs)))])) ∧ Upd (fun _ => False) w w' := by
  have HH := hid h
  have MI := hid (fun x (hx : x ∈ marksF hs) => (show I64 x from by have := marks_small h.plain hx; have := h.few; unfold I64; omega))
  have MS := hid (fun x (hx : x ∈ marksF hs) => (show (idxF hs x).isSome from (mem_marksF hs x).1 hx))
  have SN := hid (show (marksF hs).length ≤ 60 by rw [marksF_len]; have := h.plain.len; have := h.few; omega)
  have TB := hid (show ∀ t ∈ sgTexts hs (marksF hs), (t.length : Int) ≤ 2000000 from fun t ht => by
    obtain ⟨m, hm, rfl⟩ := List.mem_map.1 ht
    obtain ⟨⟨q1, q2⟩, ⟨q3, q4⟩, q5⟩ := sg_wf h.plain h.gnd.ring.ok (Nat.le_trans h.few (by decide)) ((mem_marksF hs m).1 hm)
    have n0 := numE_len (n := (sgM hs m).key) (by unfold I64; omega)
    have n1 := numE_len (n := (sgM hs m).mark) (by unfold I64; omega)
    have n2 : (textE (sgM hs m).text).length ≤ 1000100 := by
      unfold textE
      rw [List.length_append, List.length_cons, List.length_append, List.length_singleton]
      have := itoa_len_small (sgM hs m).text.length (by omega)
      omega
    unfold sgE
    rw [List.length_append, List.length_append]
    omega)
  have SZ := hid (sizeTo_le TB.out)
  clear h
  go_enter Tryz.func35, Tryz.ntmps35
  go_wp2_with fail
  refine (hmarks_any HH.out.his).mono ?_
  rintro en y2 ⟨vm, rfl, ho, u⟩
  have U3 := hid u
  obtain ⟨ms, hms⟩ : ∃ ms, marksF hs = ms := ⟨_, rfl⟩
  rw [hms] at ho MS MI SN TB SZ
  have RS_ := hid (ints_rep ho MI.out)
  obtain ⟨asl, cs, rfl, hs1, hs2⟩ := own_slice ho
  have hs2 : cs ≤ 9223372036854775807 := hs2
  have HY := hid (HH.out.keep U3.out)
  have CELL := hid (fun (y : World) (u : Upd (fun _ => False) y2 y) (hp : 0 < ms.length) => (show ∃ g o, asl = some ⟨g, o, none⟩ ∧ ∀ k (hk : k < ms.length), y.cell? ⟨g, o + k, none⟩ = some (.int .i64 ms[k]) from by
    obtain ⟨a, c, e, _, _, h3⟩ := slice_open RS_.out
    obtain ⟨g, o, ea, hg, hel⟩ := h3 hp
    injection e with e1 _ _
    exact ⟨g, o, by rw [e1, ea], fun k hk => cell_kept (int_cells hel hk) (u.block g hg.2 id)⟩))
  have TL := hid (show (sgTexts hs ms).length = ms.length by unfold sgTexts; rw [List.length_map])
  obtain ⟨N, hN⟩ : ∃ N, ms.length = N := ⟨_, rfl⟩
  have HN := hid hN
  have hN60 : N ≤ 60 := by rw [← hN]; exact SN.out
  have HMS := hid hms
  rw [hN] at hs1 TL ⊢
  clear ho u hms hN RS_
  go_wp2_with fail
  go_loopg [5, 6, 7, 8, 9, 10] N (fun gg s5 s6 s7 _ _ _ wr => ∃ k : Nat, k ≤ N ∧ gg = N - k ∧ s7 = .int .i64 k ∧ (∃ x : Int, s5 = .int .i64 x ∧ 0 ≤ x ∧ x ≤ 2000000) ∧ s6 = .int .i64 (sizeTo (sgTexts hs ms) k) ∧ Upd (fun _ => False) y2 wr)
  case atStart => exact ⟨0, Nat.zero_le _, rfl, rfl, ⟨0, rfl, by omega, by omega⟩, rfl, Upd.refl _ _⟩
  case round =>
    obtain ⟨k, hk, hg, rfl, ⟨x, rfl, hx0, hx1⟩, rfl, u⟩ := hrel
    have HG := hid hg; have UF := hid u; have X0 := hid hx0; have X1 := hid hx1
    clear hg u hx0 hx1
    by_cases hlt : k < N
    case neg =>
      have hlti : ¬ (k : Int) < N := by omega
      have KE := hid (sizeTo_all (l := sgTexts hs ms) (k := k) (by rw [TL.out]; omega))
      go_wp2_with fail
      go_ret2
      exact ⟨⟨x, by rw [KE.out, HMS.out] <;> rfl⟩, U3.out.trans UF.out⟩
    have hlti : (k : Int) < N := by omega
    have hk1 : (k : Int) + 1 ≤ 1000 := by omega
    have hkl : k < ms.length := by rw [HN.out]; exact hlt
    have hkt : k < (sgTexts hs ms).length := by rw [TL.out]; exact hlt
    obtain ⟨g, o, rfl, hcell⟩ := CELL.out _ UF.out (by omega)
    have m0 := hcell k hkl
    have ST := hid (sizeTo_succ hkt)
    have SZK := hid (SZ.out k (by omega))
    have TX : (sgTexts hs ms)[k] = sgE (sgM hs ms[k]) := List.getElem_map _
    rw [TX] at ST
    obtain ⟨m, hm⟩ : ∃ m, ms[k] = m := ⟨_, rfl⟩
    have MM1 := hid (MS.out m (hm ▸ List.getElem_mem hkl))
    have MW := hid (show (Lit.int .i64 m).wf = true from iwf (MI.out m (hm ▸ List.getElem_mem hkl)))
    rw [hm] at m0 ST
    clear hcell hm TX
    go_wp2_with fail
    refine (hsigned_any (HY.out.his.keep UF.out) m MW.out).mono ?_
    rintro en w4 ⟨rfl, u⟩
    rw [signed_sg]
    have SW := sg_wf HH.out.plain HH.out.gnd.ring.ok (Nat.le_trans HH.out.few (by decide)) MM1.out
    obtain ⟨sg, hsg⟩ : ∃ sg, sgM hs m = sg := ⟨_, rfl⟩
    rw [hsg] at SW ST ⊢
    obtain ⟨key, text, mark⟩ := sg
    obtain ⟨⟨sw1, sw2⟩, ⟨sw3, sw4⟩, sw5⟩ := SW
    have sw1 : 0 ≤ key := sw1
    have sw2 : key < 200 := sw2
    have sw3 : 0 ≤ mark := sw3
    have sw4 : mark < 4000 := sw4
    have sw5 : text.length ≤ 1000000 := sw5
    have UF4 := hid (UF.out.trans u)
    have J0 : Hid (I64 key) := hid (by unfold I64; omega)
    have J1 : Hid (I64 mark) := hid (by unfold I64; omega)
    have J2 : Hid (text.length ≤ 10000000) := hid (by omega)
    have n0 := numE_len J0.out
    have n1 := numE_len J1.out
    have n2 : (textE text).length ≤ 1000100 := by
      unfold textE
      rw [List.length_append, List.length_cons, List.length_append, List.length_singleton]
      have := itoa_len_small text.length (by omega)
      omega
    obtain ⟨e0, he0⟩ : ∃ y, numE key = y := ⟨_, rfl⟩
    obtain ⟨e1, he1⟩ : ∃ y, numE mark = y := ⟨_, rfl⟩
    obtain ⟨e2, he2⟩ : ∃ y, textE text = y := ⟨_, rfl⟩
    have hsp : ((sgE ⟨key, text, mark⟩).length : Int) = (e0.length : Int) + (e1.length : Int) + (e2.length : Int) := by
      rw [← he0, ← he1, ← he2]
      show (((numE key ++ numE mark) ++ textE text).length : Int) = _
      rw [List.length_append, List.length_append]; omega
    rw [hsp] at ST
    rw [he0] at n0
    rw [he1] at n1
    rw [he2] at n2
    obtain ⟨z, hz⟩ : ∃ z, sizeTo (sgTexts hs ms) k = z := ⟨_, rfl⟩
    rw [hz] at ST SZK ⊢
    obtain ⟨z0, z1⟩ := SZK.out
    have a0 : (e0.length : Int) + (e1.length : Int) ≤ 9223372036854775807 := by omega
    have a1 : (e0.length : Int) + (e1.length : Int) + (e2.length : Int) ≤ 9223372036854775807 := by omega
    have a2 : z + ((e0.length : Int) + (e1.length : Int) + (e2.length : Int)) ≤ 9223372036854775807 := by omega
    have a3 : -9223372036854775808 ≤ (e0.length : Int) + (e1.length : Int) := by omega
    have a4 : -9223372036854775808 ≤ (e0.length : Int) + (e1.length : Int) + (e2.length : Int) := by omega
    have a5 : -9223372036854775808 ≤ z + ((e0.length : Int) + (e1.length : Int) + (e2.length : Int)) := by omega
    have SUM := hid (show (e0.length : Int) + (e1.length : Int) + (e2.length : Int) ≤ 2000000 by omega)
    have HE0k := hid he0; have HE1k := hid he1; have HE2k := hid he2
    obtain ⟨W1, hW1⟩ : ∃ W1, W1 = w4.alloc (.cells #[.int .i64 key, .string ⟨text.toArray⟩, .int .i64 mark] 49 (0, 0)) := ⟨_, rfl⟩
    have hb1 : W1.heap[w4.heap.size]? = some (.cells #[.int .i64 key, .string ⟨text.toArray⟩, .int .i64 mark] 49 (0, 0)) := by rw [hW1]; exact heap_alloc_new
    have u1 : Upd (fun _ => False) w4 W1 := by rw [hW1]; exact (Upd.refl _ _).alloc _
    have HW1 := hid hW1
    have UW := hid (UF4.out.trans u1)
    have UE := hid (U3.out.trans UW.out)
    have qY0 : Hid (W1.drew.heap[w4.heap.size]? = _) := hid hb1
    have qV0 := hid ((Upd.refl (fun _ => False) W1).drew)
    clear u hsg sw1 sw2 sw3 sw4 sw5 n0 n1 n2 he0 he1 he2 hsp hW1 hb1 u1 hz z0 z1 UF UF4 SZK
    unfold sgV
    go_upto_region 8 with (fail)
    try rw [← HW1.out]
    first | (go_region_held3 (fun w' => w'.cell? ⟨w4.heap.size, 0, none⟩ = some (.int .i64 key) ∧ w'.cell? ⟨w4.heap.size, 1, none⟩ = some (.string ⟨text.toArray⟩) ∧ w'.cell? ⟨w4.heap.size, 2, none⟩ = some (.int .i64 mark)) (first | with_reducible exact sg_cells qY0.out | with_reducible exact sg_cells qY1.out | with_reducible exact sg_cells qY2.out | with_reducible exact sg_cells qY3.out | go_keep) (first | (go_at_call 25; with_reducible refine (show Calls _ _ _ _ (fun e w' => e = .returned (.string ⟨e0.toArray⟩) ∧ Upd (fun _ => False) _ w') from by rw [← HE0k.out]; exact numE_any key J0.out _ (HH.out.gnd.env.keep0 (UE.out.trans qV0.out))).mono ?_; rintro en wq1 ⟨rfl, u⟩; have qY1 := hid ((u.block _ (heap_lt qY0.out) id).trans qY0.out); have qV1 := hid (qV0.out.trans u); clear u) | (go_at_call 25; with_reducible refine (show Calls _ _ _ _ (fun e w' => e = .returned (.string ⟨e1.toArray⟩) ∧ Upd (fun _ => False) _ w') from by rw [← HE1k.out]; exact numE_any mark J1.out _ (HH.out.gnd.env.keep0 (UE.out.trans qV1.out))).mono ?_; rintro en wq2 ⟨rfl, u⟩; have qY2 := hid ((u.block _ (heap_lt qY1.out) id).trans qY1.out); have qV2 := hid (qV1.out.trans u); clear u) | (go_at_call 103; with_reducible refine (show Calls _ _ _ _ (fun e w' => e = .returned (.string ⟨e2.toArray⟩) ∧ Upd (fun _ => False) _ w') from by rw [← HE2k.out]; exact textE_any text J2.out _ (HH.out.gnd.env.keep0 (UE.out.trans qV2.out))).mono ?_; rintro en wq3 ⟨rfl, u⟩; have qY3 := hid ((u.block _ (heap_lt qY2.out) id).trans qY2.out); have qV3 := hid (qV2.out.trans u); clear u))) | fail
    have UX := hid (UW.out.trans qV3.out)
    clear qY0 qY1 qY2 qY3 qV0 qV1 qV2 qV3 UW UE HE0k HE1k HE2k
    go_wp2_with fail
    go_roundg (N - (k + 1))
    case measure => have := HG.out; omega
    case rel =>
      refine ⟨k + 1, by omega, rfl, by go_num, ?_, by rw [ST.out], UX.out⟩
      refine ⟨_, rfl, ?_, ?_⟩
      · have := X0.out; have := X1.out; have := SUM.out; omega
      · have := X0.out; have := X1.out; have := SUM.out; omega
end Go.Proofs.YtjkmalddfoemhaaGreatDoor
namespace Go.Proofs.YtjkmalddfoemhaaGreatDoor
open Go.RowKit Go.Deep

theorem sgE_len {h : Hs} {R : Rg} (H : His rdF R h) (hk : RgOk R) (hR : R.length ≤ 4000) {m : Int} (hm : (idxF h m).isSome) : (sgE (sgM h m)).length ≤ 1100000 := by
  obtain ⟨⟨q1, q2⟩, ⟨q3, q4⟩, q5⟩ := sg_wf H hk hR hm
  have n0 := numE_len (n := (sgM h m).key) (by unfold I64; omega)
  have n1 := numE_len (n := (sgM h m).mark) (by unfold I64; omega)
  have n2 : (textE (sgM h m).text).length ≤ 1000100 := by
    unfold textE
    rw [List.length_append, List.length_cons, List.length_append, List.length_singleton]
    have := itoa_len_small (sgM h m).text.length (by omega)
    omega
  unfold sgE
  rw [List.length_append, List.length_append]
  omega
theorem giveF_mem {h : Hs} {R : Rg} (H : His rdF R h) (l : List (Int × Int)) (b : Int) : ∀ t ∈ giveF h l b, ∃ m, (idxF h m).isSome ∧ t = sgE (sgM h m) := by
  obtain ⟨j, _, e, _⟩ := give_fit h l (sortedF h (marksF h)) b
  unfold giveF
  rw [e]
  intro t ht
  obtain ⟨m, hm, rfl⟩ := List.mem_map.1 (List.mem_of_mem_take ht)
  exact ⟨m, ((sorted_ok H _).2 m).1 (List.mem_filter.1 hm).1 |>.2, rfl⟩
theorem giveF_len {h : Hs} {R : Rg} (H : His rdF R h) (l : List (Int × Int)) (b : Int) : (giveF h l b).length ≤ h.length := by
  obtain ⟨j, _, e, _⟩ := give_fit h l (sortedF h (marksF h)) b
  unfold giveF
  rw [e]
  refine Nat.le_trans (List.length_take_le' _ _) ?_
  rw [List.length_map]
  refine Nat.le_trans List.filter_sublist.length_le ?_
  rw [(sorted_all H (ms := marksF h) fun m q => (mem_marksF h m).2 q).length_eq, marksF_len]
  exact Nat.le_refl _
theorem giveV_ok {h : Hs} {R : Rg} (H : His rdF R h) (hk : RgOk R) (hR : R.length ≤ 60) (s : List UInt8) (b : Int) : (giveV h s b).length ≤ 60 ∧ ∀ t ∈ giveV h s b, (t.length : Int) ≤ 1100000 ∧ (tkR t).1.text.length ≤ 1000000 := by
  unfold giveV
  split
  · refine ⟨Nat.le_trans (giveF_len H _ _) (Nat.le_trans H.len hR), fun t ht => ?_⟩
    obtain ⟨m, hm, rfl⟩ := giveF_mem H _ _ t ht
    have := sgE_len H hk (Nat.le_trans hR (by decide)) hm
    obtain ⟨⟨q1, q2⟩, ⟨q3, q4⟩, q5⟩ := sg_wf H hk (Nat.le_trans hR (by decide)) hm
    rw [take_back ⟨q1, by unfold I64; omega⟩ ⟨q3, by unfold I64; omega⟩ (by unfold I64; omega)]
    exact ⟨by omega, q5⟩
  · exact ⟨Nat.zero_le _, fun t ht => nomatch ht⟩
def takesTo (R : Rg) (h : Hs) (l : List (List UInt8)) (k : Nat) : Hs := (l.take k).foldl (fun h t => (takeF rdF R h t).1) h
def takesF (R : Rg) (h : Hs) (l : List (List UInt8)) : Hs := l.foldl (fun h t => (takeF rdF R h t).1) h
theorem takesTo_all {R : Rg} {h : Hs} {l : List (List UInt8)} {k : Nat} (hk : l.length ≤ k) : takesTo R h l k = takesF R h l := by unfold takesTo takesF; rw [List.take_of_length_le hk]
theorem takesTo_succ {R : Rg} {h : Hs} {l : List (List UInt8)} {k : Nat} (hk : k < l.length) : takesTo R h l (k + 1) = (takeF rdF R (takesTo R h l k) l[k]).1 := by
  unfold takesTo
  rw [List.take_succ_eq_append_getElem hk, List.foldl_append]; rfl
/-- What one gives, and the other. -/
def oneF (a b : Hs) (bud : Int) : List (List UInt8) := giveV a (offerF b) (Int.tdiv (bud - ((offerF a).length + (offerF b).length)) 2)
def twoF (a b : Hs) (bud : Int) : List (List UInt8) := giveV b (offerF a) (bud - ((offerF a).length + (offerF b).length) - bytesL (oneF a b bud))
def syncA (R : Rg) (a b : Hs) (bud : Int) : Hs := takesF R a (twoF a b bud)
def syncB (R : Rg) (a b : Hs) (bud : Int) : Hs := takesF R b (oneF a b bud)
def SyncPost (R : Rg) (O1 O2 Or : Nat → Prop) (b1 b2 r : Nat) (a b : Hs) (bud : Int) (w : World) (e : Ending) (w' : World) : Prop :=
  ∃ n : Int, e = .returned (.tuple #[.int .i64 n, .bool (decide (marksF (syncA R a b bud) = marksF (syncB R a b bud)))]) ∧ ∃ O1' O2', HPre w' O1' Or b1 r (syncA R a b bud) R ∧ HPre w' O2' Or b2 r (syncB R a b bud) R ∧ (∀ k, O1' k → O1 k ∨ w.heap.size ≤ k) ∧ (∀ k, O2' k → O2 k ∨ w.heap.size ≤ k) ∧ Upd (fun k => O1 k ∨ O2 k) w w'
theorem offer_bytes {h : Hs} {R : Rg} (H : His rdF R h) (hR : R.length ≤ 60) : (offerF h).length ≤ 10000 := by
  have h1 := offer_len h
  have h2 := H.len
  have := rgsTo_len (l := offerR h) (by omega) (fun p hp => by
    have e1 := (offer_inv H).ap.each p hp
    have e2 := offer_end H p hp
    unfold I64; omega) _ (Nat.le_refl _)
  rw [rgsTo_all (Nat.le_refl _)] at this
  unfold offerF
  omega
set_option maxRecDepth 100000 in
set_option maxHeartbeats 8000000 in
theorem sync_any {O1 O2 Or : Nat → Prop} {b1 b2 r : Nat} {a b : Hs} {R : Rg} {w : World} (p1 : HPre w O1 Or b1 r a R) (p2 : HPre w O2 Or b2 r b R) (hd : ∀ k, O1 k → ¬ O2 k) (bud : Int) (hb : ((offerF a).length : Int) + ((offerF b).length : Int) ≤ bud) (hb2 : bud ≤ 1000000) :
    Calls Tryz.prog 88 #[.pointer (some ⟨b1, 0, none⟩), .pointer (some ⟨b2, 0, none⟩), .int .i64 bud] w (SyncPost R O1 O2 Or b1 b2 r a b bud w) := by
  have P1 := hid p1; have P2 := hid p2; have HD := hid hd
  have HPA := hid p1.plain; have HPB := hid p2.plain; have HK := hid p1.gnd.ring.ok; have HR := hid p1.few
  have la := offer_bytes p1.plain p1.few
  have lb := offer_bytes p2.plain p2.few
  have OKA := hid (giveV_ok p1.plain p1.gnd.ring.ok p1.few)
  have OKB := hid (giveV_ok p2.plain p2.gnd.ring.ok p2.few)
  have EQ1 := hid (show oneF a b bud = giveV a (offerF b) (Int.tdiv (bud - ((offerF a).length + (offerF b).length)) 2) from rfl)
  have EQ2 := hid (show twoF a b bud = giveV b (offerF a) (bud - ((offerF a).length + (offerF b).length) - bytesL (oneF a b bud)) from rfl)
  obtain ⟨x, hx⟩ : ∃ x, offerF a = x := ⟨_, rfl⟩
  obtain ⟨y, hy⟩ : ∃ y, offerF b = y := ⟨_, rfl⟩
  have HX := hid hx; have HY := hid hy
  rw [hx] at la hb EQ1 EQ2
  rw [hy] at lb hb EQ1 EQ2
  obtain ⟨rest, hrest⟩ : ∃ z, bud - ((x.length : Int) + (y.length : Int)) = z := ⟨_, rfl⟩
  have r0 : 0 ≤ rest := by omega
  have r1 : rest ≤ 1000000 := by omega
  rw [hrest] at EQ1 EQ2
  obtain ⟨half, hhalf⟩ : ∃ z, Int.tdiv rest 2 = z := ⟨_, rfl⟩
  have f0 : -9223372036854775808 ≤ Int.tdiv rest 2 := by rw [Int.tdiv_eq_ediv_of_nonneg r0]; omega
  have f1 : Int.tdiv rest 2 ≤ 9223372036854775807 := by rw [Int.tdiv_eq_ediv_of_nonneg r0]; omega
  have HF := hid (show I64 half by rw [← hhalf]; exact ⟨f0, f1⟩)
  rw [hhalf] at EQ1
  have LA := hid la; have LB := hid lb
  have HHALF := hid hhalf; have HREST := hid hrest
  have g0 : (x.length : Int) + (y.length : Int) ≤ 9223372036854775807 := by omega
  have g1 : ¬ bud < (x.length : Int) + (y.length : Int) := by omega
  have gd : decide (bud < (x.length : Int) + (y.length : Int)) = false := decide_eq_false g1
  have g2 : -9223372036854775808 ≤ bud - ((x.length : Int) + (y.length : Int)) := by omega
  have g3 : bud - ((x.length : Int) + (y.length : Int)) ≤ 9223372036854775807 := by omega
  clear p1 p2 hd hx hy hb
  go_enter Tryz.func88, Tryz.ntmps88
  go_wp2_with fail
  refine (offer_any P1.out).mono ?_
  rintro en w1 ⟨rfl, u⟩
  rw [HX.out]
  have UA := hid u
  replace P1 := hid (P1.out.keep u); replace P2 := hid (P2.out.keep u)
  clear u
  go_wp2_with fail
  refine (offer_any P2.out).mono ?_
  rintro en w2 ⟨rfl, u⟩
  rw [HY.out]
  replace UA := hid (UA.out.trans u)
  replace P1 := hid (P1.out.keep u); replace P2 := hid (P2.out.keep u)
  have OL := hid (show (∀ k, O1 k → k < w2.heap.size) ∧ (∀ k, O2 k → k < w2.heap.size) ∧ w.heap.size ≤ w2.heap.size from ⟨fun k hk => (P1.out.his.lt k hk).2, fun k hk => (P2.out.his.lt k hk).2, UA.out.size⟩)
  clear u
  go_wp2_with fail
  try rw [HREST.out]
  try rw [HHALF.out]
  refine (give_any P1.out y (by have := LB.out; omega) half HF.out).mono ?_
  rintro en w3 ⟨v1, rfl, ho, u⟩
  have S23 := hid u.size
  have R1 := hid (show TxsAt w3 w2.heap.size v1 (oneF a b bud) by rw [EQ1.out]; exact ho)
  replace UA := hid (UA.out.trans u)
  replace P1 := hid (P1.out.keep u); replace P2 := hid (P2.out.keep u)
  have OK1 := hid (show (oneF a b bud).length ≤ 60 ∧ ∀ t ∈ oneF a b bud, (t.length : Int) ≤ 1100000 ∧ (tkR t).1.text.length ≤ 1000000 by rw [EQ1.out]; exact OKA.out y half)
  have SZ1 := hid (show 0 ≤ bytesL (oneF a b bud) ∧ bytesL (oneF a b bud) ≤ 66000000 from by
    have q := sizeTo_le (fun t ht => (OK1.out.2 t ht).1) _ (Nat.le_refl _)
    rw [sizeTo_all (Nat.le_refl _)] at q
    have := OK1.out.1
    omega)
  obtain ⟨one, hone⟩ : ∃ l, oneF a b bud = l := ⟨_, rfl⟩
  have HONE := hid hone
  rw [hone] at R1 OK1 SZ1 EQ2
  obtain ⟨a1, c1, rfl, h11, h12⟩ := own_slice R1.out
  have h12 : c1 ≤ 9223372036854775807 := h12
  clear ho u hone EQ1
  go_wp2_with fail
  try rw [HREST.out]
  refine (size_any _ _ one _ R1.out (by have := OK1.out.1; omega) (fun t ht => by have := (OK1.out.2 t ht).1; omega)).mono ?_
  rintro en w4 ⟨rfl, rfl⟩
  obtain ⟨s0, s1⟩ := SZ1.out
  have s2 : -9223372036854775808 ≤ rest - bytesL one := by omega
  have s3 : rest - bytesL one ≤ 9223372036854775807 := by omega
  go_wp2_with fail
  refine (give_any P2.out x (by have := LA.out; omega) (rest - bytesL one) ⟨s2, s3⟩).mono ?_
  rintro en w5 ⟨v2, rfl, ho, u⟩
  have R2 := hid (show TxsAt w5 w3.heap.size v2 (twoF a b bud) by rw [EQ2.out]; exact ho)
  replace R1 := hid (ownsRow_upd R1.out u fun _ _ => id : TxsAt w5 w2.heap.size (.slice a1 one.length c1) one)
  replace UA := hid (UA.out.trans u)
  replace P1 := hid (P1.out.keep u); replace P2 := hid (P2.out.keep u)
  have OK2 := hid (show (twoF a b bud).length ≤ 60 ∧ ∀ t ∈ twoF a b bud, (t.length : Int) ≤ 1100000 ∧ (tkR t).1.text.length ≤ 1000000 by rw [EQ2.out]; exact OKB.out x _)
  have SZ2 := hid (show 0 ≤ bytesL (twoF a b bud) ∧ bytesL (twoF a b bud) ≤ 66000000 from by
    have q := sizeTo_le (fun t ht => (OK2.out.2 t ht).1) _ (Nat.le_refl _)
    rw [sizeTo_all (Nat.le_refl _)] at q
    have := OK2.out.1
    omega)
  obtain ⟨two, htwo⟩ : ∃ l, twoF a b bud = l := ⟨_, rfl⟩
  have HTWO := hid htwo
  rw [htwo] at R2 OK2 SZ2
  obtain ⟨a2, c2, rfl, h21, h22⟩ := own_slice R2.out
  have h22 : c2 ≤ 9223372036854775807 := h22
  have SA := hid (show syncA R a b bud = takesF R a two from by unfold syncA; rw [HTWO.out])
  have SB := hid (show syncB R a b bud = takesF R b one from by unfold syncB; rw [HONE.out])
  clear ho u htwo EQ2 s0 s1 s2 s3
  have G1 := hid (show ∀ g, Value.ownBlock (.slice a1 one.length c1) = some g → w2.heap.size ≤ g ∧ g < w5.heap.size from fun g hg => txs_lt (l := one) R1.out g hg)
  have G2 := hid (show ∀ g, Value.ownBlock (.slice a2 two.length c2) = some g → w2.heap.size ≤ g ∧ g < w5.heap.size from fun g hg => by
    obtain ⟨q1, q2⟩ := txs_lt (l := two) R2.out g hg
    exact ⟨Nat.le_trans S23.out q1, q2⟩)
  have START := hid (show ∃ O2', HPre w5 O2' Or b2 r (takesTo R b one 0) R ∧ HPre w5 O1 Or b1 r a R ∧ (∀ k, O1 k → ¬ O2' k) ∧ (∀ k, O2' k → O2 k ∨ w5.heap.size ≤ k) ∧ TxsAt w5 w2.heap.size (.slice a1 one.length c1) one ∧ TxsAt w5 w3.heap.size (.slice a2 two.length c2) two ∧ Upd (fun k => O1 k ∨ O2 k) w w5 ∧ w5.heap.size ≤ w5.heap.size from ⟨O2, P2.out, P1.out, HD.out, fun k hk => .inl hk, R1.out, R2.out, UA.out.mono fun _ q => q.elim, Nat.le_refl _⟩)
  have W5 := hid (show w.heap.size ≤ w5.heap.size from UA.out.size)
  obtain ⟨n1, hn1⟩ : ∃ n, one.length = n := ⟨_, rfl⟩
  obtain ⟨n2, hn2⟩ : ∃ n, two.length = n := ⟨_, rfl⟩
  have N1 := hid hn1; have N2 := hid hn2
  have hn160 : n1 ≤ 60 := by rw [← hn1]; exact OK1.out.1
  have hn260 : n2 ≤ 60 := by rw [← hn2]; exact OK2.out.1
  rw [hn1] at h11 G1 START ⊢
  rw [hn2] at h21 G2 START ⊢
  clear P1 P2 R1 R2 UA hn1 hn2 HD HF
  go_wp2_with fail
  go_loopg [58] n1 (fun gg s58 wr => ∃ k : Nat, k ≤ n1 ∧ gg = n1 - k ∧ s58 = .int .i64 k ∧ ∃ O2', HPre wr O2' Or b2 r (takesTo R b one k) R ∧ HPre wr O1 Or b1 r a R ∧ (∀ k, O1 k → ¬ O2' k) ∧ (∀ k, O2' k → O2 k ∨ w5.heap.size ≤ k) ∧ TxsAt wr w2.heap.size (.slice a1 n1 c1) one ∧ TxsAt wr w3.heap.size (.slice a2 n2 c2) two ∧ Upd (fun k => O1 k ∨ O2 k) w wr ∧ w5.heap.size ≤ wr.heap.size)
  case atStart => exact ⟨0, Nat.zero_le _, rfl, rfl, START.out⟩
  case round =>
    obtain ⟨k, hk, hg, rfl, O2', q1, q2, q3, q4, q5, q6, q7, q8⟩ := hrel
    have SZW := hid q8
    have HG := hid hg; have P2 := hid q1; have P1 := hid q2; have HD := hid q3; have NW := hid q4; have R1 := hid q5; have R2 := hid q6; have UA := hid q7
    clear hg q1 q2 q3 q4 q5 q6 q7 q8 START
    by_cases hlt : k < n1
    case pos =>
      as_aux_lemma =>
      have hlti : (k : Int) < n1 := by omega
      have hk1 : (k : Int) + 1 ≤ 1000 := by omega
      have hkl : k < one.length := by rw [N1.out]; exact hlt
      obtain ⟨g, cap, e0, _, _, _, _, hc⟩ := TxsAt.get R1.out (by omega)
      have e1 : a1 = some ⟨g, 0, none⟩ := by injection e0
      subst e1
      have m0 := hc k hkl
      have SZ5 := hid (show w5.heap.size ≤ wr.heap.size from SZW.out)
      have STEP := hid (takesTo_succ (R := R) (h := b) hkl)
      have TB := hid (OK1.out.2 _ (List.getElem_mem hkl))
      obtain ⟨t, ht⟩ : ∃ t, one[k] = t := ⟨_, rfl⟩
      rw [ht] at m0 STEP TB
      clear hc ht e0
      go_wp2_with fail
      refine (tkR_any P2.out t (by have := TB.out.1; omega) TB.out.2).mono ?_
      rintro en y1 ⟨rfl, O', q1, q2, q3⟩
      have A1 := hid (P1.out.upd q3 (fun k hk hk' => HD.out k hk hk') P2.out.apart fun k hk => (P2.out.his.lt k hk).1)
      have A2 := hid (P2.out.grown q3 q1 (takeF_his P2.out.plain _) q2)
      have T1 := hid (ownsRow_upd R1.out q3 fun j hj e => by
        obtain ⟨z1, z2⟩ := G1.out j hj
        rcases NW.out j e with c | c
        · have := OL.out.2.1 j c; omega
        · omega)
      have T2 := hid (ownsRow_upd R2.out q3 fun j hj e => by
        obtain ⟨z1, z2⟩ := G2.out j hj
        rcases NW.out j e with c | c
        · have := OL.out.2.1 j c; omega
        · omega)
      have D2 := hid (show ∀ k, O1 k → ¬ O' k from fun k hk hk' => (q2 k hk').elim (fun z => HD.out k hk z) fun z => by have := (P1.out.his.lt k hk).2; omega)
      have W2 := hid (show ∀ k, O' k → O2 k ∨ w5.heap.size ≤ k from fun k hk => (q2 k hk).elim (NW.out k) fun z => .inr (Nat.le_trans SZ5.out z))
      have UX := hid (UA.out.comp q3 fun i hi e => by
        rcases NW.out i e with c | c
        · exact .inr c
        · have := W5.out; omega)
      have SQ := hid q3.size
      clear q1 q2 q3 m0
      go_wp2_with fail
      go_roundg (n1 - (k + 1))
      case measure => have := HG.out; omega
      case rel =>
        refine ⟨k + 1, by omega, rfl, by go_num, O', ?_, A1.out, D2.out, W2.out, T1.out, T2.out, UX.out, Nat.le_trans SZ5.out SQ.out⟩
        rw [STEP.out]; exact A2.out
    as_aux_lemma =>
    have hlti : ¬ (k : Int) < n1 := by omega
    have KE := hid (takesTo_all (R := R) (h := b) (l := one) (k := k) (by rw [N1.out]; omega))
    have START := hid (show ∃ O1', HPre wr O1' Or b1 r (takesTo R a two 0) R ∧ HPre wr O2' Or b2 r (syncB R a b bud) R ∧ (∀ k, O1' k → ¬ O2' k) ∧ (∀ k, O1' k → O1 k ∨ w5.heap.size ≤ k) ∧ TxsAt wr w2.heap.size (.slice a1 n1 c1) one ∧ TxsAt wr w3.heap.size (.slice a2 n2 c2) two ∧ Upd (fun k => O1 k ∨ O2 k) w wr ∧ w5.heap.size ≤ wr.heap.size from ⟨O1, P1.out, by rw [SB.out, ← KE.out]; exact P2.out, HD.out, fun k hk => .inl hk, R1.out, R2.out, UA.out, SZW.out⟩)
    have NW2 := hid NW.out
    clear P1 P2 R1 R2 UA HD NW KE HG hk SZW
    go_wp2_with fail
    go_loopg [68] n2 (fun gg s68 wx => ∃ k : Nat, k ≤ n2 ∧ gg = n2 - k ∧ s68 = .int .i64 k ∧ ∃ O1', HPre wx O1' Or b1 r (takesTo R a two k) R ∧ HPre wx O2' Or b2 r (syncB R a b bud) R ∧ (∀ k, O1' k → ¬ O2' k) ∧ (∀ k, O1' k → O1 k ∨ w5.heap.size ≤ k) ∧ TxsAt wx w2.heap.size (.slice a1 n1 c1) one ∧ TxsAt wx w3.heap.size (.slice a2 n2 c2) two ∧ Upd (fun k => O1 k ∨ O2 k) w wx ∧ w5.heap.size ≤ wx.heap.size)
    case atStart => exact ⟨0, Nat.zero_le _, rfl, rfl, START.out⟩
    case round =>
      obtain ⟨j, hj, hg, rfl, O1', q1, q2, q3, q4, q5, q6, q7, q8⟩ := hrel
      have SZW := hid q8
      have HG := hid hg; have P1 := hid q1; have P2 := hid q2; have HD := hid q3; have NW := hid q4; have R1 := hid q5; have R2 := hid q6; have UA := hid q7
      clear hg q1 q2 q3 q4 q5 q6 q7 q8 START
      by_cases hlj : j < n2
      case pos =>
        as_aux_lemma =>
        have hlji : (j : Int) < n2 := by omega
        have hj1 : (j : Int) + 1 ≤ 1000 := by omega
        have hjl : j < two.length := by rw [N2.out]; exact hlj
        obtain ⟨g, cap, e0, _, _, _, _, hc⟩ := TxsAt.get R2.out (by omega)
        have e1 : a2 = some ⟨g, 0, none⟩ := by injection e0
        subst e1
        have m0 := hc j hjl
        have SZ5 := hid SZW.out
        have STEP := hid (takesTo_succ (R := R) (h := a) hjl)
        have TB := hid (OK2.out.2 _ (List.getElem_mem hjl))
        obtain ⟨t, ht⟩ : ∃ t, two[j] = t := ⟨_, rfl⟩
        rw [ht] at m0 STEP TB
        clear hc ht e0
        go_wp2_with fail
        refine (tkR_any P1.out t (by have := TB.out.1; omega) TB.out.2).mono ?_
        rintro en y1 ⟨rfl, O', q1, q2, q3⟩
        have A2 := hid (P2.out.upd q3 (fun k hk hk' => HD.out k hk' hk) P1.out.apart fun k hk => (P1.out.his.lt k hk).1)
        have A1 := hid (P1.out.grown q3 q1 (takeF_his P1.out.plain _) q2)
        have T1 := hid (ownsRow_upd R1.out q3 fun j hj e => by
          obtain ⟨z1, z2⟩ := G1.out j hj
          rcases NW.out j e with c | c
          · have := OL.out.1 j c; omega
          · omega)
        have T2 := hid (ownsRow_upd R2.out q3 fun j hj e => by
          obtain ⟨z1, z2⟩ := G2.out j hj
          rcases NW.out j e with c | c
          · have := OL.out.1 j c; omega
          · omega)
        have D2 := hid (show ∀ k, O' k → ¬ O2' k from fun k hk hk' => (q2 k hk).elim (fun z => HD.out k z hk') fun z => by have := (P2.out.his.lt k hk').2; omega)
        have W2 := hid (show ∀ k, O' k → O1 k ∨ w5.heap.size ≤ k from fun k hk => (q2 k hk).elim (NW.out k) fun z => .inr (Nat.le_trans SZ5.out z))
        have UX := hid (UA.out.comp q3 fun i hi e => by
          rcases NW.out i e with c | c
          · exact .inl c
          · have := W5.out; omega)
        have SQ := hid q3.size
        clear q1 q2 q3 m0
        go_wp2_with fail
        go_roundg (n2 - (j + 1))
        case measure => have := HG.out; omega
        case rel =>
          refine ⟨j + 1, by omega, rfl, by go_num, O', ?_, A2.out, D2.out, W2.out, T1.out, T2.out, UX.out, Nat.le_trans SZ5.out SQ.out⟩
          rw [STEP.out]; exact A1.out
      as_aux_lemma =>
      have hlji : ¬ (j : Int) < n2 := by omega
      have KE := hid (takesTo_all (R := R) (h := a) (l := two) (k := j) (by rw [N2.out]; omega))
      have P1E := hid (show HPre _ O1' Or b1 r (syncA R a b bud) R by rw [SA.out, ← KE.out]; exact P1.out)
      clear P1 KE HG hj
      go_wp2_with fail
      refine (size_any _ _ one _ R1.out (by have := OK1.out.1; omega) (fun t ht => by have := (OK1.out.2 t ht).1; omega)).mono ?_
      rintro en w6 ⟨rfl, rfl⟩
      go_wp2_with fail
      refine (size_any _ _ two _ R2.out (by have := OK2.out.1; omega) (fun t ht => by have := (OK2.out.2 t ht).1; omega)).mono ?_
      rintro en w7 ⟨rfl, rfl⟩
      go_wp2_with fail
      refine (hsame_any P1E.out.his P2.out.his P1E.out.plain P2.out.plain (Nat.le_trans HR.out (by decide))).mono ?_
      rintro en w8 ⟨rfl, u⟩
      obtain ⟨s0, s1⟩ := SZ1.out
      obtain ⟨s2, s3⟩ := SZ2.out
      have hla := LA.out; have hlb := LB.out
      have z0 : (x.length : Int) + (y.length : Int) + bytesL one ≤ 9223372036854775807 := by omega
      have z1 : (x.length : Int) + (y.length : Int) + bytesL one + bytesL two ≤ 9223372036854775807 := by omega
      have z2 : -9223372036854775808 ≤ (x.length : Int) + (y.length : Int) + bytesL one := by omega
      have z3 : -9223372036854775808 ≤ (x.length : Int) + (y.length : Int) + bytesL one + bytesL two := by omega
      have UZ := hid u
      clear u
      go_wp2_with fail
      go_ret2
      exact ⟨_, rfl, O1', O2', P1E.out.keep UZ.out, P2.out.keep UZ.out, fun k hk => (NW.out k hk).imp id fun z => Nat.le_trans W5.out z, fun k hk => (NW2.out k hk).imp id fun z => Nat.le_trans W5.out z, UA.out.trans (UZ.out.mono fun _ q => q.elim)⟩
end Go.Proofs.YtjkmalddfoemhaaGreatDoor
namespace Go.Proofs.YtjkmalddfoemhaaGreatDoor
open Go

theorem bytes_sublist {l1 l2 : List (List UInt8)} (h : l1.Sublist l2) : bytesL l1 ≤ bytesL l2 := by
  induction h with
  | slnil => exact Int.le_refl _
  | cons a _ ih => rw [bytes_cons]; omega
  | cons_cons a _ ih => rw [bytes_cons, bytes_cons]; omega
theorem bytes_perm {l1 l2 : List (List UInt8)} (h : l1.Perm l2) : bytesL l1 = bytesL l2 := by
  induction h with
  | nil => rfl
  | cons a _ ih => rw [bytes_cons, bytes_cons, ih]
  | swap a b l => rw [bytes_cons, bytes_cons, bytes_cons, bytes_cons]; omega
  | trans _ _ h1 h2 => rw [h1, h2]
/-- The texts of all that lacks. -/
def gvT (a b : Hs) : List (List UInt8) := (lackM a b).map fun m => sgE (sgM a m)
theorem gvT_len (a b : Hs) : (gvT a b).length = (lackM a b).length := List.length_map _
theorem gvT_at {a b : Hs} {j : Nat} (hj : j < (lackM a b).length) (hj' : j < (gvT a b).length) : (gvT a b)[j] = sgE (sgM a (lackM a b)[j]) := List.getElem_map _
theorem gvT_few {a b : Hs} {R : Rg} (A : His rdF R a) : (gvT a b).length ≤ a.length := by
  rw [gvT_len]
  refine Nat.le_trans (lack_sub a b).length_le ?_
  rw [(sorted_all A (ms := marksF a) fun m q => (mem_marksF a m).2 q).length_eq, marksF_len]
  exact Nat.le_refl _
theorem give_is {a b : Hs} {R : Rg} (B : His rdF R b) (hR : R.length ≤ 60) (bud : Int) : giveV a (offerF b) bud = giveL a (offerR b) (sortedF a (marksF a)) bud := by
  unfold giveV
  rw [offer_read B (Nat.le_trans hR (by decide))]
  rfl
theorem give_part {a b : Hs} {R : Rg} (B : His rdF R b) (hR : R.length ≤ 60) (bud : Int) : ∃ j, j ≤ (gvT a b).length ∧ giveV a (offerF b) bud = (gvT a b).take j ∧ (0 < j → bytesL ((gvT a b).take j) ≤ bud) ∧ ∀ (hj : j < (gvT a b).length), bud < bytesL ((gvT a b).take j) + ((gvT a b)[j].length : Int) := by
  obtain ⟨j, h1, h2, h3, h4⟩ := give_fit a (offerR b) (sortedF a (marksF a)) bud
  refine ⟨j, by rw [gvT_len]; exact h1, by rw [give_is B hR, h2]; rfl, h3, fun hj => ?_⟩
  have hj' : j < (lackM a b).length := by rw [← gvT_len]; exact hj
  rw [gvT_at hj' hj]
  exact h4 hj'
theorem give_whole {a b : Hs} {R : Rg} (A : His rdF R a) (B : His rdF R b) (hR : R.length ≤ 60) : giveV a (offerF b) (bytesL (sgTexts a (marksF a))) = gvT a b := by
  rw [give_is B hR]
  refine give_all ?_
  refine Int.le_trans (bytes_sublist ((List.filter_sublist (l := sortedF a (marksF a)) (p := fun m => !decide (InR (offerR b) m))).map fun m => sgE (sgM a m))) ?_
  rw [bytes_perm ((sorted_all A (ms := marksF a) fun m q => (mem_marksF a m).2 q).map fun m => sgE (sgM a m))]
  exact Int.le_refl _
theorem gv_take {a b : Hs} {R : Rg} (A : His rdF R a) (B : His rdF R b) (hk : RgOk R) (hR : R.length ≤ 60) {j : Nat} (hj : j < (gvT a b).length) : takeF rdF R (giveTo rdF R a b j) (gvT a b)[j] = (giveTo rdF R a b (j + 1), 0) ∧ (giveTo rdF R a b (j + 1)).length = (giveTo rdF R a b j).length + 1 := by
  have hj' : j < (lackM a b).length := by rw [← gvT_len]; exact hj
  have hin : (lackM a b)[j] ∈ lackM a b := List.getElem_mem _
  have hm := ((mem_lack A B _).1 hin).1
  obtain ⟨⟨q1, q2⟩, ⟨q3, q4⟩, q5⟩ := sg_wf A hk (Nat.le_trans hR (by decide)) hm
  rw [gvT_at hj' hj, takeF_back ⟨q1, by unfold I64; omega⟩ ⟨q3, by unfold I64; omega⟩ (by unfold I64; omega)]
  exact lack_next A B (Nat.le_trans hR (by decide)) hj'
theorem gv_ok {a b : Hs} {R : Rg} (A : His rdF R a) (B : His rdF R b) (hk : RgOk R) (hR : R.length ≤ 60) : ∀ t ∈ gvT a b, t.length ≤ 1100000 ∧ (tkR t).1.text.length ≤ 1000000 := by
  intro t ht
  obtain ⟨m, hm, rfl⟩ := List.mem_map.1 ht
  have hm := ((mem_lack A B m).1 hm).1
  have := sgE_len A hk (Nat.le_trans hR (by decide)) hm
  obtain ⟨⟨q1, q2⟩, ⟨q3, q4⟩, q5⟩ := sg_wf A hk (Nat.le_trans hR (by decide)) hm
  rw [take_back ⟨q1, by unfold I64; omega⟩ ⟨q3, by unfold I64; omega⟩ (by unfold I64; omega)]
  exact ⟨by omega, q5⟩
theorem gv_end {a b : Hs} {R : Rg} (A : His rdF R a) (B : His rdF R b) (hR : R.length ≤ 60) : ∀ x ∈ marksF a, x ∈ marksF (giveTo rdF R a b (gvT a b).length) := by
  intro x hx
  rw [gvT_len]
  exact (mem_marksF _ _).2 (lack_all A B (Nat.le_trans hR (by decide)) ((mem_marksF _ _).1 hx))
theorem bytesTo_le {l : List (List UInt8)} (hl : l.length ≤ 60) (hm : ∀ t ∈ l, t.length ≤ 1100000) (k : Nat) : 0 ≤ bytesL (l.take k) ∧ bytesL (l.take k) ≤ 66000000 := by
  have q := sizeTo_le (l := l.take k) (m := 1100000) (fun t ht => by have := hm t (List.mem_of_mem_take ht); omega) _ (Nat.le_refl _)
  rw [sizeTo_all (Nat.le_refl _)] at q
  have h2 : (l.take k).length ≤ l.length := List.length_take_le' _ _
  exact ⟨q.1, by omega⟩
end Go.Proofs.YtjkmalddfoemhaaGreatDoor
