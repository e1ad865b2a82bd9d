/- Walks: posts played: a ring, signatures, and a history that takes them (play). -/
import Derived.Test.YtalhmpggpjbeaaaGreatDoorJ17
import Derived.Test.YtalhmpggpjbeaaaGreatDoorJ18
import Derived.Test.YtalhmpggpjbeaaaGreatDoorJ20
import Derived.Test.YtalhmpggpjbeaaaGreatDoorJ21
import Derived.Test.YtalhmpggpjbeaaaGreatDoorJ13
import Derived.Laws.StructEq
namespace Go.Proofs.YtalhmpggpjbeaaaGreatDoor
open Go.RowKit Go.Deep

theorem row_lt {w : World} {B : Nat} {v : Value} {n s : Nat} {e : TypeId} {xs : List Value} (h : w.ownsRow B e s v n xs) : ∀ g, v.ownBlock = some g → B ≤ g ∧ g < w.heap.size := by
  intro g hg
  rcases ownsRow_fits h with ⟨rfl, _⟩ | ⟨g', cap, rfl, h1, h2, _⟩
  · cases hg
  · cases hg; exact ⟨h1, h2⟩
theorem fewL_words {l : List Po} {n : Nat} (h : FewL l n) (hk : ∀ p ∈ l, PoOk p) : ∀ p ∈ l, (wordsF p).length ≤ 4000 := fun p hp => words_len ((h.2 p hp).2.wf (hk p hp).en) (Nat.le_trans (h.2 p hp).1 (by decide))
theorem pos_ok {A : Nat → Prop} {w : World} {v : Value} {l : List Po} (h : kPos.rep A w [v] l) : ∀ p ∈ l, PoOk p := by
  obtain ⟨a, cap, rfl, _, _, h3⟩ := slice_open h
  intro p hp
  obtain ⟨i, hi, rfl⟩ := List.getElem_of_mem hp
  obtain ⟨b, o, _, _, hel⟩ := h3 (Nat.lt_of_le_of_lt (Nat.zero_le _) hi)
  obtain ⟨_, _, _, _, _, _, q⟩ := po_at hel hi
  exact q.ok
/-- The history that takes signatures in their order. -/
def playF (l : List Po) : Hs := addAll rdF (signedF l).1 [] (signedF l).2
def playTo (R : Rg) (sl : List Sg) (k : Nat) : Hs := addAll rdF R [] (sl.take k)
theorem playTo_succ {R : Rg} {sl : List Sg} {k : Nat} (hk : k < sl.length) : playTo R sl (k + 1) = (addF rdF R (playTo R sl k) sl[k]).1 := by
  unfold playTo addAll
  rw [List.take_succ_eq_append_getElem hk, List.foldl_append]; rfl
/-- What play answers. -/
structure PlayAt (w0 w : World) (O Or : Nat → Prop) (b r : Nat) (v : Value) (l : List Po) : Prop where
  pre : HPre w O Or b r (playF l) (signedF l).1
  sgs : SgsAt w w0.heap.size v (signedF l).2
  own : ∀ k, O k → w0.heap.size ≤ k
  ring : ∀ k, Or k → w0.heap.size ≤ k
  apart : ∀ g, v.ownBlock = some g → ¬ O g
  small : ∀ s ∈ (signedF l).2, SgSmall s
  len : (signedF l).2.length = l.length
  upd : Upd (fun _ => False) w0 w
def PlayPost (l : List Po) (w : World) (e : Ending) (w' : World) : Prop :=
  ∃ r v b O Or, e = .returned (.tuple #[.pointer (some ⟨r, 0, none⟩), v, .pointer (some ⟨b, 0, none⟩)]) ∧ PlayAt w w' O Or b r v l
set_option maxRecDepth 100000 in
set_option maxHeartbeats 8000000 in
theorem play_any (v : Value) (l : List Po) (w : World) (E : Env w) (hu : UsesIn w) (h : kPos.rep (· < w.heap.size) w [v] l) (hl : l.length ≤ 60) (hf : FewL l l.length) (hz : 6 ≤ w.heap.size) :
    Calls Tryz.prog 59 #[v] w (PlayPost l w) := by
  have HW4 := hid (fewL_words hf (pos_ok h))
  obtain ⟨a, cap, rfl, p1, p2, p3⟩ := slice_open h
  have p2 : cap ≤ 9223372036854775807 := p2
  have P3 := hid p3; have HF := hid hf.2; have HZ := hid hz; have HE := hid E; have HU := hid hu
  have hl100 := hid hl
  have hl : l.length ≤ 100 := by omega
  clear h p3 hf hz E hu
  go_enter Tryz.func59, Tryz.ntmps59
  go_wp2_with fail
  refine (rnew_any w HZ.out).mono ?_
  rintro e w1 ⟨rb, rfl, hrb, hri, u⟩
  have U1 := hid u; have HRI := hid hri
  clear u hri
  go_wp2_with fail
  refine (hnew_any rb _ (Nat.le_trans HZ.out U1.out.size)).mono ?_
  rintro e w2 ⟨hb, rfl, hhb, hn, u⟩
  obtain ⟨O0, hO0⟩ : ∃ O : Nat → Prop, (fun k => w1.heap.size ≤ k ∧ k < w2.heap.size) = O := ⟨_, rfl⟩
  rw [hO0] at hn
  have HO0 := hid (show ∀ k, O0 k → w1.heap.size ≤ k by rw [← hO0]; exact fun k hk => hk.1)
  have HNH := hid hn; have U2 := hid u
  clear hn u hO0 hhb
  go_wp2_with fail
  go_loopg [7, 8] l.length (fun gg s7 s8 wr => ∃ k : Nat, k ≤ l.length ∧ gg = l.length - k ∧ s8 = .int .i64 k ∧ (∃ Or, IsRing wr Or rb (signedTo l k).1 ∧ (∀ j, Or j → w.heap.size ≤ j) ∧ (∀ g, Value.ownBlock s7 = some g → ¬ Or g) ∧ ∀ j, Or j → ¬ O0 j) ∧ SgsAt wr w.heap.size s7 (signedTo l k).2 ∧ IsHis wr O0 hb rb [] ∧ (∀ g, Value.ownBlock s7 = some g → ¬ O0 g) ∧ Upd (fun _ => False) w wr)
  case atStart => exact ⟨0, Nat.zero_le _, rfl, rfl, ⟨_, HRI.out.keep U2.out, fun j hj => hj.1, fun g hg => (nomatch hg), fun j hj q => by have := HO0.out j q; omega⟩, SgsAt.nil, HNH.out, fun g hg => (nomatch hg), U1.out.trans U2.out⟩
  case round =>
    obtain ⟨k, hk, hg, rfl, hr, hs, hi, hap, u⟩ := hrel
    have UU := hid u; have HG := hid hg; have HR := hid hr; have SG := hid hs; have HI := hid hi; have HAP := hid hap
    clear u hg hr hs hi hap
    by_cases hlt : k < l.length
    case neg =>
      have hlti : ¬ (k : Int) < l.length := by omega
      have HK := hid (show signedTo l k = signedF l by rw [← signedTo_all, show k = l.length by omega])
      have HSL := hid (signed_len l)
      have HSM := hid (signed_small l (by omega) HW4.out)
      obtain ⟨Or, s1, s2, s3, s4⟩ := HR.out
      have s5 := SG.out
      rw [HK.out] at s1 s5
      obtain ⟨R, hR⟩ : ∃ R, (signedF l).1 = R := ⟨_, rfl⟩
      obtain ⟨sl, hsl⟩ : ∃ sl, (signedF l).2 = sl := ⟨_, rfl⟩
      have HRE := hid hR; have HSLE := hid hsl
      rw [hR] at s1
      rw [hsl] at s5
      obtain ⟨aS, cs, e7, hs1, hs2⟩ := own_slice s5
      have hs2 : cs ≤ 9223372036854775807 := hs2
      subst e7
      have hsl60 : sl.length ≤ 60 := by rw [← hsl, HSL.out.1]; exact hl100.out
      have START := hid (show ∃ O, HPre wr O Or hb rb (playTo R sl 0) R ∧ SgsAt wr w.heap.size (.slice aS sl.length cs) sl ∧ (∀ k, O k → w.heap.size ≤ k) ∧ (∀ g, Value.ownBlock (.slice aS sl.length cs) = some g → ¬ O g) ∧ Upd (fun _ => False) w wr from
        ⟨O0, ⟨HI.out, ⟨s1, HE.out.keep0 UU.out, HU.out.keep UU.out, Nat.le_trans HZ.out UU.out.size⟩, His.nil, s4, by rw [← hR]; have := HSL.out.2; have := hl100.out; omega⟩, s5, fun k hk => by have := HO0.out k hk; have := U1.out.size; omega, HAP.out, UU.out⟩)
      have HS2 := hid s2
      clear s1 s2 s3 s4 s5 hR hsl HI HAP SG HR UU
      go_wp2_with fail
      go_loopg [9] sl.length (fun gg s9 wx => ∃ k : Nat, k ≤ sl.length ∧ gg = sl.length - k ∧ s9 = .int .i64 k ∧ ∃ O, HPre wx O Or hb rb (playTo R sl k) R ∧ SgsAt wx w.heap.size (.slice aS sl.length cs) sl ∧ (∀ k, O k → w.heap.size ≤ k) ∧ (∀ g, Value.ownBlock (.slice aS sl.length cs) = some g → ¬ O g) ∧ Upd (fun _ => False) w wx)
      case atStart => exact ⟨0, Nat.zero_le _, rfl, rfl, START.out⟩
      case round =>
        obtain ⟨j, hj, hg, rfl, O, q1, q2, q3, q4, q5⟩ := hrel
        have PR := hid q1; have SG := hid q2; have OW := hid q3; have AP := hid q4; have UU := hid q5; have HGJ := hid hg
        clear q1 q2 q3 q4 q5 hg START
        by_cases hlj : j < sl.length
        case neg =>
          have hlji : ¬ (j : Int) < sl.length := by omega
          have HPL := hid (show playTo R sl j = playF l by unfold playTo playF; rw [List.take_of_length_le (by omega), HRE.out, HSLE.out])
          go_wp2_with fail
          go_ret3
          refine ⟨rb, _, hb, O, Or, rfl, ?_, ?_, OW.out, HS2.out, AP.out, HSM.out, HSL.out.1, UU.out⟩
          · rw [← HPL.out, HRE.out]; exact PR.out
          · rw [HSLE.out]; exact SG.out
        have hlji : (j : Int) < sl.length := by omega
        have hj1 : (j : Int) + 1 ≤ 1000 := by omega
        obtain ⟨g, cap2, e1, _, _, _, _, hc⟩ := SgsAt.get SG.out (Nat.lt_of_le_of_lt (Nat.zero_le _) hlj)
        cases e1
        obtain ⟨m0, m1, m2⟩ := hc j hlj
        obtain ⟨s, hse⟩ : ∃ s, sl[j] = s := ⟨_, rfl⟩
        have SM := hid (show SgSmall s from HSM.out s (by rw [HSLE.out, ← hse]; exact List.getElem_mem hlj))
        have STEP := hid (show playTo R sl (j + 1) = (addF rdF R (playTo R sl j) s).1 by rw [playTo_succ hlj, hse])
        rw [hse] at m0 m1 m2
        clear hc hse
        go_wp2_with fail
        refine (add_any (sg_pre PR.out SM.out)).mono ?_
        rintro en y1 ⟨rfl, O', q1, q2, q3⟩
        have P2 := hid (PR.out.grown q3 q1 (PR.out.plain.add s) q2)
        have G2 := hid (ownsRow_upd SG.out q3 AP.out)
        have Q2 := hid q2
        have UY := hid (UU.out.comp q3 fun i hi e => by have := OW.out i e; omega)
        have US := hid q3.size
        clear q1 q2 q3 m0 m1 m2
        go_wp2_with fail
        go_roundg (sl.length - (j + 1))
        case measure => have := HGJ.out; omega
        case rel =>
          refine ⟨j + 1, by omega, rfl, by go_num, O', ?_, G2.out, fun k hk => ?_, fun g hg hk => ?_, UY.out⟩
          · rw [STEP.out]; exact P2.out
          · rcases Q2.out k hk with c | c
            · exact OW.out k c
            · have := UU.out.size; omega
          · rcases Q2.out g hk with c | c
            · exact AP.out g hg c
            · have := (row_lt SG.out g hg).2; omega
    have hlti : (k : Int) < l.length := by omega
    have hdl : decide ((k : Int) < l.length) = true := decide_eq_true hlti
    obtain ⟨b, o, rfl, _, hel⟩ := P3.out (by omega)
    obtain ⟨a1, a2, a3, c1, c2, c3, hpo0⟩ := po_at hel hlt
    have HPO := hid hpo0
    obtain ⟨p, hp⟩ : ∃ p, l[k] = p := ⟨_, rfl⟩
    rw [hp] at HPO
    have HFP := hid (show FewPo p from hp ▸ HF.out _ (List.getElem_mem hlt))
    have HSU := hid (show signedTo l (k + 1) = signStep (signedTo l k) p by rw [signedTo_succ l hlt, hp])
    have HLK := hid (signedTo_len l k (Nat.le_of_lt hlt))
    clear hel hpo0 hp
    have hk1 : (k : Int) + 1 ≤ 1000 := by omega
    go_upto_region 9 with (fail)
    refine wp_region_g (fun w' => PoAt w' (· < w.heap.size) b (o + k * 16) p a1 a2 a3 c1 c2 c3) 21 (by kernel_rfl) ?_
    have KEEP := hid (fun (w' : World) (u : Upd (fun _ => False) w w') => (HPO.out.keep u id (fun _ _ => id) : PoAt w' (· < w.heap.size) b (o + k * 16) p a1 a2 a3 c1 c2 c3))
    obtain ⟨W0, hW0⟩ : ∃ W0, wr.drew = W0 := ⟨_, rfl⟩
    have Y0 := hid (show Upd (fun _ => False) w W0 by rw [← hW0]; exact UU.out.drew)
    have SG0 := hid (show SgsAt W0 w.heap.size u7 (signedTo l k).2 by rw [← hW0]; exact SG.out)
    obtain ⟨Or, s1, s2, s3, s4⟩ := HR.out
    have S4 := hid s4
    have I0 := hid (show IsHis W0 O0 hb rb [] by rw [← hW0]; exact HI.out.keep ((Upd.refl _ _).drew))
    have R0 := hid (show IsRing W0 Or rb (signedTo l k).1 by rw [← hW0]; exact s1.keep ((Upd.refl _ _).drew))
    have S2 := hid s2; have S3 := hid s3
    rw [hW0]
    clear hW0 s1 s2 s3 s4
    have hS := KEEP.out W0 Y0.out
    refine g_take0 (i := 0) rfl (by kernel_rfl) (by kernel_rfl) (by kernel_rfl) (by decide) (fun _ _ _ h => h) (yields_move (by kernel_rfl) _ rfl rfl) (fun _ => hS) ?_
    (try simp only [List.getElem_toArray, List.getElem_cons_zero, List.getElem_cons_succ])
    (try go_frame)
    refine g_take0 (i := 1) rfl (by kernel_rfl) (by kernel_rfl) (by kernel_rfl) (by decide) (fun _ _ _ h => h) (yields_move (by kernel_rfl) _ rfl rfl) (fun _ => hS) ?_
    (try simp only [List.getElem_toArray, List.getElem_cons_zero, List.getElem_cons_succ])
    (try go_frame)
    refine g_take0 (i := 2) rfl (by kernel_rfl) (by kernel_rfl) (by kernel_rfl) (by decide) (fun _ _ _ h => h) (yields_move (by kernel_rfl) _ rfl rfl) (fun _ => hS) ?_
    (try simp only [List.getElem_toArray, List.getElem_cons_zero, List.getElem_cons_succ])
    (try go_frame)
    refine g_take0 (i := 3) rfl (by kernel_rfl) (by kernel_rfl) (by kernel_rfl) (by decide) (fun _ _ _ h => h) (yields_move (by kernel_rfl) _ rfl rfl) (fun _ => hS) ?_
    (try simp only [List.getElem_toArray, List.getElem_cons_zero, List.getElem_cons_succ])
    (try go_frame)
    refine g_take0 (i := 4) rfl (by kernel_rfl) (by kernel_rfl) (by kernel_rfl) (by decide) (fun _ _ _ h => h) (yields_index (by kernel_rfl) _ _ _ rfl rfl rfl (fun w _ => po_index hlt p1 p2 w)) (fun _ => hS) ?_
    (try simp only [List.getElem_toArray, List.getElem_cons_zero, List.getElem_cons_succ])
    (try go_frame)
    refine g_take0 (i := 5) rfl (by kernel_rfl) (by kernel_rfl) (by kernel_rfl) (by decide) (fun _ _ _ h => h) (yields_field (by kernel_rfl) _ _ _ rfl rfl (fun w _ => po_field0 _ _ w)) (fun _ => hS) ?_
    (try simp only [List.getElem_toArray, List.getElem_cons_zero, List.getElem_cons_succ])
    (try go_frame)
    refine g_take (i := 6) rfl (by kernel_rfl) (by kernel_rfl) (by kernel_rfl) (by kernel_rfl) (fun _ _ _ h => h) (yields_load (by kernel_rfl) _ _ rfl rfl (fun w hw => int_load (x := p.key) (hw.cells 0 (by decide)))) hS ?_
    (try simp only [List.getElem_toArray, List.getElem_cons_zero, List.getElem_cons_succ])
    (try go_frame)
    refine g_take0 (i := 7) rfl (by kernel_rfl) (by kernel_rfl) (by kernel_rfl) (by decide) (fun _ _ _ h => h) (yields_move (by kernel_rfl) _ rfl rfl) (fun _ => hS) ?_
    (try simp only [List.getElem_toArray, List.getElem_cons_zero, List.getElem_cons_succ])
    (try go_frame)
    refine g_take0 (i := 8) rfl (by kernel_rfl) (by kernel_rfl) (by kernel_rfl) (by decide) (fun _ _ _ h => h) (yields_move (by kernel_rfl) _ rfl rfl) (fun _ => hS) ?_
    (try simp only [List.getElem_toArray, List.getElem_cons_zero, List.getElem_cons_succ])
    (try go_frame)
    refine g_take0 (i := 9) rfl (by kernel_rfl) (by kernel_rfl) (by kernel_rfl) (by decide) (fun _ _ _ h => h) (yields_index (by kernel_rfl) _ _ _ rfl rfl rfl (fun w _ => po_index hlt p1 p2 w)) (fun _ => hS) ?_
    (try simp only [List.getElem_toArray, List.getElem_cons_zero, List.getElem_cons_succ])
    (try go_frame)
    refine g_take (i := 10) rfl (by kernel_rfl) (by kernel_rfl) (by kernel_rfl) (by kernel_rfl) (fun _ _ _ h => h) (yields_load (by kernel_rfl) _ _ rfl rfl (fun w hw => po_load hw)) hS ?_
    (try simp only [List.getElem_toArray, List.getElem_cons_zero, List.getElem_cons_succ])
    (try go_frame)
    refine g_take0 (i := 13) rfl (by kernel_rfl) (by kernel_rfl) (by kernel_rfl) (by decide) (fun _ _ _ h => h) (yields_move (by kernel_rfl) _ rfl rfl) (fun _ => hS) ?_
    (try simp only [List.getElem_toArray, List.getElem_cons_zero, List.getElem_cons_succ])
    (try go_frame)
    refine g_take0 (i := 14) rfl (by kernel_rfl) (by kernel_rfl) (by kernel_rfl) (by decide) (fun _ _ _ h => h) (yields_move (by kernel_rfl) _ rfl rfl) (fun _ => hS) ?_
    (try simp only [List.getElem_toArray, List.getElem_cons_zero, List.getElem_cons_succ])
    (try go_frame)
    refine g_take0 (i := 15) rfl (by kernel_rfl) (by kernel_rfl) (by kernel_rfl) (by decide) (fun _ _ _ h => h) (yields_index (by kernel_rfl) _ _ _ rfl rfl rfl (fun w _ => po_index hlt p1 p2 w)) (fun _ => hS) ?_
    (try simp only [List.getElem_toArray, List.getElem_cons_zero, List.getElem_cons_succ])
    (try go_frame)
    refine g_take0 (i := 16) rfl (by kernel_rfl) (by kernel_rfl) (by kernel_rfl) (by decide) (fun _ _ _ h => h) (yields_field (by kernel_rfl) _ _ _ rfl rfl (fun w _ => po_field3 _ _ w)) (fun _ => hS) ?_
    (try simp only [List.getElem_toArray, List.getElem_cons_zero, List.getElem_cons_succ])
    (try go_frame)
    refine g_take (i := 17) rfl (by kernel_rfl) (by kernel_rfl) (by kernel_rfl) (by kernel_rfl) (fun _ _ _ h => h) (yields_load (by kernel_rfl) _ _ rfl rfl (fun w hw => int_load (x := p.odd) (hw.cells 15 (by decide)))) hS ?_
    (try simp only [List.getElem_toArray, List.getElem_cons_zero, List.getElem_cons_succ])
    (try go_frame)
    refine g_op (i := 11) (by kernel_rfl) rfl ?_
    go_wp2_with fail
    refine (words_any p a1 a2 a3 c1 c2 c3 _ (hS.rep.wide fun g hg => Nat.lt_of_lt_of_le hg Y0.out.size) (HFP.out.2.wf hS.ok.en) hS.ok.raw).mono ?_
    rintro e y1 ⟨rfl, u⟩
    have Y1 := hid (Y0.out.trans u); have V1 := hid u
    clear u
    have hS1 := KEEP.out y1 Y1.out
    obtain ⟨tx, htx⟩ : ∃ tx, wordsF p = tx := ⟨_, rfl⟩
    have HTX := hid htx
    have HTL := hid (show tx.length ≤ 4000 by rw [← htx]; exact words_len (HFP.out.2.wf hS.ok.en) (Nat.le_trans HFP.out.1 (by decide)))
    rw [htx]
    clear htx
    go_wp2_with fail
    try with_reducible refine And.intro (fun _ => hS1) ?_
    refine g_op (i := 12) (by kernel_rfl) rfl ?_
    go_wp2_with fail
    refine (sign_any (R0.out.keep V1.out) p.key tx hS.ok.key (Nat.le_trans HTL.out (by decide)) (by have := HLK.out.2; omega)).mono ?_
    rintro e y2 ⟨rfl, O2, q1, q2, q3⟩
    obtain ⟨sg, hsg⟩ : ∃ sg, (signF (signedTo l k).1 p.key tx).2 = sg := ⟨_, rfl⟩
    have HSG := hid hsg
    have HSS := hid (show (0 ≤ sg.key ∧ sg.key ≤ 1000) ∧ (0 ≤ sg.mark ∧ sg.mark ≤ 1000000) ∧ sg.text.length ≤ 1000000 by
      have q := sign_sg (signedTo l k).1 p.key tx
      rw [hsg] at q
      have := HLK.out.2; have := HTL.out; have := hl100.out
      omega)
    rw [hsg]
    have R2 := hid q1; have Q2 := hid q2; have V2 := hid q3
    have Y2 := hid (Y1.out.comp q3 fun i hi e => by have := S2.out i e; omega)
    clear hsg q1 q2 q3
    have hS2 := KEEP.out y2 Y2.out
    go_wp2_with fail
    try with_reducible refine And.intro (fun _ => hS2) ?_
    refine g_op (i := 18) (by kernel_rfl) rfl ?_
    go_wp2_with fail
    refine (turned_any sg p.odd HSS.out.1 HSS.out.2.1 HSS.out.2.2 _).mono ?_
    rintro e y3 ⟨rfl, u⟩
    obtain ⟨tg, htg⟩ : ∃ tg, turnedF sg p.odd = tg := ⟨_, rfl⟩
    have HTG := hid htg
    rw [htg]
    unfold sgV
    have V3 := hid u
    have Y3 := hid (Y2.out.trans u)
    clear u htg
    have hS3 := KEEP.out y3 Y3.out
    go_wp2_with fail
    try with_reducible refine And.intro (fun _ => hS3) ?_
    refine g_op (i := 19) (by kernel_rfl) rfl ?_
    have own3 := ownsRow_upd (ownsRow_upd (ownsRow_upd SG0.out V1.out fun _ _ => id) V2.out fun g hg => S3.out g hg) V3.out fun _ _ => id
    obtain ⟨v', w4, r4, o4, u4, n4⟩ := append_one elemSg own3 #[.int .i64 tg.key, .string ⟨tg.text.toArray⟩, .int .i64 tg.mark] rfl (by simp [Value.oneCell']) (by have := HLK.out.1; unfold maxLen; omega) (by have := HLK.out.1; omega) Y3.out.size 26 (0, 0)
    have O4 := hid o4; have U4 := hid u4; have N4 := hid n4
    have Y4 := hid (Y3.out.comp u4 fun i hi e => by
      rcases ownsRow_fits own3 with ⟨q, _⟩ | ⟨g', cap, q, q1, _⟩
      · rw [q] at e; cases e
      · rw [q] at e
        injection e with e
        have e : g' = i := e
        omega)
    clear own3 o4 u4 n4
    have hS3A := KEEP.out (y3.alloc (.cells #[.int .i64 tg.key, .string ⟨tg.text.toArray⟩, .int .i64 tg.mark] 36 (0, 0))) (Y3.out.alloc _)
    have hS4 := KEEP.out w4 Y4.out
    go_wp2_with fail
    try with_reducible refine And.intro (fun _ => hS3A) ?_
    refine g_op (i := 20) (by kernel_rfl) rfl ?_
    refine wpList_append_run rfl _ _ _ _ rfl rfl rfl r4 ?_
    go_wp2_with fail
    try with_reducible refine And.intro (fun _ => hS4) ?_
    refine g_op (i := 21) (by kernel_rfl) rfl ?_
    go_wp2_with fail
    try with_reducible refine And.intro (fun h => absurd h (by simp)) ?_
    refine g_done (by kernel_rfl) ?_
    go_wp2_with fail
    go_roundg (l.length - (k + 1))
    case measure => have := HG.out; omega
    case rel =>
      have z0 := Y0.out.size; have z1 := V1.out.size; have z2 := V2.out.size; have z3 := V3.out.size; have z4 := U4.out.size
      have hst : signedTo l (k + 1) = ((signF (signedTo l k).1 p.key tx).1, (signedTo l k).2 ++ [tg]) := by
        rw [HSU.out]
        unfold signStep
        rw [HTX.out, HSG.out, HTG.out]
      have hown : ∀ g, Value.ownBlock u7 = some g → w.heap.size ≤ g ∧ g < W0.heap.size := fun g hg => by
        rcases ownsRow_fits SG0.out with ⟨q, _⟩ | ⟨g', cap, q, q1, q2, _⟩
        · rw [q] at hg; cases hg
        · rw [q] at hg; cases hg; exact ⟨q1, q2⟩
      have hsep : ∀ g, Value.ownBlock u7 = some g → ¬ O2 g := fun g hg q => by
        rcases Q2.out g q with q | q
        · exact S3.out g hg q
        · have := (hown g hg).2; omega
      have hisl := fun j (hj : O0 j) => (I0.out.lt j hj).2
      refine ⟨k + 1, by omega, rfl, by go_num, ⟨O2, ?_, fun j hj => ?_, fun g hg q => ?_, fun j hj q => ?_⟩, ?_, ?_, fun g hg q => ?_, Y4.out⟩
      · rw [hst]
        exact (R2.out.keep V3.out).upd U4.out fun j hj e => hsep j e hj
      · rcases Q2.out j hj with q | q
        · exact S2.out j q
        · omega
      · rcases N4.out with e | ⟨g', e, h'⟩
        · exact hsep g (by rw [← e]; exact hg) q
        · rw [e] at hg; cases hg
          have := (R2.out.lt g q).2
          omega
      · rcases Q2.out j hj with c | c
        · exact S4.out j c q
        · have := hisl j q; omega
      · rw [hst]
        unfold SgsAt
        rw [sgFlat_snoc, List.length_append]
        exact O4.out
      · exact (((I0.out.keep V1.out).upd V2.out fun j hj q => S4.out j q hj).keep V3.out).upd U4.out fun j hj e => HAP.out j e hj
      · rcases N4.out with e | ⟨g', e, h'⟩
        · exact HAP.out g (by rw [← e]; exact hg) q
        · rw [e] at hg; cases hg
          have := hisl g q
          omega
end Go.Proofs.YtalhmpggpjbeaaaGreatDoor
namespace Go.Proofs.YtalhmpggpjbeaaaGreatDoor
open Go.RowKit Go.Deep

theorem note9_any (a q : Int) (ka : Option Addr) (n kc : Nat) (w : World) : Calls Tryz.prog 117 #[.int .i64 a, .int .i64 q, .slice ka n kc] w fun e w' => e = .returned (.agg #[.int .i64 a, .int .i64 q, .int .i64 0, .slice ka n kc, .int .i64 1, .int .i64 0, .int .i64 0, .int .i64 0, .int .i64 0, .int .i64 (-1), .slice none 0 0, .slice none 0 0, .string ⟨#[]⟩]) ∧ Upd (fun _ => False) w w' := by
  go_enter Tryz.func117, Tryz.ntmps117
  go_wp2_with fail
  obtain ⟨W, hW⟩ : ∃ W, W = w.alloc (.cells #[.int .i64 a, .int .i64 q, .int .i64 0, .slice ka n kc, .int .i64 1, .int .i64 0, .int .i64 0, .int .i64 0, .int .i64 0, .int .i64 (-1), .slice none 0 0, .slice none 0 0, .string ⟨#[]⟩] 39 (0, 0)) := ⟨_, rfl⟩
  have hb : W.heap[w.heap.size]? = some (.cells #[.int .i64 a, .int .i64 q, .int .i64 0, .slice ka n kc, .int .i64 1, .int .i64 0, .int .i64 0, .int .i64 0, .int .i64 0, .int .i64 (-1), .slice none 0 0, .slice none 0 0, .string ⟨#[]⟩] 39 (0, 0)) := by rw [hW]; exact heap_alloc_new
  have u : Upd (fun _ => False) w W := by rw [hW]; exact (Upd.refl _ _).alloc _
  rw [← hW]
  have d0 : W.cell? ⟨w.heap.size, 0, none⟩ = some (.int .i64 a) := by rw [cell_of_block hb]; rfl
  have d1 : W.cell? ⟨w.heap.size, 1, none⟩ = some (.int .i64 q) := by rw [cell_of_block hb]; rfl
  have d2 : W.cell? ⟨w.heap.size, 2, none⟩ = some (.int .i64 0) := by rw [cell_of_block hb]; rfl
  have d3 : W.cell? ⟨w.heap.size, 3, none⟩ = some (.slice ka n kc) := by rw [cell_of_block hb]; rfl
  have d4 : W.cell? ⟨w.heap.size, 4, none⟩ = some (.int .i64 1) := by rw [cell_of_block hb]; rfl
  have d5 : W.cell? ⟨w.heap.size, 5, none⟩ = some (.int .i64 0) := by rw [cell_of_block hb]; rfl
  have d6 : W.cell? ⟨w.heap.size, 6, none⟩ = some (.int .i64 0) := by rw [cell_of_block hb]; rfl
  have d7 : W.cell? ⟨w.heap.size, 7, none⟩ = some (.int .i64 0) := by rw [cell_of_block hb]; rfl
  have d8 : W.cell? ⟨w.heap.size, 8, none⟩ = some (.int .i64 0) := by rw [cell_of_block hb]; rfl
  have d9 : W.cell? ⟨w.heap.size, 9, none⟩ = some (.int .i64 (-1)) := by rw [cell_of_block hb]; rfl
  have d10 : W.cell? ⟨w.heap.size, 10, none⟩ = some (.slice none 0 0) := by rw [cell_of_block hb]; rfl
  have d11 : W.cell? ⟨w.heap.size, 11, none⟩ = some (.slice none 0 0) := by rw [cell_of_block hb]; rfl
  have d12 : W.cell? ⟨w.heap.size, 12, none⟩ = some (.string ⟨#[]⟩) := by rw [cell_of_block hb]; rfl
  have U := hid u
  clear hW hb u
  refine bodyPost_ret (v := .agg #[.int .i64 a, .int .i64 q, .int .i64 0, .slice ka n kc, .int .i64 1, .int .i64 0, .int .i64 0, .int .i64 0, .int .i64 0, .int .i64 (-1), .slice none 0 0, .slice none 0 0, .string ⟨#[]⟩]) (by simp [results, Tryz.results117, go_sem, d0, d1, d2, d3, d4, d5, d6, d7, d8, d9, d10, d11, d12]) rfl ?_
  exact ⟨rfl, U.out⟩
set_option maxHeartbeats 1000000 in
theorem has9_any (A : Nat → Prop) (v : Value) (l : List Int) (n : Int) (w : World) (h : kInts.rep A w [v] l) : Calls Tryz.prog 69 #[v, .int .i64 n] w fun e w' => e = .returned (.bool (decide (n ∈ l))) ∧ w = w' := by
  obtain ⟨a, cap, rfl, p1, p2, p3⟩ := slice_open h
  have p2 : cap ≤ 9223372036854775807 := p2
  have P3 := hid p3
  clear h p3
  go_enter Tryz.func69, Tryz.ntmps69
  go_wp2_with fail
  go_loopg [5] l.length (fun gg s5 wr => ∃ k : Nat, k ≤ l.length ∧ gg = l.length - k ∧ s5 = .int .i64 k ∧ (∀ i (h : i < l.length), i < k → l[i] ≠ n) ∧ w = wr)
  case atStart => exact ⟨0, Nat.zero_le _, rfl, rfl, fun i _ h => absurd h (Nat.not_lt_zero _), rfl⟩
  case round =>
    obtain ⟨k, hk, hg, rfl, hf, rfl⟩ := hrel
    have HG := hid hg; have HF := hid hf
    clear hg hf
    by_cases hlt : k < l.length
    case neg =>
      have hlti : ¬ (k : Int) < l.length := by omega
      have HD := hid (show n ∉ l from fun q => by obtain ⟨i, hi, e⟩ := List.getElem_of_mem q; exact HF.out i hi (by omega) e)
      go_wp2_with fail
      go_ret
      exact ⟨by rw [decide_eq_false HD.out] <;> rfl, rfl⟩
    have hlti : (k : Int) < l.length := by omega
    have hk1 : (k : Int) + 1 ≤ 9223372036854775807 := by omega
    obtain ⟨b, o, rfl, _, hel⟩ := P3.out (by omega)
    have m0 := int_cells hel hlt
    obtain ⟨x, hx⟩ : ∃ x, l[k] = x := ⟨_, rfl⟩
    have HX := hid hx
    rw [hx] at m0
    clear hx hel
    by_cases he : x = n
    · have t1 : (x == n) = true := beq_iff_eq.2 he
      have HD := hid (show n ∈ l from by rw [← he, ← HX.out]; exact List.getElem_mem hlt)
      clear he
      go_wp2_with fail
      go_ret
      exact ⟨by rw [decide_eq_true HD.out] <;> rfl, rfl⟩
    · have t1 : (x == n) = false := beq_eq_false_iff_ne.2 he
      have HE := hid he
      clear he
      go_wp2_with fail
      go_roundg (l.length - (k + 1))
      case measure => have := HG.out; omega
      case rel =>
        refine ⟨k + 1, by omega, rfl, by go_num, fun i hi hik => ?_, rfl⟩
        by_cases e : i = k
        · subst e; rw [HX.out]; exact HE.out
        · exact HF.out i hi (by omega)
/-! ## The entries of the examples -/
def fourL : List En := [nt 3 0 [], nt 3 1 [0], nd1 3 1 [0], nt 4 0 [1]]
def fourStep (st : Rg × List Sg) (e : En) : Rg × List Sg := ((signF st.1 e.author (txtF e)).1, st.2 ++ [(signF st.1 e.author (txtF e)).2])
def fourTo (k : Nat) : Rg × List Sg := (fourL.take k).foldl fourStep ([], [])
theorem fourTo_succ {k : Nat} (hk : k < fourL.length) : fourTo (k + 1) = fourStep (fourTo k) fourL[k] := by
  unfold fourTo; rw [List.take_succ_eq_append_getElem hk, List.foldl_append]; rfl
theorem fourTo_all : fourTo 4 = (fkR, fkL) := rfl
theorem fourTo_len : ∀ k, k ≤ 4 → (fourTo k).2.length = k ∧ (fourTo k).1.length ≤ k := by
  intro k hk
  induction k with
  | zero => exact ⟨rfl, Nat.le_refl _⟩
  | succ k ih =>
    have hk' : k < fourL.length := by show k < 4; omega
    obtain ⟨h1, h2⟩ := ih (by omega)
    rw [fourTo_succ hk']
    unfold fourStep
    refine ⟨by rw [List.length_append, h1]; rfl, ?_⟩
    have : ∀ (R : Rg) (a : Int) (t : List UInt8), (signF R a t).1.length ≤ R.length + 1 := by
      intro R a t
      unfold signF
      split
      · exact Nat.le_succ _
      · split
        · exact Nat.le_succ _
        · rw [List.length_append]; exact Nat.le_refl _
    have h3 := this (fourTo k).1 fourL[k].author (txtF fourL[k])
    exact Nat.le_trans h3 (by omega)
theorem fourL_txt : ∀ e ∈ fourL, (txtF e).length ≤ 1000 := by
  obtain ⟨h1, h2, h3, h4⟩ := fk_txt
  intro e he
  simp only [fourL, List.mem_cons, List.not_mem_nil, or_false] at he
  rcases he with rfl | rfl | rfl | rfl <;> assumption
theorem fourL_wf : ∀ e ∈ fourL, EnWf e ∧ (Lit.int .i64 e.author).wf = true := by
  intro e he
  simp only [fourL, List.mem_cons, List.not_mem_nil, or_false] at he
  have key : ∀ (a q d : Int) (l : List Int), l.length ≤ 100 → (∀ x ∈ l, I64 x) → EnWf (⟨a, q, d, l, 1, 0, 0, 0, 0, -1, [], [], []⟩ : En) := fun a q d l h1 h2 =>
    ⟨⟨Nat.le_trans h1 (by decide), h2⟩, ⟨Nat.zero_le _, fun x h => nomatch h⟩, (show I64 0 by unfold I64; decide), (show I64 0 by unfold I64; decide), (show I64 (-1) by unfold I64; decide)⟩
  rcases he with rfl | rfl | rfl | rfl
  · exact ⟨key 3 0 0 [] (by decide) (fun x h => nomatch h), by decide⟩
  · exact ⟨key 3 1 0 [0] (by decide) (fun x h => by rw [List.mem_singleton.1 h]; unfold I64; decide), by decide⟩
  · exact ⟨key 3 1 1 [0] (by decide) (fun x h => by rw [List.mem_singleton.1 h]; unfold I64; decide), by decide⟩
  · exact ⟨key 4 0 0 [1] (by decide) (fun x h => by rw [List.mem_singleton.1 h]; unfold I64; decide), by decide⟩
/-- An entry's cells, with its slices. -/
structure EnCs (A : Nat → Prop) (w : World) (b q : Nat) (e : En) (a1 : Option Addr) (c1 : Nat) : Prop where
  cells : ∀ j, j < 13 → w.cell? ⟨b, q + j, none⟩ = (en13 e a1 none none c1 0 0)[j]?
  knows : kInts.rep A w [.slice a1 e.knows.length c1] e.knows
theorem EnCs.upd {A S : Nat → Prop} {w w' : World} {b q : Nat} {e : En} {a1 : Option Addr} {c1 : Nat} (h : EnCs A w b q e a1 c1) (u : Upd S w w') (hb : ¬ S b) (hA : ∀ g, A g → ¬ S g) : EnCs A w' b q e a1 c1 :=
  ⟨fun j hj => by
    have h0 := h.cells j hj
    have hs : j < (en13 e a1 none none c1 0 0).size := hj
    rw [Array.getElem?_eq_getElem hs] at h0 ⊢
    exact cell_kept h0 (u.block _ (World.block_lt_of_cell? _ _ h0) hb), kInts.keep h.knows (Same.of_upd u hA)⟩
theorem EnCs.rep {A : Nat → Prop} {w : World} {b q : Nat} {e : En} {a1 : Option Addr} {c1 : Nat} (h : EnCs A w b q e a1 c1) (hA : ∀ g, A g → g < w.heap.size) (hk : e.keys = []) (hs : e.spans = []) : EnRep (· < w.heap.size) w e a1 none none c1 0 0 :=
  ⟨kInts.mono h.knows hA, by rw [hk]; exact .inl ⟨none, 0, rfl, Nat.zero_le _, rfl⟩, by rw [hs]; exact .inl ⟨none, 0, rfl, Nat.zero_le _, rfl⟩⟩
theorem encs_load {A : Nat → Prop} {w : World} {b q : Nat} {e : En} {a1 : Option Addr} {c1 : Nat} (h : EnCs A w b q e a1 c1) : (Instr.loadAt 39 (.pointer (some ⟨b, q, none⟩))).run Tryz.prog w = .ok (enV e a1 none none c1 0 0) w := by
  have k := h.cells
  have m0 : w.cell? ⟨b, q, none⟩ = some (.int .i64 e.author) := k 0 (by decide)
  have m1 : w.cell? ⟨b, q + 1, none⟩ = some (.int .i64 e.seq) := k 1 (by decide)
  have m2 : w.cell? ⟨b, q + 2, none⟩ = some (.int .i64 e.day) := k 2 (by decide)
  have m3 : w.cell? ⟨b, q + 3, none⟩ = some (.slice a1 e.knows.length c1) := k 3 (by decide)
  have m4 : w.cell? ⟨b, q + 4, none⟩ = some (.int .i64 e.kind) := k 4 (by decide)
  have m5 : w.cell? ⟨b, q + 5, none⟩ = some (.int .i64 e.circle) := k 5 (by decide)
  have m6 : w.cell? ⟨b, q + 6, none⟩ = some (.int .i64 e.who) := k 6 (by decide)
  have m7 : w.cell? ⟨b, q + 7, none⟩ = some (.int .i64 e.n) := k 7 (by decide)
  have m8 : w.cell? ⟨b, q + 8, none⟩ = some (.int .i64 e.m) := k 8 (by decide)
  have m9 : w.cell? ⟨b, q + 9, none⟩ = some (.int .i64 e.ref) := k 9 (by decide)
  have m10 : w.cell? ⟨b, q + 10, none⟩ = some (.slice none e.keys.length 0) := k 10 (by decide)
  have m11 : w.cell? ⟨b, q + 11, none⟩ = some (.slice none e.spans.length 0) := k 11 (by decide)
  have m12 : w.cell? ⟨b, q + 12, none⟩ = some (.string ⟨e.text.toArray⟩) := k 12 (by decide)
  clear k h
  unfold enV
  unfold Instr.loadAt
  go_simp
def fourCells (p1 p2 p3 : Nat) : Array Value := ((en13 (nt 3 0 []) none none none 0 0 0).toList ++ (en13 (nt 3 1 [0]) (some ⟨p1, 0, none⟩) none none 1 0 0).toList ++ (en13 (nd1 3 1 [0]) (some ⟨p2, 0, none⟩) none none 1 0 0).toList ++ (en13 (nt 4 0 [1]) (some ⟨p3, 0, none⟩) none none 1 0 0).toList).toArray
theorem wp_world {P : Program} {Q : Exit → Act → World → Prop} {c : Code} {a : Act} {w w' : World} (h : w' = w) (k : c.wp P Q a w') : c.wp P Q a w := h ▸ k
theorem four_at0 (p1 p2 p3 j : Nat) (hj : j < 13) : (fourCells p1 p2 p3)[0 * 13 + j]? = (en13 (nt 3 0 []) none none none 0 0 0)[j]? := by
  match j, hj with
  | 0, _ => rfl
  | 1, _ => rfl
  | 2, _ => rfl
  | 3, _ => rfl
  | 4, _ => rfl
  | 5, _ => rfl
  | 6, _ => rfl
  | 7, _ => rfl
  | 8, _ => rfl
  | 9, _ => rfl
  | 10, _ => rfl
  | 11, _ => rfl
  | 12, _ => rfl
  | j + 13, h => exact absurd h (by omega)
theorem four_at1 (p1 p2 p3 j : Nat) (hj : j < 13) : (fourCells p1 p2 p3)[1 * 13 + j]? = (en13 (nt 3 1 [0]) (some ⟨p1, 0, none⟩) none none 1 0 0)[j]? := by
  match j, hj with
  | 0, _ => rfl
  | 1, _ => rfl
  | 2, _ => rfl
  | 3, _ => rfl
  | 4, _ => rfl
  | 5, _ => rfl
  | 6, _ => rfl
  | 7, _ => rfl
  | 8, _ => rfl
  | 9, _ => rfl
  | 10, _ => rfl
  | 11, _ => rfl
  | 12, _ => rfl
  | j + 13, h => exact absurd h (by omega)
theorem four_at2 (p1 p2 p3 j : Nat) (hj : j < 13) : (fourCells p1 p2 p3)[2 * 13 + j]? = (en13 (nd1 3 1 [0]) (some ⟨p2, 0, none⟩) none none 1 0 0)[j]? := by
  match j, hj with
  | 0, _ => rfl
  | 1, _ => rfl
  | 2, _ => rfl
  | 3, _ => rfl
  | 4, _ => rfl
  | 5, _ => rfl
  | 6, _ => rfl
  | 7, _ => rfl
  | 8, _ => rfl
  | 9, _ => rfl
  | 10, _ => rfl
  | 11, _ => rfl
  | 12, _ => rfl
  | j + 13, h => exact absurd h (by omega)
theorem four_at3 (p1 p2 p3 j : Nat) (hj : j < 13) : (fourCells p1 p2 p3)[3 * 13 + j]? = (en13 (nt 4 0 [1]) (some ⟨p3, 0, none⟩) none none 1 0 0)[j]? := by
  match j, hj with
  | 0, _ => rfl
  | 1, _ => rfl
  | 2, _ => rfl
  | 3, _ => rfl
  | 4, _ => rfl
  | 5, _ => rfl
  | 6, _ => rfl
  | 7, _ => rfl
  | 8, _ => rfl
  | 9, _ => rfl
  | 10, _ => rfl
  | 11, _ => rfl
  | 12, _ => rfl
  | j + 13, h => exact absurd h (by omega)
theorem fourL_plain : ∀ e ∈ fourL, e.keys = [] ∧ e.spans = [] := by
  intro e he
  simp only [fourL, List.mem_cons, List.not_mem_nil, or_false] at he
  rcases he with rfl | rfl | rfl | rfl <;> exact ⟨rfl, rfl⟩
theorem four_ints {w : World} {b : Nat} {x : Int} (h : IntsBlk w b [x]) (hx : I64 x) (A : Nat → Prop) (hA : A b) : kInts.rep A w [.slice (some ⟨b, 0, none⟩) 1 1] [x] :=
  h.rep (cap := 1) (fun y hy => iwf (by rw [List.mem_singleton.1 hy]; exact hx)) (Nat.le_refl _) (show 1 ≤ maxLen by unfold maxLen; decide) hA
theorem en4_index {g cap n k : Nat} (hk : k < n) (hn : n ≤ cap) (hc : cap ≤ 9223372036854775807) (w : World) : (Instr.indexAt 70 (.slice (some ⟨g, 0, none⟩) n cap) (.int .i64 k)).run Tryz.prog w = .ok (.pointer (some ⟨g, k * 13, none⟩)) w := by
  have hki : (k : Int) < n := by omega
  unfold Instr.indexAt
  go_simp
theorem en4_field0 (g o : Nat) (w : World) : (Instr.fieldAt 39 (.pointer (some ⟨g, o, none⟩)) 0).run Tryz.prog w = .ok (.pointer (some ⟨g, o, none⟩)) w := by
  unfold Instr.fieldAt
  go_simp
/-- What four answers, and leaves. -/
def FourPost (Or : Nat → Prop) (r : Nat) (w : World) (e : Ending) (w' : World) : Prop :=
  ∃ v Or', e = .returned v ∧ IsRing w' Or' r fkR ∧ SgsAt w' w.heap.size v fkL ∧ (∀ k, Or' k → Or k ∨ w.heap.size ≤ k) ∧ (∀ g, v.ownBlock = some g → ¬ Or' g) ∧ Upd Or w w'
set_option maxRecDepth 100000 in
set_option maxHeartbeats 8000000 in
theorem four_any {Or : Nat → Prop} {r : Nat} {w : World} (h : IsRing w Or r []) (E : Env w) (hu : UsesIn w) : Calls Tryz.prog 108 #[.pointer (some ⟨r, 0, none⟩)] w (FourPost Or r w) := by
  have HR0 := hid h; have HE := hid E; have HU := hid hu
  clear h E hu
  go_enter Tryz.func108, Tryz.ntmps108
  go_wp2_with fail
  have UC := hid (Upd.refl (fun _ => False) w)
  refine (note9_any 3 0 none 0 0 _).mono ?_
  rintro en y0 ⟨rfl, u⟩
  replace UC := hid (UC.out.trans u)
  clear u
  go_wp2_with fail
  obtain ⟨x1a, hXA⟩ : ∃ XA, XA = y0.alloc (.cells #[.int .i64 0] 3 (0, 0)) := ⟨_, rfl⟩
  have IB1 := hid (show IntsBlk x1a y0.heap.size [0] by rw [hXA]; exact heap_alloc_new)
  have u : Upd (fun _ => False) y0 x1a := by rw [hXA]; exact (Upd.refl _ _).alloc _
  obtain ⟨pb1, hpb⟩ : ∃ x, y0.heap.size = x := ⟨_, rfl⟩
  have hpb0 := hpb
  rw [hpb] at IB1
  rw [← hXA]
  try rw [hpb]
  clear hXA hpb
  have NB1 := hid (show w.heap.size ≤ pb1 from by rw [← hpb0]; exact UC.out.size)
  replace UC := hid (UC.out.trans u)
  clear hpb0
  clear u
  refine (note9_any 3 1 (some ⟨pb1, 0, none⟩) 1 1 _).mono ?_
  rintro en y1 ⟨rfl, u⟩
  replace UC := hid (UC.out.trans u)
  replace IB1 := hid (show IntsBlk y1 pb1 [0] from (u.block _ IB1.out.lt id).trans IB1.out)
  clear u
  go_wp2_with fail
  obtain ⟨x2a, hXA⟩ : ∃ XA, XA = y1.alloc (.cells #[.int .i64 0] 3 (0, 0)) := ⟨_, rfl⟩
  have IB2 := hid (show IntsBlk x2a y1.heap.size [0] by rw [hXA]; exact heap_alloc_new)
  have u : Upd (fun _ => False) y1 x2a := by rw [hXA]; exact (Upd.refl _ _).alloc _
  obtain ⟨pb2, hpb⟩ : ∃ x, y1.heap.size = x := ⟨_, rfl⟩
  have hpb0 := hpb
  rw [hpb] at IB2
  rw [← hXA]
  try rw [hpb]
  clear hXA hpb
  have NB2 := hid (show w.heap.size ≤ pb2 from by rw [← hpb0]; exact UC.out.size)
  replace UC := hid (UC.out.trans u)
  clear hpb0
  replace IB1 := hid (show IntsBlk x2a pb1 [0] from (u.block _ IB1.out.lt id).trans IB1.out)
  clear u
  refine (note9_any 3 1 (some ⟨pb2, 0, none⟩) 1 1 _).mono ?_
  rintro en y2 ⟨rfl, u⟩
  replace UC := hid (UC.out.trans u)
  replace IB1 := hid (show IntsBlk y2 pb1 [0] from (u.block _ IB1.out.lt id).trans IB1.out)
  replace IB2 := hid (show IntsBlk y2 pb2 [0] from (u.block _ IB2.out.lt id).trans IB2.out)
  clear u
  go_wp2_with fail
  obtain ⟨x3a, hXA⟩ : ∃ XA, XA = y2.alloc (.cells #[.int .i64 1] 3 (0, 0)) := ⟨_, rfl⟩
  have IB3 := hid (show IntsBlk x3a y2.heap.size [1] by rw [hXA]; exact heap_alloc_new)
  have u : Upd (fun _ => False) y2 x3a := by rw [hXA]; exact (Upd.refl _ _).alloc _
  obtain ⟨pb3, hpb⟩ : ∃ x, y2.heap.size = x := ⟨_, rfl⟩
  have hpb0 := hpb
  rw [hpb] at IB3
  rw [← hXA]
  try rw [hpb]
  clear hXA hpb
  have NB3 := hid (show w.heap.size ≤ pb3 from by rw [← hpb0]; exact UC.out.size)
  replace UC := hid (UC.out.trans u)
  clear hpb0
  replace IB1 := hid (show IntsBlk x3a pb1 [0] from (u.block _ IB1.out.lt id).trans IB1.out)
  replace IB2 := hid (show IntsBlk x3a pb2 [0] from (u.block _ IB2.out.lt id).trans IB2.out)
  clear u
  refine (note9_any 4 0 (some ⟨pb3, 0, none⟩) 1 1 _).mono ?_
  rintro en y3 ⟨rfl, u⟩
  replace UC := hid (UC.out.trans u)
  replace IB1 := hid (show IntsBlk y3 pb1 [0] from (u.block _ IB1.out.lt id).trans IB1.out)
  replace IB2 := hid (show IntsBlk y3 pb2 [0] from (u.block _ IB2.out.lt id).trans IB2.out)
  replace IB3 := hid (show IntsBlk y3 pb3 [1] from (u.block _ IB3.out.lt id).trans IB3.out)
  clear u
  go_upto_region 4 with (fail)
  obtain ⟨eb, heb⟩ : ∃ x, y3.heap.size = x := ⟨_, rfl⟩
  obtain ⟨z1, hz1⟩ : ∃ z, y3.alloc (.cells (fourCells pb1 pb2 pb3) 39 (0, 0)) = z := ⟨_, rfl⟩
  have uz1 : Upd (fun _ => False) y3 z1 := by rw [← hz1]; exact (Upd.refl _ _).alloc _
  have B1 := hid (show z1.heap[eb]? = some (.cells (fourCells pb1 pb2 pb3) 39 (0, 0)) by rw [← hz1, ← heb]; exact heap_alloc_new)
  refine wp_world (w' := z1) (hz1.symm.trans rfl) ?_
  try rw [heb]
  have LB := hid (show w.heap.size ≤ pb1 ∧ w.heap.size ≤ pb2 ∧ w.heap.size ≤ pb3 ∧ w.heap.size ≤ eb from by have := NB1.out; have := NB2.out; have := NB3.out; have := UC.out.size; exact ⟨by omega, by omega, by omega, by omega⟩)
  have I1 := (uz1.block _ IB1.out.lt id).trans IB1.out; have I2 := (uz1.block _ IB2.out.lt id).trans IB2.out; have I3 := (uz1.block _ IB3.out.lt id).trans IB3.out
  have EC := hid (show ∀ k (hk : k < fourL.length), ∃ a1 c1, EnCs (fun g => w.heap.size ≤ g ∧ g < z1.heap.size) z1 eb (k * 13) fourL[k] a1 c1 from by
    obtain ⟨l1, l2, l3, l4⟩ := LB.out
    intro k hk
    match k, hk with
    | 0, _ => exact ⟨none, 0, ⟨fun j hj => by rw [cell_of_block B1.out]; exact four_at0 pb1 pb2 pb3 j hj, .inl ⟨none, 0, rfl, Nat.zero_le _, rfl⟩⟩⟩
    | 1, _ => exact ⟨_, 1, ⟨fun j hj => by rw [cell_of_block B1.out]; exact four_at1 pb1 pb2 pb3 j hj, four_ints (x := 0) I1 (by unfold I64; decide) _ ⟨l1, heap_lt I1⟩⟩⟩
    | 2, _ => exact ⟨_, 1, ⟨fun j hj => by rw [cell_of_block B1.out]; exact four_at2 pb1 pb2 pb3 j hj, four_ints (x := 0) I2 (by unfold I64; decide) _ ⟨l2, heap_lt I2⟩⟩⟩
    | 3, _ => exact ⟨_, 1, ⟨fun j hj => by rw [cell_of_block B1.out]; exact four_at3 pb1 pb2 pb3 j hj, four_ints (x := 1) I3 (by unfold I64; decide) _ ⟨l3, heap_lt I3⟩⟩⟩
    | k + 4, hk => exact absurd hk (by show ¬ k + 4 < 4; omega))
  have UZ := hid (UC.out.trans uz1)
  have EBL := hid (heap_lt B1.out)
  have EBW := hid LB.out.2.2.2
  have HRZ := hid (HR0.out.keep (UC.out.trans uz1))
  have ORL := hid (fun k hk => (HR0.out.lt k hk).2)
  have SIX := hid (show 6 ≤ z1.heap.size from by
    obtain ⟨_, _, _, q⟩ := HRZ.out
    have := HRZ.out.lt r q.own.1
    omega)
  clear hz1 heb uz1 I1 I2 I3 LB B1 IB1 IB2 IB3 NB1 NB2 NB3 UC HR0
  go_wp2_with fail
  go_loopg [4, 5] 4 (fun gg s4 s5 wr => ∃ k : Nat, k ≤ 4 ∧ gg = 4 - k ∧ s5 = .int .i64 k ∧ (∃ Or', IsRing wr Or' r (fourTo k).1 ∧ (∀ j, Or' j → Or j ∨ z1.heap.size ≤ j) ∧ ∀ g, Value.ownBlock s4 = some g → ¬ Or' g) ∧ SgsAt wr z1.heap.size s4 (fourTo k).2 ∧ Upd (fun j => Or j ∨ z1.heap.size ≤ j) z1 wr)
  case atStart => exact ⟨0, Nat.zero_le _, rfl, rfl, ⟨Or, HRZ.out, fun j hj => .inl hj, fun g hg => (nomatch hg)⟩, SgsAt.nil, Upd.refl _ _⟩
  case round =>
    obtain ⟨k, hk, hg, rfl, hr, hs, u⟩ := hrel
    have UU := hid u; have HG := hid hg; have HR := hid hr; have SG := hid hs
    clear u hg hr hs
    by_cases hlt : k < 4
    case neg =>
      have hlti : ¬ (k : Int) < 4 := by omega
      have HK := hid (show fourTo k = (fkR, fkL) by rw [show k = 4 by omega]; exact fourTo_all)
      go_wp2_with fail
      go_ret
      obtain ⟨Or', s1, s2, s3⟩ := HR.out
      rw [HK.out] at s1
      have s4 := SG.out
      rw [HK.out] at s4
      have hz := UZ.out.size
      exact ⟨_, Or', rfl, s1, ownsRow_base s4 hz, fun j hj => (s2 j hj).imp id fun q => Nat.le_trans hz q, s3, (UZ.out.mono fun _ q => q.elim : Upd Or w z1).comp UU.out fun i hi q => q.elim id fun z => by omega⟩
    have hlti : (k : Int) < 4 := by omega
    have hk1 : (k : Int) + 1 ≤ 1000 := by omega
    have hkl : k < fourL.length := hlt
    obtain ⟨a1, c1, hec⟩ := EC.out k hkl
    have hec := hec.upd UU.out (fun q => q.elim (fun z => by have := ORL.out eb z; have := EBW.out; omega) fun z => by have := EBL.out; omega) (fun g hg q => q.elim (fun z => by have := ORL.out g z; omega) fun z => by omega)
    have HEM := hid (List.getElem_mem hkl)
    have HSU := hid (fourTo_succ hkl)
    obtain ⟨e, he⟩ : ∃ e, fourL[k] = e := ⟨_, rfl⟩
    rw [he] at hec HEM HSU
    have HFL := hid (fourL_plain e HEM.out); have HWF := hid (fourL_wf e HEM.out); have HTX := hid (fourL_txt e HEM.out)
    have HLK := hid (fourTo_len k (by omega))
    have HEC := hid hec
    clear hec he
    go_upto_region 7 with (fail)
    refine wp_region_g (fun w' => EnCs (fun g => w.heap.size ≤ g ∧ g < z1.heap.size) w' eb (k * 13) e a1 c1) 15 (by kernel_rfl) ?_
    obtain ⟨W0, hW0⟩ : ∃ W0, wr.drew = W0 := ⟨_, rfl⟩
    have Y0 := hid (show Upd (fun j => Or j ∨ z1.heap.size ≤ j) z1 W0 by rw [← hW0]; exact UU.out.drew)
    have SG0 := hid (show SgsAt W0 z1.heap.size u4 (fourTo k).2 by rw [← hW0]; exact SG.out)
    obtain ⟨Or', s1, s2, s3⟩ := HR.out
    have R0 := hid (show IsRing W0 Or' r (fourTo k).1 by rw [← hW0]; exact s1.keep ((Upd.refl _ _).drew))
    have KEEP := hid (fun (y : World) (u : Upd (fun j => Or' j ∨ z1.heap.size ≤ j) W0 y) => (show EnCs (fun g => w.heap.size ≤ g ∧ g < z1.heap.size) y eb (k * 13) e a1 c1 from
      (show EnCs (fun g => w.heap.size ≤ g ∧ g < z1.heap.size) W0 eb (k * 13) e a1 c1 by rw [← hW0]; exact HEC.out.upd ((Upd.refl (fun _ => False) _).drew) id (fun _ _ => id)).upd u
        (fun q => q.elim (fun z => (s2 _ z).elim (fun z => by have := ORL.out eb z; have := EBW.out; omega) fun z => by have := EBL.out; omega) fun z => by have := EBL.out; omega)
        (fun g hg q => q.elim (fun z => (s2 _ z).elim (fun z => by have := ORL.out g z; omega) fun z => by omega) fun z => by omega)))
    have S2 := hid s2; have S3 := hid s3
    have HEW := hid (HE.out.keep0 UZ.out); have HUW := hid (HU.out.keep UZ.out)
    rw [hW0]
    clear hW0 s1 s2 s3
    have hS := KEEP.out W0 (Upd.refl _ _)
    refine g_take0 (i := 0) rfl (by kernel_rfl) (by kernel_rfl) (by kernel_rfl) (by decide) (fun _ _ _ h => h) (yields_move (by kernel_rfl) _ rfl rfl) (fun _ => hS) ?_
    (try simp only [List.getElem_toArray, List.getElem_cons_zero, List.getElem_cons_succ])
    (try go_frame)
    refine g_take0 (i := 1) rfl (by kernel_rfl) (by kernel_rfl) (by kernel_rfl) (by decide) (fun _ _ _ h => h) (yields_move (by kernel_rfl) _ rfl rfl) (fun _ => hS) ?_
    (try simp only [List.getElem_toArray, List.getElem_cons_zero, List.getElem_cons_succ])
    (try go_frame)
    refine g_take0 (i := 2) rfl (by kernel_rfl) (by kernel_rfl) (by kernel_rfl) (by decide) (fun _ _ _ h => h) (yields_move (by kernel_rfl) _ rfl rfl) (fun _ => hS) ?_
    (try simp only [List.getElem_toArray, List.getElem_cons_zero, List.getElem_cons_succ])
    (try go_frame)
    refine g_take0 (i := 3) rfl (by kernel_rfl) (by kernel_rfl) (by kernel_rfl) (by decide) (fun _ _ _ h => h) (yields_move (by kernel_rfl) _ rfl rfl) (fun _ => hS) ?_
    (try simp only [List.getElem_toArray, List.getElem_cons_zero, List.getElem_cons_succ])
    (try go_frame)
    refine g_take0 (i := 4) rfl (by kernel_rfl) (by kernel_rfl) (by kernel_rfl) (by decide) (fun _ _ _ h => h) (yields_index (by kernel_rfl) _ _ _ rfl rfl rfl (fun w _ => en4_index (n := 4) hlt (Nat.le_refl _) (by decide) w)) (fun _ => hS) ?_
    (try simp only [List.getElem_toArray, List.getElem_cons_zero, List.getElem_cons_succ])
    (try go_frame)
    refine g_take0 (i := 5) rfl (by kernel_rfl) (by kernel_rfl) (by kernel_rfl) (by decide) (fun _ _ _ h => h) (yields_field (by kernel_rfl) _ _ _ rfl rfl (fun w _ => en4_field0 _ _ w)) (fun _ => hS) ?_
    (try simp only [List.getElem_toArray, List.getElem_cons_zero, List.getElem_cons_succ])
    (try go_frame)
    refine g_take (i := 6) rfl (by kernel_rfl) (by kernel_rfl) (by kernel_rfl) (by kernel_rfl) (fun _ _ _ h => h) (yields_load (by kernel_rfl) _ _ rfl rfl (fun w hw => int_load (x := e.author) (hw.cells 0 (by decide)))) hS ?_
    (try simp only [List.getElem_toArray, List.getElem_cons_zero, List.getElem_cons_succ])
    (try go_frame)
    refine g_take0 (i := 7) rfl (by kernel_rfl) (by kernel_rfl) (by kernel_rfl) (by decide) (fun _ _ _ h => h) (yields_move (by kernel_rfl) _ rfl rfl) (fun _ => hS) ?_
    (try simp only [List.getElem_toArray, List.getElem_cons_zero, List.getElem_cons_succ])
    (try go_frame)
    refine g_take0 (i := 8) rfl (by kernel_rfl) (by kernel_rfl) (by kernel_rfl) (by decide) (fun _ _ _ h => h) (yields_move (by kernel_rfl) _ rfl rfl) (fun _ => hS) ?_
    (try simp only [List.getElem_toArray, List.getElem_cons_zero, List.getElem_cons_succ])
    (try go_frame)
    refine g_take0 (i := 9) rfl (by kernel_rfl) (by kernel_rfl) (by kernel_rfl) (by decide) (fun _ _ _ h => h) (yields_index (by kernel_rfl) _ _ _ rfl rfl rfl (fun w _ => en4_index (n := 4) hlt (Nat.le_refl _) (by decide) w)) (fun _ => hS) ?_
    (try simp only [List.getElem_toArray, List.getElem_cons_zero, List.getElem_cons_succ])
    (try go_frame)
    refine g_take (i := 10) rfl (by kernel_rfl) (by kernel_rfl) (by kernel_rfl) (by kernel_rfl) (fun _ _ _ h => h) (yields_load (by kernel_rfl) _ _ rfl rfl (fun w hw => encs_load hw)) hS ?_
    (try simp only [List.getElem_toArray, List.getElem_cons_zero, List.getElem_cons_succ])
    (try go_frame)
    refine g_op (i := 11) (by kernel_rfl) rfl ?_
    go_wp2_with fail
    refine (text_any e a1 none none c1 0 0 _ (HEW.out.keep Y0.out (fun j hj => hj.elim (fun z => (HRZ.out.lt j z).1) fun z => Nat.le_trans SIX.out z)) (fun k hk => cell_kept (HUW.out k hk) (Y0.out.block _ (World.block_lt_of_cell? _ _ (HUW.out k hk)) fun q => by
      rcases q with q | q
      · exact absurd (show (6 : Nat) ≤ 0 from (HRZ.out.lt _ q).1) (by decide)
      · exact absurd (show (6 : Nat) ≤ 0 from Nat.le_trans SIX.out q) (by decide))) (hS.rep (fun g hg => Nat.lt_of_lt_of_le hg.2 Y0.out.size) HFL.out.1 HFL.out.2) HWF.out.1).mono ?_
    rintro en y1' ⟨rfl, u⟩
    have V1 := hid u
    have Y1 := hid (Y0.out.trans (u.mono fun _ q => q.elim : Upd (fun j => Or j ∨ z1.heap.size ≤ j) W0 y1'))
    clear u
    have hS1 := KEEP.out y1' (V1.out.mono fun _ q => q.elim)
    obtain ⟨tx, htx⟩ : ∃ tx, txtF e = tx := ⟨_, rfl⟩
    have HTXE := hid htx
    have HTL := hid (show tx.length ≤ 1000 by rw [← htx]; exact HTX.out)
    rw [htx]
    clear htx
    go_wp2_with fail
    try with_reducible refine And.intro (fun _ => hS1) ?_
    refine g_op (i := 12) (by kernel_rfl) rfl ?_
    go_wp2_with fail
    refine (sign_any (R0.out.keep V1.out) e.author tx HWF.out.2 (Nat.le_trans HTL.out (by decide)) (by have := HLK.out.2; omega)).mono ?_
    rintro en y2' ⟨rfl, O2, q1, q2, q3⟩
    obtain ⟨sg, hsg⟩ : ∃ sg, (signF (fourTo k).1 e.author tx).2 = sg := ⟨_, rfl⟩
    have HSG := hid hsg
    rw [hsg]
    have R2 := hid q1; have Q2 := hid q2; have V2 := hid q3
    have Y2 := hid (Y1.out.trans (q3.mono fun j hj => S2.out j hj : Upd (fun j => Or j ∨ z1.heap.size ≤ j) y1' y2'))
    have K2 := hid ((V1.out.mono fun _ q => q.elim : Upd (fun j => Or' j ∨ z1.heap.size ≤ j) W0 y1').trans (q3.mono fun j hj => .inl hj))
    clear hsg q1 q2 q3
    have hS2 := KEEP.out y2' K2.out
    go_wp2_with fail
    try with_reducible refine And.intro (fun _ => hS2) ?_
    refine g_op (i := 13) (by kernel_rfl) rfl ?_
    have own3 := ownsRow_upd (ownsRow_upd SG0.out V1.out fun _ _ => id) V2.out fun g hg => S3.out g hg
    obtain ⟨v', w4, r4, o4, u4, n4⟩ := append_one elemSg own3 #[.int .i64 sg.key, .string ⟨sg.text.toArray⟩, .int .i64 sg.mark] rfl (by simp [Value.oneCell']) (by have := HLK.out.1; unfold maxLen; omega) (by have := HLK.out.1; omega) Y2.out.size 26 (0, 0)
    have O4 := hid o4; have N4 := hid n4; have R4 := hid r4; have U4 := hid u4
    have OB := hid (row_lt own3)
    have hS3 := KEEP.out (y2'.alloc (.cells #[.int .i64 sg.key, .string ⟨sg.text.toArray⟩, .int .i64 sg.mark] 36 (0, 0))) (K2.out.alloc _)
    have hS4 := KEEP.out w4 (K2.out.trans (u4.mono fun j hj => .inr (row_lt own3 j hj).1))
    have Y4 := hid (Y2.out.trans (u4.mono fun j hj => .inr (row_lt own3 j hj).1 : Upd (fun j => Or j ∨ z1.heap.size ≤ j) y2' w4))
    clear own3 o4 n4 r4 u4
    go_wp2_with fail
    try with_reducible refine And.intro (fun _ => hS3) ?_
    refine g_op (i := 14) (by kernel_rfl) rfl ?_
    refine wpList_append_run rfl _ _ _ _ rfl rfl rfl R4.out ?_
    go_wp2_with fail
    try with_reducible refine And.intro (fun _ => hS4) ?_
    refine g_op (i := 15) (by kernel_rfl) rfl ?_
    go_wp2_with fail
    try with_reducible refine And.intro (fun h => absurd h (by simp)) ?_
    refine g_done (by kernel_rfl) ?_
    go_wp2_with fail
    go_roundg (4 - (k + 1))
    case measure => have := HG.out; omega
    case rel =>
      have z0 := Y0.out.size; have z1' := V1.out.size; have z2 := V2.out.size
      have hst : fourTo (k + 1) = ((signF (fourTo k).1 e.author tx).1, (fourTo k).2 ++ [sg]) := by
        rw [HSU.out]
        unfold fourStep
        rw [HTXE.out, HSG.out]
      have hsep : ∀ g, Value.ownBlock u4 = some g → ¬ O2 g := fun g hg q => by
        rcases Q2.out g q with q | q
        · exact S3.out g hg q
        · have := (row_lt SG0.out g hg).2; omega
      refine ⟨k + 1, by omega, rfl, by go_num, ⟨O2, ?_, fun j hj => ?_, fun g hg q => ?_⟩, ?_, Y4.out⟩
      · rw [hst]
        exact R2.out.upd U4.out fun j hj e => hsep j e hj
      · rcases Q2.out j hj with q | q
        · exact S2.out j q
        · exact .inr (by omega)
      · rcases N4.out with e | ⟨g', e, h'⟩
        · exact hsep g (by rw [← e]; exact hg) q
        · rw [e] at hg; cases hg
          have := (R2.out.lt g q).2
          omega
      · rw [hst]
        unfold SgsAt
        rw [sgFlat_snoc, List.length_append]
        exact O4.out
end Go.Proofs.YtalhmpggpjbeaaaGreatDoor
namespace Go.Proofs.YtalhmpggpjbeaaaGreatDoor
open Go.RowKit Go.Deep

theorem sg_ext_iff (a b : Sg) : a = b ↔ a.key = b.key ∧ a.text = b.text ∧ a.mark = b.mark := by
  cases a; cases b; simp
theorem neq_sg (a b : Sg) (w : World) : (binOp .neq 36 (.agg #[.int .i64 a.key, .string ⟨a.text.toArray⟩, .int .i64 a.mark]) (.agg #[.int .i64 b.key, .string ⟨b.text.toArray⟩, .int .i64 b.mark])).run Tryz.prog w = .ok (.bool (decide (¬ a = b))) w := by
  rw [run_neq_struct, run_equalIn_agg w 9999 36 _ _ (by kernel_rfl) (by kernel_rfl)]
  simp only [Program.fieldsOf, Tryz.underlying36]
  go_simp
  simp only [sg_ext_iff]
  by_cases h1 : a.key = b.key <;> by_cases h2 : a.text = b.text <;> by_cases h3 : a.mark = b.mark <;> simp [h1, h2, h3]
theorem neq_sg_yes {a b : Sg} (h : ¬ a = b) (w : World) : (binOp .neq 36 (.agg #[.int .i64 a.key, .string ⟨a.text.toArray⟩, .int .i64 a.mark]) (.agg #[.int .i64 b.key, .string ⟨b.text.toArray⟩, .int .i64 b.mark])).run Tryz.prog w = .ok (.bool true) w := by rw [neq_sg, decide_eq_true h]
theorem neq_sg_no {a b : Sg} (h : a = b) (w : World) : (binOp .neq 36 (.agg #[.int .i64 a.key, .string ⟨a.text.toArray⟩, .int .i64 a.mark]) (.agg #[.int .i64 b.key, .string ⟨b.text.toArray⟩, .int .i64 b.mark])).run Tryz.prog w = .ok (.bool false) w := by rw [neq_sg, decide_eq_false fun q => q h]
theorem sgAt_eq (h : Hs) (s : Sg) : sgAt h s = ((signedM h s.mark).2 && decide ((signedM h s.mark).1 = s)) := by
  unfold sgAt signedM
  cases idxF h s.mark with
  | none => rfl
  | some i =>
    rw [Option.bind_some]
    dsimp only
    have key : ∀ y : Option Nd, (Option.map Nd.sg y == some s) = ((match y with | some n => (n.sg, true) | none => (SgNone, false)).2 && decide ((match y with | some n => (n.sg, true) | none => (SgNone, false)).1 = s)) := by
      intro y
      cases y with
      | none => rfl
      | some n =>
        rw [Option.map_some]
        dsimp only
        rw [Bool.true_and]
        by_cases q : n.sg = s
        · simp [q]
        · simp [q]
    exact key _
set_option maxRecDepth 100000 in
set_option maxHeartbeats 8000000 in
theorem fconvict_any {O Or : Nat → Prop} {b r : Nat} {hs : Hs} {R : Rg} {w : World} (h : HPre w O Or b r hs R) (a c : Sg) (sa : SgSmall a) (sc : SgSmall c) : Calls Tryz.prog 67 #[.pointer (some ⟨r, 0, none⟩), .agg #[.int .i64 a.key, .string ⟨a.text.toArray⟩, .int .i64 a.mark], .agg #[.int .i64 c.key, .string ⟨c.text.toArray⟩, .int .i64 c.mark], .pointer (some ⟨b, 0, none⟩)] w fun e w' => e = .returned (.int .i64 (convictF R hs a c)) ∧ Upd (fun _ => False) w w' := by
  obtain ⟨W1, hW1⟩ : ∃ W1, W1 = w.alloc (.cells #[.int .i64 a.key, .string ⟨a.text.toArray⟩, .int .i64 a.mark] 36 (0, 0)) := ⟨_, rfl⟩
  obtain ⟨W2, hW2⟩ : ∃ W2, W2 = W1.alloc (.cells #[.int .i64 c.key, .string ⟨c.text.toArray⟩, .int .i64 c.mark] 36 (0, 0)) := ⟨_, rfl⟩
  have hs1 : W1.heap.size = w.heap.size + 1 := by rw [hW1]; simp
  have u2 : Upd (fun _ => False) w W2 := by rw [hW2, hW1]; exact ((Upd.refl _ _).alloc _).alloc _
  have BA := hid (show W2.heap[w.heap.size]? = some (.cells #[.int .i64 a.key, .string ⟨a.text.toArray⟩, .int .i64 a.mark] 36 (0, 0)) by rw [hW2, heap_alloc_old (by omega), hW1]; exact heap_alloc_new)
  have BC := hid (show W2.heap[w.heap.size + 1]? = some (.cells #[.int .i64 c.key, .string ⟨c.text.toArray⟩, .int .i64 c.mark] 36 (0, 0)) by rw [hW2, ← hs1]; exact heap_alloc_new)
  have HP := hid (h.keep u2); have U := hid u2
  have HW := hid (show W2 = (w.alloc (.cells #[.int .i64 a.key, .string ⟨a.text.toArray⟩, .int .i64 a.mark] 36 (0, 0))).alloc (.cells #[.int .i64 c.key, .string ⟨c.text.toArray⟩, .int .i64 c.mark] 36 (0, 0)) by rw [hW2, hW1])
  have AK := hid (show (Lit.int .i64 a.key).wf = true from iwf (by have := sa.key; omega))
  have CK := hid (show (Lit.int .i64 c.key).wf = true from iwf (by have := sc.key; omega))
  have AM := hid (show (Lit.int .i64 a.mark).wf = true from iwf (by have := sa.mark; omega))
  have CM := hid (show (Lit.int .i64 c.mark).wf = true from iwf (by have := sc.mark; omega))
  have AT := hid (show a.text.length ≤ 1000000 from Nat.le_trans sa.text (by decide))
  have CT := hid (show c.text.length ≤ 1000000 from Nat.le_trans sc.text (by decide))
  have CON := hid (convict_eq R hs a c)
  have CELLA := hid (fun (y : World) (u : Upd (fun _ => False) W2 y) => (show y.cell? ⟨w.heap.size, 0, none⟩ = some (.int .i64 a.key) ∧ y.cell? ⟨w.heap.size, 1, none⟩ = some (.string ⟨a.text.toArray⟩) ∧ y.cell? ⟨w.heap.size, 2, none⟩ = some (.int .i64 a.mark) from by
    obtain ⟨k0, k1, k2, _⟩ := cells3 ((u.block _ (heap_lt BA.out) id).trans BA.out)
    exact ⟨k0, k1, k2⟩))
  have CELLC := hid (fun (y : World) (u : Upd (fun _ => False) W2 y) => (show y.cell? ⟨w.heap.size + 1, 0, none⟩ = some (.int .i64 c.key) ∧ y.cell? ⟨w.heap.size + 1, 1, none⟩ = some (.string ⟨c.text.toArray⟩) ∧ y.cell? ⟨w.heap.size + 1, 2, none⟩ = some (.int .i64 c.mark) from by
    obtain ⟨k0, k1, k2, _⟩ := cells3 ((u.block _ (heap_lt BC.out) id).trans BC.out)
    exact ⟨k0, k1, k2⟩))
  clear hW1 hW2 hs1 u2 h sa sc BA BC
  go_enter Tryz.func67, Tryz.ntmps67
  go_upto_region 1 with (fail)
  try rw [← HW.out]
  clear HW
  obtain ⟨k0, k1, k2⟩ := CELLA.out W2 (Upd.refl _ _)
  go_wp2_with fail
  refine (valid_ring HP.out.gnd.ring a AK.out AT.out).mono ?_
  rintro en y1 ⟨rfl, u⟩
  have U1 := hid u
  clear u k0 k1 k2
  by_cases hva : ValidP R a
  case neg =>
    have HR := hid (show convictF R hs a c = 17 by rw [CON.out, if_pos (decide_eq_false hva)])
    rw [decide_eq_false hva]
    go_wp2_with fail
    go_ret
    exact ⟨by rw [HR.out] <;> rfl, U.out.trans U1.out⟩
  have HVA := hid hva
  rw [decide_eq_true hva]
  clear hva
  obtain ⟨k0, k1, k2⟩ := CELLC.out y1 U1.out
  go_wp2_with fail
  refine (valid_ring (HP.out.keep U1.out).gnd.ring c CK.out CT.out).mono ?_
  rintro en y2 ⟨rfl, u⟩
  have U2 := hid (U1.out.trans u)
  clear u k0 k1 k2
  by_cases hvc : ValidP R c
  case neg =>
    have HR := hid (show convictF R hs a c = 17 by rw [CON.out, if_neg (by rw [decide_eq_true HVA.out]; decide), if_pos (decide_eq_false hvc)])
    rw [decide_eq_false hvc]
    go_wp2_with fail
    go_ret
    exact ⟨by rw [HR.out] <;> rfl, U.out.trans U2.out⟩
  have HVC := hid hvc
  rw [decide_eq_true hvc]
  clear hvc
  have CON2 := hid (show convictF R hs a c = if a.key ≠ c.key then 18 else if sgAt hs a = false then 19 else if sgAt hs c = false then 19 else if forkB hs a.mark c.mark = false then 21 else 0 by
    rw [CON.out, if_neg (by rw [decide_eq_true HVA.out]; decide), if_neg (by rw [decide_eq_true HVC.out]; decide)])
  clear CON
  obtain ⟨k0, k1, k2⟩ := CELLA.out y2 U2.out
  obtain ⟨l0, l1, l2⟩ := CELLC.out y2 U2.out
  by_cases hke : a.key = c.key
  case neg =>
    have t1 : (a.key != c.key) = true := bne_iff_ne.2 hke
    have HR := hid (show convictF R hs a c = 18 by rw [CON2.out, if_pos hke])
    clear hke
    go_wp2_with fail
    go_ret
    exact ⟨by rw [HR.out] <;> rfl, U.out.trans U2.out⟩
  have t1 : (a.key != c.key) = false := by simp [hke]
  have CON3 := hid (show convictF R hs a c = if sgAt hs a = false then 19 else if sgAt hs c = false then 19 else if forkB hs a.mark c.mark = false then 21 else 0 by
    rw [CON2.out, if_neg (fun q => q hke)])
  clear CON2 hke
  obtain ⟨y3, hy3⟩ : ∃ y3, y3 = y2.alloc (.cells #[.int .i64 a.key, .string ⟨a.text.toArray⟩, .int .i64 a.mark, .int .i64 c.key, .string ⟨c.text.toArray⟩, .int .i64 c.mark] 36 (0, 0)) := ⟨_, rfl⟩
  have U3 := hid (show Upd (fun _ => False) W2 y3 by rw [hy3]; exact U2.out.alloc _)
  obtain ⟨lb, hlb⟩ : ∃ lb, y2.heap.size = lb := ⟨_, rfl⟩
  have LB := hid (show y3.heap[lb]? = some (.cells #[.int .i64 a.key, .string ⟨a.text.toArray⟩, .int .i64 a.mark, .int .i64 c.key, .string ⟨c.text.toArray⟩, .int .i64 c.mark] 36 (0, 0)) by rw [hy3, ← hlb]; exact heap_alloc_new)
  have LCELL := hid (fun (y : World) (u : Upd (fun _ => False) y3 y) => (show (y.cell? ⟨lb, 0, none⟩ = some (.int .i64 a.key) ∧ y.cell? ⟨lb, 1, none⟩ = some (.string ⟨a.text.toArray⟩) ∧ y.cell? ⟨lb, 2, none⟩ = some (.int .i64 a.mark)) ∧ y.cell? ⟨lb, 3, none⟩ = some (.int .i64 c.key) ∧ y.cell? ⟨lb, 4, none⟩ = some (.string ⟨c.text.toArray⟩) ∧ y.cell? ⟨lb, 5, none⟩ = some (.int .i64 c.mark) from by
    have hb := (u.block _ (heap_lt LB.out) id).trans LB.out
    exact ⟨⟨by rw [cell_of_block hb]; rfl, by rw [cell_of_block hb]; rfl, by rw [cell_of_block hb]; rfl⟩, by rw [cell_of_block hb]; rfl, by rw [cell_of_block hb]; rfl, by rw [cell_of_block hb]; rfl⟩))
  have HY3 := hid hy3; have HLB := hid hlb
  clear hy3 hlb LB
  go_upto_region 8 with (fail)
  try rw [← HY3.out]
  try rw [HLB.out]
  clear k0 k1 k2 l0 l1 l2 HY3 HLB t1
  go_loopg [41] 2 (fun gg s41 wr => ∃ k : Nat, k ≤ 2 ∧ gg = 2 - k ∧ s41 = .int .i64 k ∧ (0 < k → sgAt hs a = true) ∧ (1 < k → sgAt hs c = true) ∧ Upd (fun _ => False) y3 wr)
  case atStart => exact ⟨0, Nat.zero_le _, rfl, rfl, fun q => absurd q (Nat.lt_irrefl 0), fun q => absurd q (by decide), Upd.refl _ _⟩
  case round =>
    obtain ⟨k, hk, hg, rfl, ha, hc, hu⟩ := hrel
    have UP := hid hu; have HA := hid ha; have HC := hid hc; have HG := hid hg
    clear ha hc hu hg
    have hk3 : k = 0 ∨ k = 1 ∨ k = 2 := by omega
    rcases hk3 with rfl | rfl | rfl
    · have LC := LCELL.out _ UP.out
      obtain ⟨m0, m1, m2⟩ := LC.1
      clear LC
      obtain ⟨z1, hz1⟩ : ∃ z1, z1 = wr.alloc (.cells #[.int .i64 a.key, .string ⟨a.text.toArray⟩, .int .i64 a.mark] 36 (0, 0)) := ⟨_, rfl⟩
      have UZ1 := hid (show Upd (fun _ => False) wr z1 by rw [hz1]; exact (Upd.refl _ _).alloc _)
      have ZB := hid (show z1.heap[wr.heap.size]? = some (.cells #[.int .i64 a.key, .string ⟨a.text.toArray⟩, .int .i64 a.mark] 36 (0, 0)) by rw [hz1]; exact heap_alloc_new)
      have HZ1 := hid hz1
      clear hz1
      obtain ⟨zb, hzb⟩ : ∃ zb, wr.heap.size = zb := ⟨_, rfl⟩
      rw [hzb] at ZB
      have HZB := hid hzb
      clear hzb
      go_upto_region 10 with (fail)
      try rw [← HZ1.out]
      try rw [HZB.out]
      clear HZ1 HZB m0 m1 m2
      obtain ⟨n0, n1, n2, _⟩ := cells3 ZB.out
      go_wp2_with fail
      refine (hsigned_any (((HP.out.keep U3.out).keep UP.out).keep UZ1.out).his a.mark AM.out).mono ?_
      rintro en z2 ⟨rfl, u⟩
      have SA := hid (sgAt_eq hs a)
      obtain ⟨⟨x, ok⟩, hx⟩ : ∃ x, signedM hs a.mark = x := ⟨_, rfl⟩
      rw [hx] at SA ⊢
      dsimp only at SA ⊢
      unfold sgV
      have UZ2 := hid u
      clear u hx n0 n1 n2
      obtain ⟨z3, hz3⟩ : ∃ z3, z3 = z2.alloc (.cells #[.int .i64 x.key, .string ⟨x.text.toArray⟩, .int .i64 x.mark] 36 (0, 0)) := ⟨_, rfl⟩
      have UZ3 := hid (show Upd (fun _ => False) z1 z3 by rw [hz3]; exact UZ2.out.alloc _)
      have ZX := hid (show z3.heap[z2.heap.size]? = some (.cells #[.int .i64 x.key, .string ⟨x.text.toArray⟩, .int .i64 x.mark] 36 (0, 0)) by rw [hz3]; exact heap_alloc_new)
      have HZ3 := hid hz3
      clear hz3
      go_upto_region 11 with (fail)
      try rw [← HZ3.out]
      clear HZ3
      obtain ⟨n0, n1, n2, _⟩ := cells3 ((UZ3.out.block _ (heap_lt ZB.out) id).trans ZB.out)
      obtain ⟨x0, x1, x2, _⟩ := cells3 ZX.out
      have UF := hid (U.out.trans (U3.out.trans (UP.out.trans (UZ1.out.trans UZ3.out))))
      cases ok with
      | false =>
        have HR := hid (show convictF R hs a c = 19 by rw [CON3.out, if_pos (by rw [SA.out]; rfl)])
        go_wp2_with fail
        go_ret
        exact ⟨by rw [HR.out] <;> rfl, UF.out⟩
      | true =>
        by_cases hxs : x = a
        case neg =>
          have q := neq_sg_yes hxs
          have HR := hid (show convictF R hs a c = 19 by rw [CON3.out, if_pos (by rw [SA.out, decide_eq_false hxs]; rfl)])
          clear hxs
          go_wp2_with fail
          go_ret
          exact ⟨by rw [HR.out] <;> rfl, UF.out⟩
        have q := neq_sg_no hxs
        have HS := hid (show sgAt hs a = true by rw [SA.out, decide_eq_true hxs]; rfl)
        clear hxs
        go_wp2_with fail
        go_roundg (2 - (0 + 1))
        case measure => have := HG.out; omega
        case rel => exact ⟨0 + 1, by decide, rfl, by go_num, fun _ => HS.out, fun q => absurd q (by decide), UP.out.trans (UZ1.out.trans UZ3.out)⟩
    · have LC := LCELL.out _ UP.out
      obtain ⟨m0, m1, m2⟩ := LC.2
      clear LC
      obtain ⟨z1, hz1⟩ : ∃ z1, z1 = wr.alloc (.cells #[.int .i64 c.key, .string ⟨c.text.toArray⟩, .int .i64 c.mark] 36 (0, 0)) := ⟨_, rfl⟩
      have UZ1 := hid (show Upd (fun _ => False) wr z1 by rw [hz1]; exact (Upd.refl _ _).alloc _)
      have ZB := hid (show z1.heap[wr.heap.size]? = some (.cells #[.int .i64 c.key, .string ⟨c.text.toArray⟩, .int .i64 c.mark] 36 (0, 0)) by rw [hz1]; exact heap_alloc_new)
      have HZ1 := hid hz1
      clear hz1
      obtain ⟨zb, hzb⟩ : ∃ zb, wr.heap.size = zb := ⟨_, rfl⟩
      rw [hzb] at ZB
      have HZB := hid hzb
      clear hzb
      go_upto_region 10 with (fail)
      try rw [← HZ1.out]
      try rw [HZB.out]
      clear HZ1 HZB m0 m1 m2
      obtain ⟨n0, n1, n2, _⟩ := cells3 ZB.out
      go_wp2_with fail
      refine (hsigned_any (((HP.out.keep U3.out).keep UP.out).keep UZ1.out).his c.mark CM.out).mono ?_
      rintro en z2 ⟨rfl, u⟩
      have SA := hid (sgAt_eq hs c)
      obtain ⟨⟨x, ok⟩, hx⟩ : ∃ x, signedM hs c.mark = x := ⟨_, rfl⟩
      rw [hx] at SA ⊢
      dsimp only at SA ⊢
      unfold sgV
      have UZ2 := hid u
      clear u hx n0 n1 n2
      obtain ⟨z3, hz3⟩ : ∃ z3, z3 = z2.alloc (.cells #[.int .i64 x.key, .string ⟨x.text.toArray⟩, .int .i64 x.mark] 36 (0, 0)) := ⟨_, rfl⟩
      have UZ3 := hid (show Upd (fun _ => False) z1 z3 by rw [hz3]; exact UZ2.out.alloc _)
      have ZX := hid (show z3.heap[z2.heap.size]? = some (.cells #[.int .i64 x.key, .string ⟨x.text.toArray⟩, .int .i64 x.mark] 36 (0, 0)) by rw [hz3]; exact heap_alloc_new)
      have HZ3 := hid hz3
      clear hz3
      go_upto_region 11 with (fail)
      try rw [← HZ3.out]
      clear HZ3
      obtain ⟨n0, n1, n2, _⟩ := cells3 ((UZ3.out.block _ (heap_lt ZB.out) id).trans ZB.out)
      obtain ⟨x0, x1, x2, _⟩ := cells3 ZX.out
      have UF := hid (U.out.trans (U3.out.trans (UP.out.trans (UZ1.out.trans UZ3.out))))
      cases ok with
      | false =>
        have HR := hid (show convictF R hs a c = 19 by rw [CON3.out, if_neg (by rw [HA.out (by decide)]; decide), if_pos (by rw [SA.out]; rfl)])
        go_wp2_with fail
        go_ret
        exact ⟨by rw [HR.out] <;> rfl, UF.out⟩
      | true =>
        by_cases hxs : x = c
        case neg =>
          have q := neq_sg_yes hxs
          have HR := hid (show convictF R hs a c = 19 by rw [CON3.out, if_neg (by rw [HA.out (by decide)]; decide), if_pos (by rw [SA.out, decide_eq_false hxs]; rfl)])
          clear hxs
          go_wp2_with fail
          go_ret
          exact ⟨by rw [HR.out] <;> rfl, UF.out⟩
        have q := neq_sg_no hxs
        have HS := hid (show sgAt hs c = true by rw [SA.out, decide_eq_true hxs]; rfl)
        clear hxs
        go_wp2_with fail
        go_roundg (2 - (1 + 1))
        case measure => have := HG.out; omega
        case rel => exact ⟨1 + 1, by decide, rfl, by go_num, fun _ => HA.out (by decide), fun _ => HS.out, UP.out.trans (UZ1.out.trans UZ3.out)⟩
    · obtain ⟨k0, k1, k2⟩ := CELLA.out _ (U3.out.trans UP.out)
      obtain ⟨l0, l1, l2⟩ := CELLC.out _ (U3.out.trans UP.out)
      have CON4 := hid (show convictF R hs a c = if forkB hs a.mark c.mark = false then 21 else 0 by rw [CON3.out, if_neg (by rw [HA.out (by decide)]; decide), if_neg (by rw [HC.out (by decide)]; decide)])
      have UF := hid (U.out.trans (U3.out.trans UP.out))
      go_wp2_with fail
      refine (ffork_any ((HP.out.keep U3.out).keep UP.out).his a.mark c.mark AM.out CM.out).mono ?_
      rintro en z1 ⟨rfl, rfl⟩
      obtain ⟨fb, hfb⟩ : ∃ fb, forkB hs a.mark c.mark = fb := ⟨_, rfl⟩
      rw [hfb] at CON4 ⊢
      clear hfb
      cases fb with
      | false =>
        go_wp2_with fail
        go_ret
        exact ⟨by rw [CON4.out] <;> first | rfl | simp, UF.out⟩
      | true =>
        go_wp2_with fail
        go_ret
        exact ⟨by rw [CON4.out] <;> first | rfl | simp, UF.out⟩
end Go.Proofs.YtalhmpggpjbeaaaGreatDoor
