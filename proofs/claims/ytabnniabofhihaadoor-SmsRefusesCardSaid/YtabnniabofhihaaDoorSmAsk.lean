/- sms.Ask returns the request for the parts that are missing. -/
import Derived.Test.YtabnniabofhihaaDoorSmReq
namespace Go.Proofs.YtabnniabofhihaaDoor
open Go.RowKit Go.Deep

/-- An append of some elements, whose cells the statement has just laid in a new block. -/
theorem append_many {P : Program} {t e : TypeId} {size bytes : Nat} (T : ElemTy P t e size bytes) {w : World} {base : Nat} {v : Value} {n : Nat} {xs : List Value} (hown : w.ownsRow base e size v n xs) (m : Nat)
    (cells : Array Value) (hc : cells.size = m * size) (h1 : ∀ u ∈ cells, u.oneCell' = true) (h63 : n + m ≤ maxLen) (hbytes : (n + m) * bytes ≤ 140737488355328) (hbase : base ≤ w.heap.size) (ty : TypeId) (fr : Nat × Nat) :
    ∃ v' w', (Builtin.append_ #[t, t] ty #[v, .slice (some ⟨w.heap.size, 0, none⟩) m m]).run P (w.alloc (.cells cells e fr)) = .ok v' w' ∧ w'.ownsRow base e size v' (n + m) (xs ++ cells.toList) ∧
      Upd (fun k => v.ownBlock = some k) w w' ∧ (v'.ownBlock = v.ownBlock ∨ ∃ g, v'.ownBlock = some g ∧ w.heap.size < g) := by
  obtain ⟨v', w', hr, h2, h3, h4⟩ := append_own2 T (hown.alloc (.cells cells e fr)) ⟨w.heap.size, 0, none⟩ m m cells.toList (by simp [hc]) (fun j u hu => by
    have e1 : Addr.add ⟨w.heap.size, 0, none⟩ j = ⟨w.heap.size, j, none⟩ := by unfold Addr.add; split <;> simp_all
    rw [e1, cell_of_block heap_alloc_new]
    simpa using hu) (by simpa using h1) h63 hbytes (by simp; omega) ty
  refine ⟨v', w', hr, h2, ((Upd.refl _ w).alloc _).grown h3 (fun k hk => .inl hk), ?_⟩
  rcases h4 with h4 | ⟨g, hg, hs⟩
  · exact .inl h4
  · exact .inr ⟨g, hg, by simp at hs; omega⟩
def AskPost (bx : Bx) (n : Int) (w : World) (e : Ending) (w' : World) : Prop :=
  e = .returned (.tuple #[.string ⟨(askF bx n).1.toArray⟩, .int .i64 (askF bx n).2]) ∧ Upd (fun _ => False) w w'
theorem runTo_drop : ∀ (l : List Int) (i : Nat) (h : i < l.length), (∀ h2 : i + 1 < l.length, l[i + 1] ≠ l[i] + 1) → runTo l[i] (l.drop (i + 1)) = (l[i], l.drop (i + 1))
  | l, i, h, hn => by
    by_cases h2 : i + 1 < l.length
    · rw [List.drop_eq_getElem_cons h2, runTo, if_neg (hn h2)]
    · rw [List.drop_eq_nil_of_le (by omega), runTo]
theorem runTo_step (l : List Int) (i : Nat) (h2 : i + 1 < l.length) (he : l[i + 1] = l[i]'(by omega) + 1) : runTo (l[i]'(by omega)) (l.drop (i + 1)) = runTo l[i + 1] (l.drop (i + 2)) := by
  rw [List.drop_eq_getElem_cons h2, runTo, if_pos he]
theorem numsE_len (l : List Int) (h : ∀ x ∈ l, I64 x) (hl : l.length ≤ 10000) : (listE intE l).length ≤ 1000000 := by
  have h1 : ∀ (l : List Int), (∀ x ∈ l, I64 x) → ((l.map intE).flatten).length ≤ 21 * l.length := by
    intro l
    induction l with
    | nil => intro _; simp
    | cons a r ih =>
      intro h
      rw [List.map_cons, List.flatten_cons, List.length_append, List.length_cons]
      have h2 := ih fun x hx => h x (List.mem_cons_of_mem _ hx)
      have h3 : (intE a).length ≤ 21 := by unfold intE; rw [List.length_append]; have := itoa_len (h a List.mem_cons_self); simp; omega
      omega
  have h2 := h1 l h
  unfold listE
  have h3 := itoa_len (n := (l.length : Int)) (by unfold I64; omega)
  simp only [List.length_append, List.length_cons, List.length_nil]
  omega
set_option maxRecDepth 100000 in
set_option maxHeartbeats 4000000 in
theorem ask_any (b : Nat) (O : Nat → Prop) (bx : Bx) (n : Int) (w : World) (E : Env w) (h : IsBox w O b bx) (hn : I64 n) (hz : 6 ≤ w.heap.size) :
    Calls Tryd.prog 15 #[.pointer (some ⟨b, 0, none⟩), .int .i64 n] w (AskPost bx n w) := by
  have HE := hid E; have HB := hid h; have HN := hid hn; have HZ := hid hz
  have hml : ∀ x ∈ (missF bx n).1, 0 ≤ x ∧ x < 2500 := by
    intro x hx
    unfold missF at hx
    cases hL : bx.lookup n with
    | none => rw [hL] at hx; exact nomatch hx
    | some m =>
      rw [hL] at hx
      have := missTo_mem (k := m.count) hx
      have := (ms_of h.ok hL).few
      omega
  have hmn : (missF bx n).1.length ≤ 2500 := by
    unfold missF
    cases hL : bx.lookup n with
    | none => simp
    | some m =>
      have h1 := missTo_len m m.count
      have := (ms_of h.ok hL).few
      exact Nat.le_trans h1 this
  have hask : askF bx n = if (missF bx n).2 ≠ 0 then ([], (missF bx n).2) else if (missF bx n).1 = [] then ([], 7) else (askL n [] [] (missF bx n).1, 0) := rfl
  have hwf : (Lit.int .i64 n).wf = true := iwf hn
  obtain ⟨mf, hmf⟩ : ∃ x, missF bx n = x := ⟨_, rfl⟩
  rw [hmf] at hml hmn hask
  obtain ⟨ms, me⟩ := mf
  dsimp only at hml hmn hask
  have HMF := hid hmf; have HML := hid hml; have HMN := hid hmn; have HASK := hid hask
  clear E h hn hz hml hask hmf
  go_enter Tryd.func15, Tryd.ntmps15
  go_wp2_with fail
  refine (missing_any b O bx n w HB.out hwf).mono ?_
  rintro e w1 ⟨v, rfl, hrep, u⟩
  rw [HMF.out] at hrep ⊢
  dsimp only at hrep ⊢
  obtain ⟨va, vc, rfl, hp1, hp2, _⟩ := slice_open hrep
  have hp2 : vc ≤ 9223372036854775807 := hp2
  have REP := hid hrep; have U1 := hid u
  clear hrep u
  by_cases he : me = 0
  case neg =>
    have HF := hid (show askF bx n = ([], me) by rw [HASK.out, if_pos he])
    have heb : (me == 0) = false := beq_eq_false_iff_ne.2 he
    go_wp2_with fail
    go_ret2
    exact ⟨by rw [HF.out]; rfl, U1.out⟩
  subst he
  by_cases hm : ms = []
  · have HF := hid (show askF bx n = ([], 7) by rw [HASK.out, if_neg (by decide), if_pos hm])
    have hmz : ((ms.length : Int) == 0) = true := by rw [hm]; rfl
    have hmz2 : (ms.length == 0) = true := by rw [hm]; rfl
    clear hm
    go_wp2_with fail
    go_ret2
    exact ⟨by rw [HF.out]; rfl, U1.out⟩
  have HF := hid (show askF bx n = (askL n [] [] ms, 0) by rw [HASK.out, if_neg (by decide), if_neg hm])
  have hmp : 0 < ms.length := List.length_pos_iff.2 hm
  have hmz : ((ms.length : Int) == 0) = false := beq_eq_false_iff_ne.2 (by omega)
  have hmz2 : (ms.length == 0) = false := beq_eq_false_iff_ne.2 (by omega)
  obtain ⟨mb, mo, ra, hmb, hel⟩ := slice_at REP.out (by omega)
  subst ra
  have HEL := hid hel
  clear hm hel
  go_wp2_with fail
  go_loopg [8, 9, 10] ms.length (fun gg s8 s9 s10 wr => ∃ (i : Nat) (l : List Int) (out : Bs), i ≤ ms.length ∧ gg = ms.length - i ∧ s10 = .int .i64 i ∧ s8 = .string ⟨out.toArray⟩ ∧ wr.ownsRow w1.heap.size 3 1 s9 l.length (l.map fun x => .int .i64 x) ∧ l.length ≤ 2 * i ∧ (∀ x ∈ l, I64 x) ∧ askL n l out (ms.drop i) = askL n [] [] ms ∧ Upd (fun _ => False) w1 wr)
  case atStart => exact ⟨0, [], [], Nat.zero_le _, rfl, rfl, rfl, World.ownsRow_nil _ _ _ _, Nat.zero_le _, (fun x hx => nomatch hx), rfl, Upd.refl _ _⟩
  case round =>
    obtain ⟨i, l, out, hi, hg, rfl, rfl, hown, hll, hlw, htot, u⟩ := hrel
    have HG := hid hg; have OWN := hid hown; have HLL := hid hll; have HLW := hid hlw; have TOT := hid htot; have U := hid u
    clear hg hown hll hlw htot u
    by_cases hlt : i < ms.length
    · have hlti : (i : Int) < ms.length := by omega
      obtain ⟨wo, rfl⟩ : ∃ wo : World, wo = wr := ⟨_, rfl⟩
      go_wp2_with fail
      go_loopg [11] (ms.length - i) (fun gg s11 wr => ∃ k : Nat, i ≤ k ∧ k < ms.length ∧ gg = ms.length - k ∧ s11 = .int .i64 k ∧ (∀ hk : k < ms.length, runTo (ms[i]'hlt) (ms.drop (i + 1)) = runTo ms[k] (ms.drop (k + 1))) ∧ Upd (fun _ => False) wo wr)
      case atStart => exact ⟨i, Nat.le_refl _, hlt, rfl, rfl, fun _ => rfl, Upd.refl _ _⟩
      case round =>
        obtain ⟨k, hik, hkl, hgk, rfl, hrun, uk⟩ := hrel
        have HGK := hid hgk; have RUN := hid (hrun hkl); have UK := hid uk
        clear hgk hrun uk
        have hkli : (k : Int) < ms.length := by omega
        have u2 := U.out.trans UK.out
        have ck := cell_kept (int_cells HEL.out hkl) (u2.block mb hmb.2 id)
        have xk := HML.out _ (List.getElem_mem hkl)
        by_cases hmore : ∃ h : k + 1 < ms.length, ms[k + 1] = ms[k] + 1
        · obtain ⟨hk1, he⟩ := hmore
          have hk1i : (k : Int) + 1 < ms.length := by omega
          obtain ⟨k1, hkk⟩ : ∃ x, k + 1 = x := ⟨_, rfl⟩
          have hk1b : (k : Int) + 1 = k1 := by omega
          have hk1l : k1 < ms.length := by omega
          have hk1li : (k1 : Int) < ms.length := by omega
          have ck1 := cell_kept (int_cells HEL.out hk1) (u2.block mb hmb.2 id)
          have STEP := hid (RUN.out.trans (runTo_step ms k hk1 he))
          rw [he] at ck1
          rw [hkk] at ck1
          generalize ms[k] = y at *
          have heb : (y + 1 == y + 1) = true := beq_self_eq_true _
          clear he u2
          go_wp2_with fail
          go_quiet (fail)
          go_wp2_with fail
          go_roundg (ms.length - (k + 1))
          case measure => have := HGK.out; omega
          case rel => exact ⟨k + 1, by omega, hk1, rfl, by go_num, fun _ => STEP.out, UK.out.drewN _⟩
        · have hend : runTo (ms[i]'hlt) (ms.drop (i + 1)) = (ms[k], ms.drop (k + 1)) := RUN.out.trans (runTo_drop ms k hkl fun h2 he => hmore ⟨h2, he⟩)
          have hdr : ms.drop i = ms[i] :: ms.drop (i + 1) := List.drop_eq_getElem_cons hlt
          have htot := TOT.out
          rw [hdr, askL, hend] at htot
          dsimp only at htot
          have hlx := HLL.out
          have hn25 := HMN.out
          have ci := cell_kept (int_cells HEL.out hlt) (u2.block mb hmb.2 id)
          have xi := HML.out _ (List.getElem_mem hlt)
          have NOM := hid hmore
          have HMK := hid (show ∀ (h : k + 1 < ms.length), ms[k + 1] ≠ ms[k] + 1 from fun h2 he => hmore ⟨h2, he⟩)
          clear hmore hend hdr
          have TOT2 := hid htot
          clear htot
          go_upto_region 11 with (fail)
          go_cut [47] (fun s wx => s = .bool false ∧ Upd (fun _ => False) wr wx)
          case first =>
            by_cases hk1 : k + 1 < ms.length
            · have hk1i : (k : Int) + 1 < ms.length := by omega
              have hne := HMK.out hk1
              obtain ⟨k1, hkk⟩ : ∃ x, k + 1 = x := ⟨_, rfl⟩
              have hk1b : (k : Int) + 1 = k1 := by omega
              have hk1l : k1 < ms.length := by omega
              have hk1li : (k1 : Int) < ms.length := by omega
              have ck1 := cell_kept (int_cells HEL.out hk1) (u2.block mb hmb.2 id)
              generalize hz1 : ms[k + 1] = z at *
              generalize hy1 : ms[k] = y at *
              rw [hkk] at ck1
              have heb : (z == y + 1) = false := beq_eq_false_iff_ne.2 hne
              clear hz1 hy1 hne
              go_wp2_with fail
              go_quiet (fail)
              all_goals
                go_wp2_with fail
                go_meet
                case rel => exact ⟨rfl, (Upd.refl _ _).drewN _⟩
            · have hk1b : decide ((k : Int) + 1 < ms.length) = false := decide_eq_false (by omega)
              have hk1c : decide (k + 1 < ms.length) = false := decide_eq_false hk1
              go_wp2_with fail
              go_quiet (fail)
              all_goals
                go_wp2_with fail
                go_meet
                case rel => exact ⟨rfl, (Upd.refl _ _).drewN _⟩
          case rest =>
            obtain ⟨rfl, uc⟩ := hcut
            have u3 := u2.trans uc
            have U3 := hid u3
            have UKC := hid ((UK.out).trans uc)
            have ci := cell_kept ci (uc.block mb (Nat.lt_of_lt_of_le hmb.2 u2.size) id)
            have ck := cell_kept ck (uc.block mb (Nat.lt_of_lt_of_le hmb.2 u2.size) id)
            have hmbl := Nat.lt_of_lt_of_le hmb.2 u3.size
            have own3 := ownsRow_upd OWN.out UKC.out fun _ _ => id
            generalize hx1 : ms[i] = x at *
            generalize hy1 : ms[k] = y at *
            have hlx := HLL.out
            have gy : IntKind.i64.wrap (y + 1) = y + 1 := IntWalk.i64_in _ (by omega)
            have gy2 : wrap64 (y + 1) = y + 1 := IntWalk.wrap64_in _ (by omega)
            obtain ⟨v', w4, r4, o4, u4, n4⟩ := append_many elemI own3.drew 2 #[.int .i64 x, .int .i64 (y + 1)] rfl (by simp [Value.oneCell']) (by unfold maxLen; omega) (by omega) (show w1.heap.size ≤ wc.drew.heap.size from u3.size) 41 (0, 0)
            have r5 : (Builtin.append_ #[41, 41] 41 #[u9, .slice (some ⟨wc.heap.size, 0, none⟩) 2 2]).run Tryd.prog ((wc.alloc (.cells #[.int .i64 x, .int .i64 (y + 1)] 3 (0, 0))).drew) = .ok v' w4 := r4
            have ua := ((Upd.refl (fun _ => False) wc).alloc (.cells #[.int .i64 x, .int .i64 (y + 1)] 3 (0, 0))).drew
            have hgw : w4.heap[mb]? = wc.heap[mb]? := u4.block mb hmbl (fun e => by have := (OWN.out.lt mb e).1; have := hmb.2; omega)
            have K1 : wc.cell? ⟨mb, mo + i, none⟩ = some (.int .i64 x) ∧ wc.cell? ⟨mb, mo + k, none⟩ = some (.int .i64 y) := ⟨ci, ck⟩
            have K2 : wc.drew.cell? ⟨mb, mo + i, none⟩ = some (.int .i64 x) ∧ wc.drew.cell? ⟨mb, mo + k, none⟩ = some (.int .i64 y) := ⟨ci, ck⟩
            have K3 : ((wc.alloc (.cells #[.int .i64 x, .int .i64 (y + 1)] 3 (0, 0))).drew).cell? ⟨mb, mo + i, none⟩ = some (.int .i64 x) ∧ ((wc.alloc (.cells #[.int .i64 x, .int .i64 (y + 1)] 3 (0, 0))).drew).cell? ⟨mb, mo + k, none⟩ = some (.int .i64 y) := ⟨cell_kept ci (ua.block mb hmbl id), cell_kept ck (ua.block mb hmbl id)⟩
            have K4 : w4.cell? ⟨mb, mo + i, none⟩ = some (.int .i64 x) ∧ w4.cell? ⟨mb, mo + k, none⟩ = some (.int .i64 y) := ⟨cell_kept ci hgw, cell_kept ck hgw⟩
            have U4 := hid (u3.drew.comp u4 fun q hq e => by have := (OWN.out.lt q e).1; omega)
            obtain ⟨l', hl'⟩ : ∃ z, l ++ [x, y + 1] = z := ⟨_, rfl⟩
            have O4 := hid (show w4.ownsRow w1.heap.size 3 1 v' l'.length (l'.map fun x => .int .i64 x) by rw [← hl', List.length_append, List.map_append]; exact o4)
            have LW := hid (show ∀ z ∈ l', I64 z from fun z hz => by
              rw [← hl'] at hz
              rcases List.mem_append.1 hz with hz | hz
              · exact HLW.out z hz
              · simp only [List.mem_cons, List.not_mem_nil, or_false] at hz
                unfold I64
                rcases hz with rfl | rfl <;> omega)
            have LL := hid (show l'.length ≤ 2 * (k + 1) by rw [← hl', List.length_append]; simp; omega)
            have ht2 := TOT2.out
            rw [hl'] at ht2
            have SUM := hid (numsE_len l' LW.out (by have := LL.out; omega))
            obtain ⟨pe, hpe⟩ : ∃ z, numE n ++ numsE l' = z := ⟨_, rfl⟩
            rw [hpe] at ht2
            have TOT3 := hid ht2
            have m1 := numE_len HN.out
            have a1 : ∀ w, (Op.stringOp .add ⟨(numE n).toArray⟩ ⟨(numsE l').toArray⟩).run Tryd.prog w = .ok (.string ⟨pe.toArray⟩) w := fun w => by rw [add_lists _ _ (by have := SUM.out; unfold numsE; omega), hpe]
            have hml2 : l'.length ≤ 10000 := by have := LL.out; omega
            clear r4 o4 u4 n4 ht2 hl' hpe m1 u3 u2 uc own3 hgw ua ci ck hlx
            go_wp2_with fail
            go_region_held3 (fun w' => w'.cell? ⟨mb, mo + i, none⟩ = some (.int .i64 x) ∧ w'.cell? ⟨mb, mo + k, none⟩ = some (.int .i64 y)) (first | with_reducible exact K1 | with_reducible exact K2 | with_reducible exact K3 | with_reducible exact K4 | go_keep) ((refine step_append_run rfl _ _ _ _ rfl rfl rfl r5 ?_))
            all_goals
              go_wp2_with fail
              refine (numE_any n HN.out _ (HE.out.keep0 (U1.out.trans U4.out))).mono ?_
              rintro e w5 ⟨rfl, u⟩
              have U5 := hid u; clear u
              go_wp2_with fail
              refine (numsE_any v' l' _ (HE.out.keep0 ((U1.out.trans U4.out).trans U5.out)) (ownsRow_rep1 (K := kInt .i64) rfl (fun x => Value.int .i64 x) (ownsRow_upd O4.out U5.out fun _ _ => id) (fun x hx => intRep x (LW.out x hx)) fun g hg => Nat.lt_of_lt_of_le (O4.out.lt g hg).2 U5.out.size) LW.out (Nat.le_trans SUM.out (by decide))).mono ?_
              rintro e w6 ⟨rfl, u⟩
              have U6 := hid (U5.out.trans u); clear u
              by_cases hbig : 140 < pe.length
              · have hbigi : (140 : Int) < pe.length := by omega
                have hto := TOT3.out
                rw [if_pos hbig] at hto
                have HTO := hid hto
                clear hto
                go_wp2_with fail
                go_ret2
                exact ⟨by rw [HF.out, ← HTO.out]; rfl, U1.out.trans (U4.out.trans U6.out)⟩
              · have hbigb : decide (140 < pe.length) = false := decide_eq_false hbig
                have hbigc : decide ((140 : Int) < pe.length) = false := decide_eq_false (by omega)
                have hto := TOT3.out
                rw [if_neg hbig] at hto
                have HTO := hid hto
                clear hto
                go_wp2_with fail
                go_roundg (ms.length - (k + 1))
                case measure => have := HG.out; omega
                case rel => exact ⟨k + 1, l', pe, by omega, rfl, by go_num, rfl, ownsRow_upd O4.out U6.out fun _ _ => id, LL.out, LW.out, HTO.out, U4.out.trans U6.out⟩
    · obtain rfl : i = ms.length := by omega
      have ht := TOT.out
      rw [List.drop_length, askL] at ht
      have HT := hid ht
      clear ht
      go_wp2_with fail
      go_ret2
      exact ⟨by rw [HF.out, ← HT.out]; rfl, U1.out.trans U.out⟩
end Go.Proofs.YtabnniabofhihaaDoor
