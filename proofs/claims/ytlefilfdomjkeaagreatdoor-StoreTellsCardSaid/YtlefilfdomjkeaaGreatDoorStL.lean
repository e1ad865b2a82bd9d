/- Walk: a store is opened on a flash. -/
import Derived.Test.YtlefilfdomjkeaaGreatDoorStK
import Derived.Test.YtlefilfdomjkeaaGreatDoorStOrd
namespace Go.Proofs.YtlefilfdomjkeaaGreatDoor
open Go.RowKit Go.Deep
def OpenPost (p q : Nat) (F : Fl) (w : World) (e : Ending) (w' : World) : Prop :=
  ∃ x O vr va, e = .returned (.tuple #[.pointer (some ⟨x, 0, none⟩), .int .i64 0]) ∧ StoreAt w' O x p q F (openP F) vr va ∧ Sto (fun k => k = p ∨ k = q) w w' ∧ ∀ k, O k → k = p ∨ k = q ∨ w.heap.size ≤ k
theorem sopen_nil (w : World) : Calls Tryz.prog 9 #[.pointer none] w fun e w' => e = .returned (.tuple #[.pointer none, .int .i64 1]) ∧ w = w' := by
  go_enter Tryz.func9, Tryz.ntmps9
  go_wp2_with fail
  go_ret2
  exact ⟨rfl, rfl⟩
theorem sopen_few {w : World} {p q : Nat} {F : Fl} (h : FlashAt w p q F) (hb : F.nb < 2) : Calls Tryz.prog 9 #[.pointer (some ⟨p, 0, none⟩)] w fun e w' => e = .returned (.tuple #[.pointer none, .int .i64 1]) ∧ Upd (fun _ => False) w w' := by
  have hbi : (F.nb : Int) < 2 := by omega
  have H := hid h
  clear h hb
  go_enter Tryz.func9, Tryz.ntmps9
  go_wp2_with fail
  refine (size_any p q _ F H.out).mono ?_
  rintro e w2 ⟨rfl, u2⟩
  have U2 := hid u2
  clear u2
  go_wp2_with fail
  go_ret2
  exact ⟨rfl, U2.out⟩
theorem sopen_down {w : World} {p q : Nat} {F : Fl} (h : FlashAt w p q F) (hb : 2 ≤ F.nb) (hd : F.down = true) : Calls Tryz.prog 9 #[.pointer (some ⟨p, 0, none⟩)] w fun e w' => e = .returned (.tuple #[.pointer none, .int .i64 8]) ∧ Upd (fun _ => False) w w' := by
  have hbi : ¬ (F.nb : Int) < 2 := by omega
  have H := hid h; have HD := hid hd
  clear h hb hd
  go_enter Tryz.func9, Tryz.ntmps9
  go_wp2_with fail
  refine (size_any p q _ F H.out).mono ?_
  rintro e w2 ⟨rfl, u2⟩
  have U2 := hid u2; have H2 := hid (H.out.upd u2 id id fun _ h => h.elim)
  clear u2
  go_wp2_with fail
  have DC := hid (down_any p q _ F H2.out)
  rw [HD.out] at DC
  refine DC.out.mono ?_
  rintro e w3 ⟨rfl, rfl⟩
  go_wp2_with fail
  go_ret2
  exact ⟨rfl, U2.out⟩
theorem noStr_map {w : World} {b : Nat} {c : Nat} {es} (h : w.heap[b]? = some (.map es c)) : NoStr w b := by
  intro s e; rw [h] at e; cases e
theorem store_first0 {w : World} {x p : Nat} {F : Fl} {S : St} {vr va : Value} {t : TypeId} (h : w.heap[x]? = some (.cells (stC p F S vr va) t (0, 0))) (n : Nat) :
    (w.setCell ⟨x, 3, none⟩ (.int .i64 n)).heap[x]? = some (.cells (stC p F { S with first := n } vr va) t (0, 0)) := store_first h n
set_option maxRecDepth 100000 in
set_option maxHeartbeats 4000000 in
theorem sopen_any {w : World} {p q : Nat} {F : Fl} (h : FlashAt w p q F) (hb : 2 ≤ F.nb) (hd : F.down = false) (hi : PgInv F) (hps : ∀ p ∈ pagesP F, p.pos < 1000000) (E : Env w) (hz : 6 ≤ w.heap.size) :
    Calls Tryz.prog 9 #[.pointer (some ⟨p, 0, none⟩)] w (OpenPost p q F w) := by
  have hbi : ¬ (F.nb : Int) < 2 := by omega
  have hnp := h.ok.np
  have hnb := h.ok.nb
  have hmul : F.nb * F.np ≤ 32 * 16 := Nat.mul_le_mul hnb.2 hnp.2
  obtain ⟨n, hn⟩ : ∃ n, F.nb * F.np = n := ⟨_, rfl⟩
  have e4 : (F.nb : Int) * (F.np : Int) = (n : Int) := by rw [← hn, Int.natCast_mul]
  have hni : (n : Int) ≤ 512 := by omega
  have hn0 : ¬ (n : Int) = 0 := by have := Nat.mul_pos (show 0 < F.nb by omega) (show 0 < F.np by omega); omega
  have hk0 : ¬ (F.np : Int) = 0 := by omega
  have H := hid h; have HD := hid hd; have HI := hid hi; have HPS := hid hps; have HE := hid E; have HZ := hid hz; have HN := hid hn; have HB := hid hb; have HNP := hid hnp
  have PL := hid (show p < w.heap.size ∧ q < w.heap.size from by obtain ⟨cap, h1⟩ := h.head; obtain ⟨cs, h2, _⟩ := h.rows; exact ⟨heap_lt h1, heap_lt h2⟩)
  clear h hb hd hi hps E hz hn hnp hnb hmul
  go_enter Tryz.func9, Tryz.ntmps9
  go_wp2_with fail
  refine (size_any p q _ F H.out).mono ?_
  rintro e w2 ⟨rfl, u2⟩
  have U2 := hid u2; have H2 := hid (H.out.upd u2 id id fun _ h => h.elim)
  clear u2
  go_wp2_with fail
  have DC := hid (down_any p q _ F H2.out)
  rw [HD.out] at DC
  refine DC.out.mono ?_
  rintro e w3 ⟨rfl, rfl⟩
  clear DC
  have hmk : ∀ w, (Instr.makeMap 73 none).run Tryz.prog w = .ok (.map (some w.heap.size)) (w.alloc (.map #[] 0)) := fun w => run_makeMap _ w
  go_upto_region 10 with (fail)
  obtain ⟨x, hx⟩ : ∃ x, w2.heap.size = x := ⟨_, rfl⟩
  obtain ⟨w4, hw4⟩ : ∃ w4, w2.alloc (.cells #[.pointer (some ⟨p, 0, none⟩), .int .i64 F.nb, .int .i64 F.np, .int .i64 0, .int .i64 0, .slice none 0 0, .slice none 0 0] 72 (0, 0)) = w4 := ⟨_, rfl⟩
  have u4 : Upd (fun _ => False) w2 w4 := by rw [← hw4]; exact (Upd.refl _ _).alloc _
  have b4 : w4.heap[w2.heap.size]? = some (.cells (stC p F ⟨0, 0, [], []⟩ (.slice none 0 0) (.slice none 0 0)) 72 (0, 0)) := by rw [← hw4]; exact heap_alloc_new
  have s4 : w4.heap.size = w2.heap.size + 1 := by rw [← hw4]; simp
  obtain ⟨bm, hbm⟩ : ∃ bm, w4.heap.size = bm := ⟨_, rfl⟩
  obtain ⟨w5, hw5⟩ : ∃ w5, w4.alloc (.map #[] 0) = w5 := ⟨_, rfl⟩
  have u5 : Upd (fun _ => False) w4 w5 := by rw [← hw5]; exact (Upd.refl _ _).alloc _
  have b5 : w5.heap[w4.heap.size]? = some (.map #[] 0) := by rw [← hw5]; exact heap_alloc_new
  have m5 : MapIs Tryz.prog 3 w5 w4.heap.size [] := by rw [← hw5]; exact MapIs.made w4
  try rw [hw4]
  try rw [hw5]
  try rw [show w2.heap.size + 1 = bm from s4.symm.trans hbm]
  try rw [hbm]
  try rw [hx]
  rw [hbm] at b5 m5
  rw [hx] at b4
  have B4 := hid ((u5.block x (heap_lt b4) id).trans b4); have B5 := hid b5; have M5 := hid m5
  have U5 := hid ((U2.out.trans u4).trans u5)
  have XB := hid (show w.heap.size ≤ x ∧ x < bm ∧ p < x ∧ q < x ∧ 6 ≤ x from by have := U2.out.size; have := PL.out; have := HZ.out; omega)
  have H5 := hid (H2.out.upd (u4.trans u5) id id fun _ h => h.elim)
  clear hx hw4 u4 b4 s4 hbm hw5 u5 b5 m5 hmk
  go_wp2_with fail
  go_loopg [35] n (fun gg s35 wr => ∃ i : Nat, s35 = .int .i64 i ∧ i ≤ n ∧ gg = n - i ∧ MapIs Tryz.prog 3 wr bm (kvL (valsTo F i)) ∧ Upd (· = bm) w5 wr)
  case atStart => exact ⟨0, rfl, Nat.zero_le _, rfl, M5.out, Upd.refl _ _⟩
  case round =>
    obtain ⟨i, rfl, hin, hg, hm, u⟩ := hrel
    have HG := hid hg; have M := hid hm; have U := hid u
    have HF := hid (H5.out.upd u (fun e => by have := XB.out; omega) (fun e => by have := XB.out; omega) fun k hk => by subst hk; exact noStr_map B5.out)
    have EW := hid ((HE.out.keep0 U5.out).keep u fun k hk => by have := XB.out; omega)
    have SZ := hid (show 6 ≤ wr.heap.size from by have := u.size; have := U5.out.size; have := HZ.out; omega)
    clear hg hm u
    by_cases hlt : i < n
    case pos =>
      have hlti : (i : Int) < n := by omega
      have RA := hid (read_at F HF.out.ok HD.out (show i < F.nb * F.np by rw [HN.out]; exact hlt))
      have e1 := tdiv_nat i F.np
      have e2 := tmod_nat i F.np
      have hd1 : i / F.np ≤ i := Nat.div_le_self _ _
      have hd2 : i % F.np ≤ i := Nat.mod_le _ _
      have hv : ∀ q' : UW wr, Calls Tryz.prog 27 #[.pointer (some ⟨p, 0, none⟩), .int .i64 (i / F.np : Nat), .int .i64 (i % F.np : Nat)] q'.w fun e w' => e = .returned (.tuple #[.string (F.read (i / F.np : Nat) (i % F.np : Nat)).1, .int .i64 (F.read (i / F.np : Nat) (i % F.np : Nat)).2]) ∧ q'.w = w' := fun q' => read_any p q _ _ q'.w F (HF.out.upd q'.u id id fun _ h => h.elim)
      generalize F.read (i / F.np : Nat) (i % F.np : Nat) = rd at *
      have b1 : i / F.np ≤ 1000000000 := by omega
      have b2 : i % F.np ≤ 1000000000 := by omega
      generalize i / F.np = d at *
      generalize i % F.np = g at *
      clear hd1 hd2
      obtain ⟨w1a, w1b⟩ := wrap_nat b1
      obtain ⟨w2a, w2b⟩ := wrap_nat b2
      clear b1 b2
      go_upto_region 13 with (fail)
      refine region_upd (by kernel_rfl) (by kernel_rfl) ?_
      repeat (go_big_quiet_step ((go_at_call 27; with_reducible exact Calls.upd_same (hv _))))
      refine wpQuiet_nil ?_
      intro _ hw1
      refine uw_out hw1 ?_
      intro w6 u6 e6
      obtain rfl := e6.symm
      have HF6 := hid (HF.out.upd u6 id id fun _ h => h.elim); have M6 := hid (M.out.upd u6 id); have U6 := hid (U.out.trans (u6.mono fun _ h => h.elim)); have EW6 := hid (EW.out.keep0 u6)
      have SZ6 := hid (show 6 ≤ w6.heap.size from Nat.le_trans SZ.out u6.size)
      clear hw1 u6 hv w1a w1b w2a w2b e1 e2
      cases hpg : pageAt F i with
      | none =>
        rw [hpg] at RA
        have VT := hid (valsTo_none (F := F) (i := i) (by unfold validAt; rw [hpg]))
        obtain rfl : rd = (ByteArray.empty, 4) := RA.out
        clear hpg RA
        have RC := hid (sread_any ([] : List UInt8) w6 EW6.out SZ6.out (by simp))
        unfold RdPost at RC
        obtain ⟨pg, hpg2⟩ : ∃ pg, rdPg ([] : List UInt8) = pg := ⟨_, rfl⟩
        obtain ⟨b, hb2⟩ : ∃ b, decide (rdOk ([] : List UInt8)) = b := ⟨_, rfl⟩
        rw [hpg2, hb2] at RC
        have RC := hid (show Calls Tryz.prog 34 #[.string ⟨(([] : List UInt8)).toArray⟩] w6 fun e w' => e = .returned (.tuple #[.agg (pgC pg), .bool b]) ∧ Upd (fun _ => False) w6 w' from RC.out)
        have HPG2 := hid hpg2; have HB2 := hid hb2
        clear hpg2 hb2

        go_wp2_with fail
        refine RC.out.mono ?_
        rintro e w7 ⟨rfl, u7⟩
        have M7 := hid (M6.out.upd u7 id); have U7 := hid (U6.out.trans (u7.mono fun _ h => h.elim))
        clear u7 RC
        go_upto_region 15 with (fail)
        obtain ⟨w8, hw8⟩ : ∃ w8, w7.alloc (.cells (pgC pg) 75 (0, 0)) = w8 := ⟨_, rfl⟩
        have u8 : Upd (fun _ => False) w7 w8 := by rw [← hw8]; exact (Upd.refl _ _).alloc _
        have b8 : w8.heap[w7.heap.size]? = some (.cells (pgC pg) 75 (0, 0)) := by rw [← hw8]; exact heap_alloc_new
        obtain ⟨pb, hpb⟩ : ∃ pb, w7.heap.size = pb := ⟨_, rfl⟩
        rw [hw8]
        try rw [hpb]
        rw [hpb] at b8
        have B8 := hid b8; have M8 := hid (M7.out.upd u8 id); have U8 := hid (U7.out.trans (u8.mono fun _ h => h.elim))
        clear hw8 u8 b8 hpb M7 U7
        go_wp2_with fail
        go_roundg (n - (i + 1))
        case measure => have := HG.out; omega
        case rel => exact ⟨i + 1, by go_num, hlt, rfl, by rw [VT.out]; exact M8.out, U8.out⟩
      | some t =>
        rw [hpg] at RA
        obtain rfl : rd = (t, 0) := RA.out
        obtain ⟨pi, hpi1, hpi2, hpi3⟩ := HI.out i (by rw [HN.out]; exact hlt) t hpg
        obtain ⟨s, rfl⟩ : ∃ s : List UInt8, t = ⟨s.toArray⟩ := ⟨t.data.toList, by cases t; rfl⟩
        have hpi2 : s <+: txtP pi := hpi2
        have hsl : s.length ≤ 10000000 := by have h1 := hpi2.length_le; have h2 := txt_len hpi1; omega
        have VAT := hid (show validAt F i = if rdOk s ∧ (rdPg s).pos % (F.nb * F.np) = i then some (rdPg s) else none from by unfold validAt; rw [hpg])
        have HSL := hid hsl
        have GP := hid (show rdOk s → (rdPg s).Good ∧ (rdPg s).pos % (F.nb * F.np) = i from fun hr => by
          have e : s = txtP pi := rd_prefix hpi1 hpi2 hr
          rw [e, rd_good hpi1]
          exact ⟨hpi1, hpi3⟩)
        clear hpg RA hpi1 hpi2 hpi3 hsl
        by_cases hok : rdOk s
        case neg =>
          have VT := hid (valsTo_none (F := F) (i := i) (by rw [VAT.out, if_neg (fun h => hok h.1)]))
          have HOK := hid hok
          clear hok VAT GP
          have RC := hid (sread_any s w6 EW6.out SZ6.out (by exact HSL.out))
          unfold RdPost at RC
          obtain ⟨pg, hpg2⟩ : ∃ pg, rdPg s = pg := ⟨_, rfl⟩
          obtain ⟨b, hb2⟩ : ∃ b, decide (rdOk s) = b := ⟨_, rfl⟩
          rw [hpg2, hb2] at RC
          have RC := hid (show Calls Tryz.prog 34 #[.string ⟨(s).toArray⟩] w6 fun e w' => e = .returned (.tuple #[.agg (pgC pg), .bool b]) ∧ Upd (fun _ => False) w6 w' from RC.out)
          have HPG2 := hid hpg2; have HB2 := hid hb2
          clear hpg2 hb2

          go_wp2_with fail
          refine RC.out.mono ?_
          rintro e w7 ⟨rfl, u7⟩
          have M7 := hid (M6.out.upd u7 id); have U7 := hid (U6.out.trans (u7.mono fun _ h => h.elim))
          clear u7 RC
          go_upto_region 15 with (fail)
          obtain ⟨w8, hw8⟩ : ∃ w8, w7.alloc (.cells (pgC pg) 75 (0, 0)) = w8 := ⟨_, rfl⟩
          have u8 : Upd (fun _ => False) w7 w8 := by rw [← hw8]; exact (Upd.refl _ _).alloc _
          have b8 : w8.heap[w7.heap.size]? = some (.cells (pgC pg) 75 (0, 0)) := by rw [← hw8]; exact heap_alloc_new
          obtain ⟨pb, hpb⟩ : ∃ pb, w7.heap.size = pb := ⟨_, rfl⟩
          rw [hw8]
          try rw [hpb]
          rw [hpb] at b8
          have B8 := hid b8; have M8 := hid (M7.out.upd u8 id); have U8 := hid (U7.out.trans (u8.mono fun _ h => h.elim))
          clear hw8 u8 b8 hpb M7 U7
          obtain rfl : b = false := by rw [← HB2.out]; exact decide_eq_false HOK.out
          go_wp2_with fail
          go_roundg (n - (i + 1))
          case measure => have := HG.out; omega
          case rel => exact ⟨i + 1, by go_num, hlt, rfl, by rw [VT.out]; exact M8.out, U8.out⟩
        obtain ⟨hgd, hmd⟩ := GP.out hok
        have VS := hid (show validAt F i = some (rdPg s) by rw [VAT.out, if_pos ⟨hok, hmd⟩])
        have HOK := hid hok; have HGD := hid hgd; have HMD := hid hmd
        clear hok VAT GP hgd hmd
        have RC := hid (sread_any s w6 EW6.out SZ6.out (by exact HSL.out))
        unfold RdPost at RC
        obtain ⟨pg, hpg2⟩ : ∃ pg, rdPg s = pg := ⟨_, rfl⟩
        obtain ⟨b, hb2⟩ : ∃ b, decide (rdOk s) = b := ⟨_, rfl⟩
        rw [hpg2, hb2] at RC
        have RC := hid (show Calls Tryz.prog 34 #[.string ⟨(s).toArray⟩] w6 fun e w' => e = .returned (.tuple #[.agg (pgC pg), .bool b]) ∧ Upd (fun _ => False) w6 w' from RC.out)
        have HPG2 := hid hpg2; have HB2 := hid hb2
        clear hpg2 hb2

        go_wp2_with fail
        refine RC.out.mono ?_
        rintro e w7 ⟨rfl, u7⟩
        have M7 := hid (M6.out.upd u7 id); have U7 := hid (U6.out.trans (u7.mono fun _ h => h.elim))
        clear u7 RC
        go_upto_region 15 with (fail)
        obtain ⟨w8, hw8⟩ : ∃ w8, w7.alloc (.cells (pgC pg) 75 (0, 0)) = w8 := ⟨_, rfl⟩
        have u8 : Upd (fun _ => False) w7 w8 := by rw [← hw8]; exact (Upd.refl _ _).alloc _
        have b8 : w8.heap[w7.heap.size]? = some (.cells (pgC pg) 75 (0, 0)) := by rw [← hw8]; exact heap_alloc_new
        obtain ⟨pb, hpb⟩ : ∃ pb, w7.heap.size = pb := ⟨_, rfl⟩
        rw [hw8]
        try rw [hpb]
        rw [hpb] at b8
        have B8 := hid b8; have M8 := hid (M7.out.upd u8 id); have U8 := hid (U7.out.trans (u8.mono fun _ h => h.elim))
        clear hw8 u8 b8 hpb M7 U7
        obtain rfl : b = true := by rw [← HB2.out]; exact decide_eq_true HOK.out
        rw [HPG2.out] at VS HGD HMD
        obtain ⟨p0, p1, p2, p3, p4, p5, p6⟩ := pg_cells B8.out
        have hpos := HGD.out.pos
        have hposi : (pg.pos : Int) ≤ 1000000 := by omega
        have e5 := tmod_nat pg.pos n
        rw [← HN.out, HMD.out] at e5
        rw [HN.out] at e5
        have g5 : ((i : Int) == (i : Int)) = true := beq_self_eq_true _
        have hwf : (Lit.int .i64 (pg.pos : Int)).wf = true := iwf ⟨by omega, by omega⟩
        obtain ⟨w9, r9, m9, u9⟩ := M8.out.put Tryz.underlying3 Tryz.underlying73 (by
          have h1 : (kvL (valsTo F i)).length ≤ 1000 := by
            unfold kvL; rw [List.length_map, List.length_reverse]
            have h2 := List.length_filterMap_le (validAt F) (List.range i)
            rw [List.length_range] at h2
            have h3 : (valsTo F i).length ≤ i := h2
            omega
          unfold maxLen; omega) hwf (.agg (pgC pg))
        rw [kvL_put VS.out] at m9
        have M9 := hid m9; have U9 := hid (U8.out.trans u9)
        clear m9 u9 hwf hpos
        go_wp2_with fail
        go_roundg (n - (i + 1))
        case measure => have := HG.out; omega
        case rel => exact ⟨i + 1, by go_num, hlt, rfl, M9.out, U9.out⟩
    obtain rfl : i = n := by omega
    have hlti : ¬ (i : Int) < i := by omega
    rw [← HN.out, valsTo_all] at M
    have ML := hid (show (kvL (vals F)).length ≤ 1000 by
      have h1 := vals_len F
      have h2 := (pages_perm F).length_eq
      have h3 : (kvL (vals F)).length = (vals F).length := by unfold kvL; rw [List.length_map, List.length_reverse]
      rw [HN.out] at h1
      omega)
    have KC := hid (keys_any (some bm) wr)
    have SC := hid (sorted_any M.out (Nat.le_trans ML.out (by decide)) (kvL_order F))
    have ST := hid (show StoreAt wr (fun k => k = x ∨ k = p ∨ k = q) x p q F ⟨0, 0, [], []⟩ (.slice none 0 0) (.slice none 0 0) from
      ⟨(U.out.block x (heap_lt B4.out) (fun e => by have := XB.out; omega)).trans B4.out, Own1.nil _ _, Own1.nil _ _, HF.out, .inl rfl, .inr (.inl rfl), .inr (.inr rfl), (fun g hg => by cases hg), (fun g hg => by cases hg), fun k hk => by
        have h1 := XB.out; have h2 := Nat.lt_of_lt_of_le (heap_lt B5.out) U.out.size
        rcases hk with rfl | rfl | rfl <;> omega⟩)
    go_wp2_with fail
    refine KC.out.mono ?_
    rintro e w6 ⟨rfl, rfl⟩
    go_wp2_with fail
    refine SC.out.mono ?_
    rintro e w7 ⟨vo, rfl, hrow, u7⟩
    have ST7 := hid (ST.out.upd0 u7); have M7 := hid (M.out.upd u7 id)
    have HB7 := hid (own1_base hrow)
    have UB7 := hid u7.size
    have U7 := hid (show Upd (fun k => k = bm) w5 w7 from U.out.trans (u7.mono fun _ h => h.elim))
    have hrow : w7.ownsRow wr.heap.size 3 1 vo (pagesP F).length ((pagesP F).map fun p => .int .i64 (p.pos : Int)) := by
      rw [List.length_map, List.map_map] at hrow; exact hrow
    obtain ⟨a, c, rfl, hc1, hc2⟩ : ∃ a cap, vo = .slice a (pagesP F).length cap ∧ (pagesP F).length ≤ cap ∧ cap ≤ maxLen := by
      rcases ownsRow_fits hrow with ⟨rfl, h0⟩ | ⟨g, cap, rfl, _, _, h1, h2⟩
      · exact ⟨none, 0, by rw [h0], by omega, by unfold maxLen; omega⟩
      · exact ⟨_, cap, rfl, h1, h2⟩
    have ROW := hid hrow
    have GOODS := hid (fun p (hp : p ∈ pagesP F) => HI.out.good hp)
    have LEN := hid (show (pagesP F).length ≤ 1000 by have := vals_len F; rw [HN.out] at this; omega)
    have leni : ((pagesP F).length : Int) ≤ 1000 := by have := LEN.out; omega
    have LOOK := hid (kvL_lookup M.out.1)
    have FIN := hid (fun (S1 : St) (w1 w2 : World) (hst : StoreAt w1 (fun k => k = x ∨ k = p ∨ k = q) x p q F S1 (.slice none 0 0) (.slice none 0 0)) (u1 : Upd (fun k => k = bm ∨ k = x) w5 w1)
        (O' : Nat → Prop) (vr va : Value) (S2 : St) (st : StoreAt w2 O' x p q F S2 vr va) (s : Sto (fun k => k = x ∨ k = p ∨ k = q) w1 w2) (ho : ∀ k, O' k → (k = x ∨ k = p ∨ k = q) ∨ w1.heap.size ≤ k) (hS : S2 = openP F) => (show OpenPost p q F w (.returned (.tuple #[.pointer (some ⟨x, 0, none⟩), .int .i64 0])) w2 from by
      have sz : w.heap.size ≤ w1.heap.size := Nat.le_trans U5.out.size u1.size
      have a1 : Sto (fun k => k = p ∨ k = q) w w1 := (U5.out.comp u1 fun i hi e => by have := XB.out; omega).mono fun _ h => h.elim
      refine ⟨x, O', vr, va, rfl, by rw [← hS]; exact st, a1.trans s fun i hi => ?_, fun k hk => ?_⟩
      · rcases hi with rfl | hi | hi
        · exact .inr XB.out.1
        · exact .inl (.inl hi)
        · exact .inl (.inr hi)
      · rcases ho k hk with (rfl | h | h) | h
        · exact .inr (.inr XB.out.1)
        · exact .inl h
        · exact .inr (.inl h)
        · exact .inr (.inr (Nat.le_trans sz h))))
    have NBM := hid (show ¬ (bm = x ∨ bm = p ∨ bm = q) by have := XB.out; omega)
    have NGB := hid (show ∀ g, (Value.slice a (pagesP F).length c).ownBlock = some g → ¬ (g = x ∨ g = p ∨ g = q) from fun g hg => by
      have h1 := HB7.out g hg; have h2 := U.out.size; have h3 := heap_lt B5.out; have h4 := XB.out; omega)
    have hc2 : c ≤ 9223372036854775807 := hc2
    clear hrow u7 KC SC
    cases hL : (pagesP F).getLast? with
    | none =>
      have hnil : pagesP F = [] := List.getLast?_eq_none_iff.1 hL
      have l0 : ((pagesP F).length : Int) = 0 := by rw [hnil]; rfl
      have OP := hid (show openP F = ⟨0, seekP F 0, (collP 0 (pagesP F)).recs, (collP 0 (pagesP F)).ats⟩ from by unfold openP firstP fromP newestP; rw [hL])
      have CC := hid (fun (wq : World) (u : Upd (fun _ => False) w7 wq) => collect_any (ST7.out.upd0 u) rfl rfl (Nat.zero_le _) (M7.out.upd u id) NBM.out GOODS.out LEN.out LOOK.out (ownsRow_upd ROW.out u fun _ _ => id) NGB.out)
      clear hL hnil
      go_wp2_with fail
      refine (CC.out _ (Upd.refl _ _)).mono ?_
      rintro e w8 ⟨rfl, ⟨O', vr, va, st8, ho8⟩, so8⟩
      have S8 := hid st8; have HO8 := hid ho8; have SO8 := hid so8
      clear st8 ho8 so8
      go_wp2_with fail
      refine (seek_any S8.out HD.out 0 (by decide)).mono ?_
      rintro e w9 ⟨rfl, st9, u9⟩
      have S9 := hid st9; have SO9 := hid (SO8.out.trans (S8.out.sto_x u9) HO8.out)
      clear st9 u9
      go_wp2_with fail
      go_ret2
      exact FIN.out _ w7 w9 ST7.out (U7.out.mono fun _ h => .inl h) O' vr va _ S9.out SO9.out HO8.out OP.out.symm
    | some pl =>
      obtain ⟨l', hl'⟩ := List.getLast?_eq_some_iff.1 hL
      have hmem : pl ∈ pagesP F := List.mem_of_getLast? hL
      have gl := GOODS.out pl hmem
      have lk := LOOK.out pl hmem
      have hlen : (pagesP F).length = l'.length + 1 := by rw [hl']; simp
      obtain ⟨m, hm⟩ : ∃ m, l'.length = m := ⟨_, rfl⟩
      rw [hm] at hlen
      have hlast : (pagesP F)[m]? = some pl := by rw [hl', ← hm]; simp
      obtain ⟨gb, hgb, hck⟩ : ∃ gb, a = some ⟨gb, 0, none⟩ ∧ w7.cell? ⟨gb, m, none⟩ = some (.int .i64 (pl.pos : Int)) := by
        obtain ⟨_, ⟨_, h0⟩ | ⟨g, cap, cur, e0, _, hg, _, _, _, ht⟩⟩ := ROW.out
        · omega
        · injection e0 with e1 _ _
          refine ⟨g, e1, ?_⟩
          rw [cell_of_block hg, ← Array.getElem?_toList]
          have h5 : ((cur.toList.take ((pagesP F).length * 1)))[m]? = some (.int .i64 (pl.pos : Int)) := by rw [ht, List.getElem?_map, hlast]; rfl
          rw [List.getElem?_take] at h5
          split at h5
          · exact h5
          · cases h5
      subst hgb
      obtain ⟨df, hdf⟩ : ∃ df, pl.number - pl.diff = df := ⟨_, rfl⟩
      obtain ⟨nx, hnx⟩ : ∃ nx, pl.pos + 1 = nx := ⟨_, rfl⟩
      have OP := hid (show openP F = ⟨df, seekP F nx, (collP df (pagesP F)).recs, (collP df (pagesP F)).ats⟩ from by unfold openP firstP fromP newestP; rw [hL]; dsimp only; rw [hdf, hnx])
      have hdn := gl.form.2.1
      have hnum := gl.number
      have hposl := gl.pos
      have li : ((pagesP F).length : Int) - 1 = m := by omega
      have lp : (0 : Int) < (pagesP F).length := by omega
      have lpn : 0 < (pagesP F).length := by omega
      have lml : m < (pagesP F).length := by omega
      have lmi : (m : Int) < (pagesP F).length := by omega
      have mi : (m : Int) ≤ 1000 := by omega
      have f1 : (pl.number : Int) - pl.diff = df := by omega
      have f2 : (pl.pos : Int) + 1 = nx := by omega
      have b1 : df ≤ 1000000000 := by omega
      have b2 : nx ≤ 1000000000 := by omega
      have DFB := hid (show df ≤ 1000000 by omega)
      have NXB := hid (show nx ≤ 1000000 by have := HPS.out pl hmem; omega)
      have hwf : (Lit.int .i64 (pl.pos : Int)).wf = true := iwf ⟨by omega, by omega⟩
      have hget := M7.out.get Tryz.underlying3 Tryz.underlying73 (zeroPg w7) hwf
      rw [lk] at hget
      simp only [Option.getD_some] at hget
      have hfd2 : ∀ w, (Instr.field 75 (.agg (pgC pl)) 2).run Tryz.prog w = .ok (.int .i64 (pl.number : Int)) w := fun w => by rfl
      have hfd3 : ∀ w, (Instr.field 75 (.agg (pgC pl)) 3).run Tryz.prog w = .ok (.int .i64 (pl.diff : Int)) w := fun w => by rfl
      have HM := hid hlen
      clear hL hl' hmem gl lk hm hlast hdf hnx hdn hnum hposl hlen hwf
      obtain ⟨⟨c0, c1, c2, c3, c4, c5, c6⟩, hf⟩ := ST7.out.cells
      have hs8 := hid (store_first0 ST7.out.head df)
      have ST8 := hid (ST7.out.headed ((Upd.refl (· = x) w7).at_ 3 (.int .i64 (df : Int))) hs8.out rfl rfl)
      have U8 := hid (show Upd (fun k => k = bm ∨ k = x) w5 (w7.setCell ⟨x, 3, none⟩ (.int .i64 (df : Int))) from (U7.out.mono fun _ h => .inl h).trans (((Upd.refl (· = x) w7).at_ 3 (.int .i64 (df : Int))).mono fun _ h => .inr h))
      have CC := hid (collect_any ST8.out rfl rfl DFB.out (M7.out.upd ((Upd.refl (· = x) w7).at_ 3 (.int .i64 (df : Int))) (fun e => NBM.out (.inl e))) NBM.out GOODS.out LEN.out LOOK.out (ownsRow_upd ROW.out ((Upd.refl (· = x) w7).at_ 3 (.int .i64 (df : Int))) fun g hg e => NGB.out g hg (.inl e)) NGB.out)
      obtain ⟨w1a, w1b⟩ := wrap_nat b1
      obtain ⟨w2a, w2b⟩ := wrap_nat b2
      clear b1 b2
      go_wp2_with fail
      refine CC.out.mono ?_
      rintro e w8 ⟨rfl, ⟨O', vr, va, st8, ho8⟩, so8⟩
      have S8 := hid st8; have HO8 := hid ho8; have SO8 := hid so8
      clear st8 ho8 so8
      go_wp2_with fail
      refine (seek_any S8.out HD.out nx NXB.out).mono ?_
      rintro e w9 ⟨rfl, st9, u9⟩
      have S9 := hid st9; have SO9 := hid (SO8.out.trans (S8.out.sto_x u9) HO8.out)
      clear st9 u9
      go_wp2_with fail
      go_ret2
      exact FIN.out _ _ w9 ST8.out U8.out O' vr va _ S9.out SO9.out HO8.out OP.out.symm
end Go.Proofs.YtlefilfdomjkeaaGreatDoor
