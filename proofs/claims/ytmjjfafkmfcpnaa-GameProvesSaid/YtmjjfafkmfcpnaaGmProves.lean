/- The walk of GameProves. -/
import Derived.Test.YtmjjfafkmfcpnaaGmB1
namespace Go.Proofs.Ytmjjfafkmfcpnaa
open Go.RowKit Go.Deep

set_option maxRecDepth 100000 in
set_option maxHeartbeats 2000000 in
theorem proves_walk (v : Value) (l : List Nd) (v1 : Value) (mine : List Int) (v2 : Value) (others : List Int) (W : World) (h0 : (kSlice kNd).rep (· < W.heap.size) W [v] l) (h1 : kInts.rep (· < W.heap.size) W [v1] mine) (h2 : kInts.rep (· < W.heap.size) W [v2] others) :
    Calls Try.prog 5 #[v, v1, v2] W fun e w' => e = .returned (.bool true) ∧ Below W.heap.size W w' := by
  have fin : ∀ w' e, (e = Ending.returned (.bool true) ∧ Upd (fun _ => False) W w') → (e = .returned (.bool true) ∧ Below W.heap.size W w') := fun w' e h => ⟨h.1, h.2.below (Nat.le_refl _) fun _ h => h.elim⟩
  suffices hs : Calls Try.prog 5 #[v, v1, v2] W fun e w' => e = .returned (.bool true) ∧ Upd (fun _ => False) W w' from hs.mono fun e w' h => fin w' e h
  clear fin
  obtain ⟨a0, cap0, rfl, p1, p2, _⟩ := slice_open h0
  obtain ⟨a1, cap1, rfl, q1, q2, _⟩ := slice_open h1
  obtain ⟨a2, cap2, rfl, r1, r2, _⟩ := slice_open h2
  have p2 : cap0 ≤ 9223372036854775807 := p2
  have q2 : cap1 ≤ 9223372036854775807 := q2
  have r2 : cap2 ≤ 9223372036854775807 := r2
  have HN := hid h0; have HM := hid h1; have HO := hid h2
  clear h0 h1 h2
  cases hf : fewB l 200
  · have HF := hid hf; clear hf
    go_enter Try.func5, Try.ntmps5
    go_wp2_with fail
    refine (small_any _).mono ?_
    rintro e w1 ⟨rfl, u⟩
    have HU := hid u
    replace HN := hid (keep_nds HN.out u)
    replace HM := hid (keep_ints HM.out u)
    replace HO := hid (keep_ints HO.out u)
    clear u
    go_wp2_with fail
    refine (few_any _ l 200 _ HN.out (by decide)).mono ?_
    rintro e wf ⟨rfl, hwf⟩
    subst hwf
    rw [HF.out]
    go_wp2_with fail
    go_ret
    exact ⟨rfl, HU.out⟩
  have HF := hid hf; clear hf
  cases hr : right l
  · have HR := hid hr; clear hr
    go_enter Try.func5, Try.ntmps5
    go_wp2_with fail
    refine (small_any _).mono ?_
    rintro e w1 ⟨rfl, u⟩
    have HU := hid u
    replace HN := hid (keep_nds HN.out u)
    replace HM := hid (keep_ints HM.out u)
    replace HO := hid (keep_ints HO.out u)
    clear u
    go_wp2_with fail
    refine (few_any _ l 200 _ HN.out (by decide)).mono ?_
    rintro e wf ⟨rfl, hwf⟩
    subst hwf
    rw [HF.out]
    go_wp2_with fail
    refine (right_any _ l _ HN.out).mono ?_
    rintro e w2 ⟨rfl, u⟩
    replace HN := hid (keep_nds HN.out u)
    replace HM := hid (keep_ints HM.out u)
    replace HO := hid (keep_ints HO.out u)
    replace HU := hid (HU.out.trans u)
    clear u
    rw [HR.out]
    go_wp2_with fail
    go_ret
    exact ⟨rfl, HU.out⟩
  have HR := hid hr; clear hr
  have HP := hid ((right_iff l).1 HR.out)
  by_cases c1 : mine.length = l.length
  · skip
    by_cases c2 : others.length = l.length
    · skip
      have c1b : ((mine.length : Int) != l.length) = false := by rw [c1]; simp
      have c1c : (mine.length != l.length) = false := by rw [c1]; simp
      have c2b : ((others.length : Int) != l.length) = false := by rw [c2]; simp
      have c2c : (others.length != l.length) = false := by rw [c2]; simp
      have C1 := hid c1; have C2 := hid c2
      have hn1 : (l.length : Int) ≤ 3000 := by have := HP.out.few; omega
      have hn0 : (1 : Int) ≤ l.length := by have := HP.out.pos; omega
      clear c1 c2
      go_enter Try.func5, Try.ntmps5
      go_wp2_with fail
      refine (small_any _).mono ?_
      rintro e w1 ⟨rfl, u⟩
      have HU := hid u
      replace HN := hid (keep_nds HN.out u)
      replace HM := hid (keep_ints HM.out u)
      replace HO := hid (keep_ints HO.out u)
      clear u
      go_wp2_with fail
      refine (few_any _ l 200 _ HN.out (by decide)).mono ?_
      rintro e wf ⟨rfl, hwf⟩
      subst hwf
      rw [HF.out]
      go_wp2_with fail
      refine (right_any _ l _ HN.out).mono ?_
      rintro e w2 ⟨rfl, u⟩
      replace HN := hid (keep_nds HN.out u)
      replace HM := hid (keep_ints HM.out u)
      replace HO := hid (keep_ints HO.out u)
      replace HU := hid (HU.out.trans u)
      clear u
      rw [HR.out]
      go_wp2_with fail
      refine (prove_any _ l _ HN.out).mono ?_
      intro e w3 hp
      unfold ProvePost at hp
      rw [if_pos HR.out] at hp
      obtain ⟨gp, gc, rfl, _, _, _, hpv, hpc, u⟩ := hp
      clear c1b c1c c2b c2c
      replace HN := hid (keep_nds HN.out u)
      replace HM := hid (keep_ints HM.out u)
      replace HO := hid (keep_ints HO.out u)
      replace HU := hid (HU.out.trans u)
      have ua := (Upd.refl (fun _ => False) w3).alloc (.cells #[.slice (some ⟨gp, 0, none⟩) l.length l.length, .slice (some ⟨gc, 0, none⟩) l.length l.length] 25 (0, 0))
      have hcb : (w3.alloc (.cells #[.slice (some ⟨gp, 0, none⟩) l.length l.length, .slice (some ⟨gc, 0, none⟩) l.length l.length] 25 (0, 0))).heap[w3.heap.size]? = some (.cells #[.slice (some ⟨gp, 0, none⟩) l.length l.length, .slice (some ⟨gc, 0, none⟩) l.length l.length] 25 (0, 0)) := heap_alloc_new
      have HCB := hid hcb; have HPV := hid (hpv.upd ua id); have HPC := hid (hpc.upd ua id)
      replace HN := hid (keep_nds HN.out ua)
      replace HM := hid (keep_ints HM.out ua)
      replace HO := hid (keep_ints HO.out ua)
      replace HU := hid (HU.out.trans ua)
      clear u ua hcb hpv hpc
      go_wp2_with fail
      refine (value_any _ l _ HN.out).mono ?_
      intro e w4 hp
      unfold ValuePost at hp
      rw [if_pos HR.out] at hp
      obtain ⟨gv, rfl, _, hv, u⟩ := hp
      replace HN := hid (keep_nds HN.out u)
      replace HM := hid (keep_ints HM.out u)
      replace HO := hid (keep_ints HO.out u)
      replace HPV := hid (HPV.out.upd u id)
      replace HPC := hid (HPC.out.upd u id)
      replace HCB := hid ((u.block _ (heap_lt HCB.out) id).trans HCB.out)
      replace HU := hid (HU.out.trans u)
      have HV := hid hv
      clear hv u
      go_wp2_with fail
      refine (best_any _ l _ HN.out).mono ?_
      intro e w5 hp
      unfold BestPost at hp
      rw [if_pos HR.out] at hp
      obtain ⟨gb, rfl, _, hb, u⟩ := hp
      replace HN := hid (keep_nds HN.out u)
      replace HM := hid (keep_ints HM.out u)
      replace HO := hid (keep_ints HO.out u)
      replace HPV := hid (HPV.out.upd u id)
      replace HPC := hid (HPC.out.upd u id)
      replace HV := hid (HV.out.upd u id)
      replace HCB := hid ((u.block _ (heap_lt HCB.out) id).trans HCB.out)
      replace HU := hid (HU.out.trans u)
      have HB := hid hb
      obtain ⟨k0, k1, _⟩ := cells2 HCB.out
      clear hb u
      have wfv : ∀ x ∈ vlist l, (Lit.int .i64 x).wf = true := vlist_wf HP.out
      have wfc : ∀ x ∈ proveC l, (Lit.int .i64 x).wf = true := proveC_wf HP.out
      have wfb : ∀ x ∈ bestB l, (Lit.int .i64 x).wf = true := bestB_wf HP.out
      have WV := hid wfv; have WC := hid wfc; have WB := hid wfb
      clear wfv wfc wfb
      have hlm : l.length ≤ maxLen := by have := HP.out.few; unfold maxLen; omega
      have HLM := hid hlm; clear hlm
      have r1 := HPV.out.rep (A := (· < w5.heap.size)) (cap := l.length) WV.out (by rw [vlist_len]; exact Nat.le_refl _) HLM.out HPV.out.lt
      have r2 := HPC.out.rep (A := (· < w5.heap.size)) (cap := l.length) WC.out (by rw [proveC_len]; exact Nat.le_refl _) HLM.out HPC.out.lt
      rw [vlist_len] at r1
      rw [proveC_len] at r2
      have R1 := hid r1; have R2 := hid r2
      clear r1 r2
      go_wp2_with fail
      refine (check_any _ _ _ l (vlist l) (proveC l) _ HN.out R1.out R2.out).mono ?_
      rintro e w6 ⟨n, rfl, _, hn, u⟩
      obtain rfl : n = 0 := (hn HR.out).2.2 (prove_holds HP.out)
      replace HN := hid (keep_nds HN.out u)
      replace HM := hid (keep_ints HM.out u)
      replace HO := hid (keep_ints HO.out u)
      replace HPV := hid (HPV.out.upd u id)
      replace HPC := hid (HPC.out.upd u id)
      replace HV := hid (HV.out.upd u id)
      replace HB := hid (HB.out.upd u id)
      replace HCB := hid ((u.block _ (heap_lt HCB.out) id).trans HCB.out)
      replace HU := hid (HU.out.trans u)
      clear R1 R2 hn u k0 k1
      obtain ⟨k0, k1, _⟩ := cells2 HCB.out
      have r1 := HPV.out.rep (A := (· < w6.heap.size)) (cap := l.length) WV.out (by rw [vlist_len]; exact Nat.le_refl _) HLM.out HPV.out.lt
      have r2 := HV.out.rep (A := (· < w6.heap.size)) (cap := l.length) WV.out (by rw [vlist_len]; exact Nat.le_refl _) HLM.out HV.out.lt
      rw [vlist_len] at r1 r2
      have R1 := hid r1; have R2 := hid r2
      clear r1 r2
      go_wp2_with fail
      refine (ints_any _ _ (vlist l) (vlist l) _ R1.out R2.out).mono ?_
      rintro e w7 ⟨rfl, u⟩
      rw [decide_eq_true rfl]
      replace HN := hid (keep_nds HN.out u)
      replace HM := hid (keep_ints HM.out u)
      replace HO := hid (keep_ints HO.out u)
      replace HPV := hid (HPV.out.upd u id)
      replace HPC := hid (HPC.out.upd u id)
      replace HV := hid (HV.out.upd u id)
      replace HB := hid (HB.out.upd u id)
      replace HCB := hid ((u.block _ (heap_lt HCB.out) id).trans HCB.out)
      replace HU := hid (HU.out.trans u)
      clear R1 R2 u k0 k1
      obtain ⟨k0, k1, _⟩ := cells2 HCB.out
      have r1 := HB.out.rep (A := (· < _)) (cap := l.length) WB.out (by rw [bestB_len]; exact Nat.le_refl _) HLM.out HB.out.lt
      rw [bestB_len] at r1
      have R1 := hid r1; clear r1
      go_wp2_with fail
      refine (play_any _ _ _ l (bestB l) (others) _ HN.out R1.out HO.out).mono ?_
      intro e w8 hp
      unfold PlayPost at hp
      rw [if_pos (by unfold playOk; rw [HR.out]; simp [C1.out, C2.out, bestB_len, proveC_len])] at hp
      obtain ⟨vpx, rfl, hpp, u⟩ := hp
      obtain ⟨apx, cqx, rfl, _⟩ := slice_open hpp
      replace HN := hid (keep_nds HN.out u)
      replace HM := hid (keep_ints HM.out u)
      replace HO := hid (keep_ints HO.out u)
      replace HPV := hid (HPV.out.upd u id)
      replace HPC := hid (HPC.out.upd u id)
      replace HV := hid (HV.out.upd u id)
      replace HB := hid (HB.out.upd u id)
      replace HCB := hid ((u.block _ (heap_lt HCB.out) id).trans HCB.out)
      replace HU := hid (HU.out.trans u)
      clear hpp u k0 k1
      obtain ⟨k0, k1, _⟩ := cells2 HCB.out
      clear R1
      have r2 := HPC.out.rep (A := (· < _)) (cap := l.length) WC.out (by rw [proveC_len]; exact Nat.le_refl _) HLM.out HPC.out.lt
      rw [proveC_len] at r2
      have R2 := hid r2; clear r2
      go_wp2_with fail
      refine (play_any _ _ _ l (mine) (proveC l) _ HN.out HM.out R2.out).mono ?_
      intro e w9 hp
      unfold PlayPost at hp
      rw [if_pos (by unfold playOk; rw [HR.out]; simp [C1.out, C2.out, bestB_len, proveC_len])] at hp
      obtain ⟨vpy, rfl, hpp, u⟩ := hp
      obtain ⟨apy, cqy, rfl, _⟩ := slice_open hpp
      replace HN := hid (keep_nds HN.out u)
      replace HM := hid (keep_ints HM.out u)
      replace HO := hid (keep_ints HO.out u)
      replace HPV := hid (HPV.out.upd u id)
      replace HPC := hid (HPC.out.upd u id)
      replace HV := hid (HV.out.upd u id)
      replace HB := hid (HB.out.upd u id)
      replace HCB := hid ((u.block _ (heap_lt HCB.out) id).trans HCB.out)
      replace HU := hid (HU.out.trans u)
      clear hpp u k0 k1
      obtain ⟨k0, k1, _⟩ := cells2 HCB.out
      clear R2
      have r1 := HB.out.rep (A := (· < _)) (cap := l.length) WB.out (by rw [bestB_len]; exact Nat.le_refl _) HLM.out HB.out.lt
      rw [bestB_len] at r1
      have R1 := hid r1; clear r1
      have r2 := HPC.out.rep (A := (· < _)) (cap := l.length) WC.out (by rw [proveC_len]; exact Nat.le_refl _) HLM.out HPC.out.lt
      rw [proveC_len] at r2
      have R2 := hid r2; clear r2
      go_wp2_with fail
      refine (play_any _ _ _ l (bestB l) (proveC l) _ HN.out R1.out R2.out).mono ?_
      intro e wa hp
      unfold PlayPost at hp
      rw [if_pos (by unfold playOk; rw [HR.out]; simp [C1.out, C2.out, bestB_len, proveC_len])] at hp
      obtain ⟨vpz, rfl, hpp, u⟩ := hp
      obtain ⟨apz, cqz, rfl, _⟩ := slice_open hpp
      replace HN := hid (keep_nds HN.out u)
      replace HM := hid (keep_ints HM.out u)
      replace HO := hid (keep_ints HO.out u)
      replace HPV := hid (HPV.out.upd u id)
      replace HPC := hid (HPC.out.upd u id)
      replace HV := hid (HV.out.upd u id)
      replace HB := hid (HB.out.upd u id)
      replace HCB := hid ((u.block _ (heap_lt HCB.out) id).trans HCB.out)
      replace HU := hid (HU.out.trans u)
      clear hpp u k0 k1
      obtain ⟨k0, k1, _⟩ := cells2 HCB.out
      clear R1
      clear R2
      have g0 : l[0]? = some (l[0]'HP.out.pos) := List.getElem?_eq_getElem HP.out.pos
      have b1 := play_best HP.out others l.length 0 _ g0 (by omega)
      have b2 := play_bound HP.out (mine := mine) (prove_holds HP.out) l.length 0 _ g0 (by omega)
      have b3 := play_best HP.out (proveC l) l.length 0 _ g0 (by omega)
      have b4 := play_bound HP.out (mine := bestB l) (prove_holds HP.out) l.length 0 _ g0 (by omega)
      have cv := HV.out.cell (k := 0) (by rw [vlist_len]; exact HP.out.pos)
      rw [geti_at'] at cv
      clear g0
      generalize geti (vlist l) 0 = z at *
      have eq : (playF l (bestB l) (proveC l) l.length 0).1 = z := by omega
      rw [eq]
      generalize (playF l (bestB l) others l.length 0).1 = x at *
      generalize (playF l mine (proveC l) l.length 0).1 = y at *
      clear eq b3 b4
      go_wp2_with fail
      go_ret
      exact ⟨rfl, HU.out⟩
    · skip
      have c1b : ((mine.length : Int) != l.length) = false := by rw [c1]; simp
      have c1c : (mine.length != l.length) = false := by rw [c1]; simp
      have c2b : ((others.length : Int) != l.length) = true := by rw [bne_iff_ne]; omega
      have c2c : (others.length != l.length) = true := by rw [bne_iff_ne]; omega
      clear c1 c2
      go_enter Try.func5, Try.ntmps5
      go_wp2_with fail
      refine (small_any _).mono ?_
      rintro e w1 ⟨rfl, u⟩
      have HU := hid u
      replace HN := hid (keep_nds HN.out u)
      replace HM := hid (keep_ints HM.out u)
      replace HO := hid (keep_ints HO.out u)
      clear u
      go_wp2_with fail
      refine (few_any _ l 200 _ HN.out (by decide)).mono ?_
      rintro e wf ⟨rfl, hwf⟩
      subst hwf
      rw [HF.out]
      go_wp2_with fail
      refine (right_any _ l _ HN.out).mono ?_
      rintro e w2 ⟨rfl, u⟩
      replace HN := hid (keep_nds HN.out u)
      replace HM := hid (keep_ints HM.out u)
      replace HO := hid (keep_ints HO.out u)
      replace HU := hid (HU.out.trans u)
      clear u
      rw [HR.out]
      go_wp2_with fail
      go_ret
      exact ⟨rfl, HU.out⟩
  · skip
    have c1b : ((mine.length : Int) != l.length) = true := by rw [bne_iff_ne]; omega
    have c1c : (mine.length != l.length) = true := by rw [bne_iff_ne]; omega
    clear c1
    go_enter Try.func5, Try.ntmps5
    go_wp2_with fail
    refine (small_any _).mono ?_
    rintro e w1 ⟨rfl, u⟩
    have HU := hid u
    replace HN := hid (keep_nds HN.out u)
    replace HM := hid (keep_ints HM.out u)
    replace HO := hid (keep_ints HO.out u)
    clear u
    go_wp2_with fail
    refine (few_any _ l 200 _ HN.out (by decide)).mono ?_
    rintro e wf ⟨rfl, hwf⟩
    subst hwf
    rw [HF.out]
    go_wp2_with fail
    refine (right_any _ l _ HN.out).mono ?_
    rintro e w2 ⟨rfl, u⟩
    replace HN := hid (keep_nds HN.out u)
    replace HM := hid (keep_ints HM.out u)
    replace HO := hid (keep_ints HO.out u)
    replace HU := hid (HU.out.trans u)
    clear u
    rw [HR.out]
    go_wp2_with fail
    go_ret
    exact ⟨rfl, HU.out⟩
end Go.Proofs.Ytmjjfafkmfcpnaa
