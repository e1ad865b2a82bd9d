/- The statement StoreTells: the walk. -/
/- The walk of StoreTells, its parameters in their order. -/
import Derived.Test.YtlefilfdomjkeaaGreatDoorRtN
import Derived.Test.YtlefilfdomjkeaaGreatDoorRfNew
namespace Go.Proofs.YtlefilfdomjkeaaGreatDoor
open Go.RowKit Go.Deep
/-- When an operation comes: both stores are as they have to be. -/
def TellsAt (w : World) (nb np p q p2 q2 : Nat) (g2 : Nat → Nat) (i : Nat) (s16 s17 s18 s19 : Value) (wr : World) : Prop :=
  ∃ (x x2 z : Nat) (F : Fl) (S : St) (e : Int) (second : Nat) (other : List (List UInt8)),
    s16 = .pointer (some ⟨x, 0, none⟩) ∧ s17 = .int .i64 e ∧ s18 = .pointer (some ⟨x2, 0, none⟩) ∧ s19 = .int .i64 e ∧ Pair w p q p2 q2 g2 x x2 z F S F S wr ∧ Lasts i nb np F S second other
theorem Lasts.called {j nb np : Nat} {F : Fl} {S : St} {second : Nat} {other : List (List UInt8)} (h : Lasts j nb np F S second other) {o : OpS} (hk : o.kind = 0 ∨ o.kind = 1) (ho : o.s.length ≤ 300) {G : Fl} {T : St} {e : Int} (d : Done (400 * j) j F S o G T e) (gok : G.Ok) :
    ∃ second' other', Lasts (j + 1) nb np G T second' other' := by
  obtain ⟨h1, h2, h3⟩ := h.call hk ho d gok
  by_cases e0 : e = 0
  · exact ⟨_, _, h1 e0⟩
  · by_cases e8 : e = 8
    · exact ⟨_, _, h3 e8⟩
    · exact ⟨_, _, h2 e0 e8⟩
set_option maxRecDepth 100000 in
set_option maxHeartbeats 16000000 in
theorem tells_walk (x0 x1 i0 : Int) (v : Value) (l : List OpS) (w : World) (E : Env w) (hz : 6 ≤ w.heap.size) (h0 : (Lit.int .u8 x0).wf = true) (h1 : (Lit.int .u8 x1).wf = true) (hi0 : (Lit.int .i64 i0).wf = true) (hl : (kSlice kOpS).rep (· < w.heap.size) w [v] l) :
    Calls Tryz.prog 3 #[.int .u8 x0, .int .u8 x1, v, .int .i64 i0] w fun e w' => e = .returned (.bool true) ∧ Upd (fun _ => False) w w' := by
  have b0 := bounds_u8 h0
  have b1 := bounds_u8 h1
  have bi0 := bounds_i64 hi0
  have I0 := hid (show I64 i0 from wf_i64 hi0)
  clear h0 h1 hi0
  obtain ⟨nb, hnb⟩ := Int.eq_ofNat_of_zero_le (by omega : 0 ≤ 1 + x0 % 6)
  obtain ⟨np, hnp⟩ := Int.eq_ofNat_of_zero_le (by omega : 0 ≤ 1 + x1 % 6)
  have hb : 1 ≤ nb ∧ nb ≤ 6 := by omega
  have hp : 1 ≤ np ∧ np ≤ 6 := by omega
  obtain ⟨N, hN⟩ : ∃ N, nb * np = N := ⟨_, rfl⟩
  have e4 : (nb : Int) * (np : Int) = (N : Int) := by rw [← hN, Int.natCast_mul]
  have hN36 : N ≤ 36 := by rw [← hN]; exact Nat.mul_le_mul hb.2 hp.2
  have hNi : (N : Int) ≤ 36 := by omega
  have hnpi : ¬ (np : Int) = 0 := by omega
  have hnpb : ((np : Int) == 0) = false := beq_eq_false_iff_ne.2 hnpi
  obtain ⟨al, cl, rfl, hc1, hc2, hel⟩ := slice_open hl
  have hc2 : cl ≤ 9223372036854775807 := hc2
  have HE := hid E; have HZ := hid hz; have HL := hid hl; have HB := hid hb; have HP := hid hp; have EL := hid hel
  have hnb6 : (nb : Int) ≤ 6 := by omega
  have hnp6 : (np : Int) ≤ 6 := by omega
  clear E hz hl hel hb hp hN hN36
  go_enter Tryz.func3, Tryz.ntmps3
  go_wp2_with fail
  refine (small_any w HE.out HZ.out).mono ?_
  rintro e w1 ⟨rfl, u1⟩
  have U1 := hid u1
  have HL1 := hid ((kSlice kOpS).keep HL.out (Same.of_upd u1 fun _ _ => id))
  clear u1
  go_wp2_with fail
  refine (fewS_any _ l w1 ((kSlice kOpS).mono HL1.out fun g hg => Nat.lt_of_lt_of_le hg U1.out.size)).mono ?_
  rintro e w2 ⟨rfl, u2⟩
  have U2 := hid (U1.out.trans u2)
  clear u2 U1 HL1
  cases hfew : fewS l with
  | false =>
    go_wp2_with fail
    go_ret
    exact ⟨rfl, U2.out⟩
  | true =>
    obtain ⟨hl40, hs300⟩ := fewS_true hfew
    have HL40 := hid hl40; have HS := hid hs300
    have l40i : (l.length : Int) ≤ 40 := by omega
    clear hfew hl40 hs300
    go_wp2_with fail
    refine (new_ok nb np w2 (by have := HB.out; omega) (by have := HP.out; omega)).mono ?_
    rintro e w3 ⟨p, q, hp3, hq3, rfl, f3', u3⟩
    have F3 := hid f3'; have PQ3 := hid (show w.heap.size ≤ p ∧ w.heap.size ≤ q from ⟨Nat.le_trans U2.out.size hp3, Nat.le_trans U2.out.size hq3⟩); have U3 := hid (U2.out.trans u3)
    have PL3 := hid (show p < w3.heap.size ∧ q < w3.heap.size from by obtain ⟨cap, h1⟩ := f3'.head; obtain ⟨cs, h2, _⟩ := f3'.rows; exact ⟨heap_lt h1, heap_lt h2⟩)
    clear f3' hp3 hq3 u3 U2
    go_wp2_with fail
    refine (rnew_ok nb np w3 (by have := HB.out; omega) (by have := HP.out; omega)).mono ?_
    rintro e w4 ⟨p2, q2, g2, hft, rfl, r4, u4⟩
    have FP := hid (show FPair w p q p2 q2 g2 (Fl.new nb np) (Fl.new nb np) w4 from ⟨F3.out.upd u4 id id (fun _ h => h.elim), r4, PQ3.out.1, PQ3.out.2, fun k hk => Nat.le_trans U3.out.size (hft k hk), fun k hk => ⟨fun e => by have := hft k hk; have := PL3.out; omega, fun e => by have := hft k hk; have := PL3.out; omega⟩, U3.out.trans u4⟩)
    clear hft r4 u4 F3 PQ3 U3 PL3
    by_cases h2 : 2 ≤ nb
    case neg =>
      as_aux_lemma =>
        have hn1 : nb = 1 := by have := HB.out; omega
        have OC := hid (fun (wq : World) (F : Fl) (f : FPair w p q p2 q2 g2 F F wq) (hn : F.nb = nb) => sopen_few f.1 (by rw [hn, hn1]; decide))
        have OR := hid (fun (wq : World) (F : Fl) (f : FPair w p q p2 q2 g2 F F wq) (hn : F.nb = nb) => ropen_few f.2.1 (by rw [hn, hn1]; decide))
        clear hn1 h2
        go_wp2_with fail
        refine (OC.out _ _ FP.out rfl).mono ?_
        rintro e w5 ⟨rfl, u5⟩
        have FP5 := hid (FP.out.upd u5)
        clear u5
        go_wp2_with fail
        refine (OR.out _ _ FP5.out rfl).mono ?_
        rintro e w6 ⟨rfl, u6⟩
        have FP6 := hid (FP5.out.upd u6)
        clear u6 FP FP5
        go_wp2_with fail
        go_loopg [16, 17, 18, 19, 20] l.length (fun gg s16 s17 s18 s19 s20 wr => ∃ (i : Nat) (F : Fl), s16 = .pointer none ∧ s17 = .int .i64 1 ∧ s18 = .pointer none ∧ s19 = .int .i64 1 ∧ s20 = .int .i64 i ∧ i ≤ l.length ∧ gg = l.length - i ∧ FPair w p q p2 q2 g2 F F wr ∧ F.nb = nb)
        case atStart => exact ⟨0, _, rfl, rfl, rfl, rfl, rfl, Nat.zero_le _, rfl, FP6.out, rfl⟩
        case round =>
          clear FP6
          obtain ⟨i, F, rfl, rfl, rfl, rfl, rfl, hil, hg, hfp, hn⟩ := hrel
          have HG := hid hg; have FP := hid hfp; have HN := hid hn
          clear hg hfp hn
          by_cases hlt : i < l.length
          case neg =>
            have hlti : ¬ (i : Int) < l.length := by omega
            go_wp2_with fail
            refine (start_any p q wr F FP.out.1).mono ?_
            rintro e w5 ⟨rfl, f5, u5⟩
            have FP5 := hid (FP.out.left f5 u5)
            clear f5 u5
            go_wp2_with fail
            refine (rstart_any p2 q2 g2 w5 F FP5.out.2.1).mono ?_
            rintro e w6 ⟨rfl, f6, u6⟩
            have FP6 := hid (FP5.out.right f6 rfl u6)
            clear f6 u6 FP5
            obtain ⟨G, hG⟩ : ∃ G, F.start = G := ⟨_, rfl⟩
            rw [hG] at FP6
            clear hG
            go_wp2_with fail
            go_loopg [26] N (fun gg s26 wx => ∃ n : Nat, n ≤ N ∧ gg = N - n ∧ s26 = .int .i64 n ∧ FPair w p q p2 q2 g2 G G wx)
            case atStart => exact ⟨0, Nat.zero_le _, rfl, rfl, FP6.out⟩
            case round =>
              obtain ⟨n, hn, hg, rfl, hfp⟩ := hrel
              have HG := hid hg; have FPn := hid hfp
              clear hg hfp
              by_cases hlt : n < N
              case neg =>
                have hlti : ¬ (n : Int) < N := by omega
                go_wp2_with fail
                go_ret
                exact ⟨rfl, FPn.out.2.2.2.2.2.2⟩
              have hlti : (n : Int) < N := by omega
              have e1 := tdiv_nat n np
              have e2 := tmod_nat n np
              have d1 : n / np ≤ n := Nat.div_le_self _ _
              have d2 : n % np ≤ n := Nat.mod_le _ _
              have d1i : ((n / np : Nat) : Int) ≤ 36 := by omega
              have d2i : ((n % np : Nat) : Int) ≤ 36 := by omega
              have d1z : (0 : Int) ≤ ((n / np : Nat) : Int) := Int.natCast_nonneg _
              have d2z : (0 : Int) ≤ ((n % np : Nat) : Int) := Int.natCast_nonneg _
              generalize n / np = d at *
              generalize n % np = m at *
              obtain ⟨rs, hrs⟩ : ∃ z, (G.read (d : Int) (m : Int)).1 = z := ⟨_, rfl⟩
              obtain ⟨re, hre⟩ : ∃ z, (G.read (d : Int) (m : Int)).2 = z := ⟨_, rfl⟩
              obtain ⟨V, hV⟩ : ∃ V : Int, (if (d : Int) < 0 ∨ (G.nb : Int) ≤ (d : Int) then (0 : Int) else ((G.blk (d : Int).toNat).wear : Int)) = V := ⟨_, rfl⟩
              have RC := hid (fun (wq : World) (f : FPair w p q p2 q2 g2 G G wq) => (show Calls Tryz.prog 27 #[.pointer (some ⟨p, 0, none⟩), .int .i64 d, .int .i64 m] wq fun e w' => e = .returned (.tuple #[.string rs, .int .i64 re]) ∧ wq = w' from by rw [← hrs, ← hre]; exact read_any p q _ _ wq G f.1))
              have RR := hid (fun (wq : World) (f : FPair w p q p2 q2 g2 G G wq) => (show Calls Tryz.prog 28 #[.pointer (some ⟨p2, 0, none⟩), .int .i64 d, .int .i64 m] wq fun e w' => e = .returned (.tuple #[.string rs, .int .i64 re]) ∧ Upd (fun _ => False) wq w' from by rw [← hrs, ← hre]; exact rread_any p2 q2 g2 _ _ wq G f.2.1))
              have WC := hid (fun (wq : World) (f : FPair w p q p2 q2 g2 G G wq) => (show Calls Tryz.prog 29 #[.pointer (some ⟨p, 0, none⟩), .int .i64 d] wq fun e w' => e = .returned (.int .i64 V) ∧ wq = w' from by rw [← hV]; exact wear_any p q _ wq G f.1))
              have WR := hid (fun (wq : World) (f : FPair w p q p2 q2 g2 G G wq) => (show Calls Tryz.prog 30 #[.pointer (some ⟨p2, 0, none⟩), .int .i64 d] wq fun e w' => e = .returned (.int .i64 V) ∧ wq = w' from by rw [← hV]; exact rwear_any p2 q2 g2 _ wq G f.2.1))
              clear hrs hre hV d1 d2
              have hv := fun q' : UW wr => RC.out q'.w (FPn.out.upd q'.u)
              go_upto_region 41 with (fail)
              refine region_upd (by kernel_rfl) (by kernel_rfl) ?_
              repeat (go_big_quiet_step ((go_at_call 27; with_reducible exact Calls.upd_same (hv _))))
              refine wpQuiet_nil ?_
              intro w7 hw1
              obtain ⟨pw, hpw⟩ := hw1
              have uq : Upd (fun _ => False) wr w7 := by rw [hpw]; exact pw.u
              clear hpw pw

              have FP7 := hid (FPn.out.upd uq)
              clear uq hv
              have hv := fun q' : UW w7 => RR.out q'.w (FP7.out.upd q'.u)
              go_upto_region 42 with (fail)
              refine region_upd (by kernel_rfl) (by kernel_rfl) ?_
              repeat (go_big_quiet_step ((go_at_call 28; with_reducible exact Calls.upd_of (hv _))))
              refine wpQuiet_nil ?_
              intro w8 hw1
              obtain ⟨pw, hpw⟩ := hw1
              have uq : Upd (fun _ => False) w7 w8 := by rw [hpw]; exact pw.u
              clear hpw pw

              have FP8 := hid (FP7.out.upd uq)
              clear uq hv
              have hv := fun q' : UW w8 => WC.out q'.w (FP8.out.upd q'.u)
              have hv2 := fun q' : UW w8 => WR.out q'.w (FP8.out.upd q'.u)
              go_upto_region 43 with (fail)
              refine region_upd (by kernel_rfl) (by kernel_rfl) ?_
              repeat (go_big_quiet_step ((first | (go_at_call 29; with_reducible exact Calls.upd_same (hv _)) | (go_at_call 30; with_reducible exact Calls.upd_same (hv2 _)))))
              refine wpQuiet_nil ?_
              intro w9 hw1
              obtain ⟨pw, hpw⟩ := hw1
              have uq : Upd (fun _ => False) w8 w9 := by rw [hpw]; exact pw.u
              clear hpw pw

              have FP9 := hid (FP8.out.upd uq)
              clear uq hv hv2
              go_wp2_with fail
              go_roundg (N - (n + 1))
              case measure => have := HG.out; omega
              case rel => exact ⟨n + 1, hlt, rfl, by go_num, FP9.out⟩
          have hlti : (i : Int) < l.length := by omega
          obtain ⟨b, of, rfl, hb, hE⟩ := EL.out (by omega)
          have hE := hE.keep (Same.of_upd FP.out.2.2.2.2.2.2 fun _ _ => id) hb
          obtain ⟨⟨e0, e1, e2, e3⟩, ok⟩ := opS_cells hE hlt
          have OKO := hid ok
          generalize l[i] = op at *
          obtain ⟨kd, on, kp, os⟩ := op
          dsimp only at e0 e1 e2 e3
          clear hE ok
          go_upto_region 16 with (fail)
          obtain ⟨wa, hwa⟩ : ∃ wa, wr.alloc (.cells #[.int .i64 kd, .int .i64 on, .int .i64 kp, .string ⟨os.toArray⟩] 39 (0, 0)) = wa := ⟨_, rfl⟩
          have ua : Upd (fun _ => False) wr wa := by rw [← hwa]; exact (Upd.refl _ _).alloc _
          have hba : wa.heap[wr.heap.size]? = some (.cells #[.int .i64 kd, .int .i64 on, .int .i64 kp, .string ⟨os.toArray⟩] 39 (0, 0)) := by rw [← hwa]; exact heap_alloc_new
          obtain ⟨ob, hob⟩ : ∃ ob, wr.heap.size = ob := ⟨_, rfl⟩
          have PNE := hid (show ob ≠ p ∧ ob ≠ p2 from by
            obtain ⟨cap, hh⟩ := FP.out.1.head
            have h1 := heap_lt hh
            have h2 := FP.out.2.1.lt.1
            omega)
          rw [hwa]
          try rw [hob]
          rw [hob] at hba
          have FPA := hid (FP.out.upd ua)
          have BO := hid hba
          have cell := hid (fun (wq : World) (e : wq.heap[ob]? = wa.heap[ob]?) => (show wq.cell? ⟨ob, 0, none⟩ = some (.int .i64 kd) ∧ wq.cell? ⟨ob, 1, none⟩ = some (.int .i64 on) ∧ wq.cell? ⟨ob, 2, none⟩ = some (.int .i64 kp) ∧ wq.cell? ⟨ob, 3, none⟩ = some (.string ⟨os.toArray⟩) from by
            have hb := e.trans BO.out
            refine ⟨?_, ?_, ?_, ?_⟩ <;> rw [cell_of_block hb] <;> rfl))
          obtain ⟨z0, z1, z2, z3⟩ := cell.out wa rfl
          clear hwa ua hba hob e0 e1 e2 e3
          by_cases hk : kd = 0
          case pos =>
            subst hk
            go_wp2_with fail
            go_roundg (l.length - (i + 1))
            case measure => have := HG.out; omega
            case rel => exact ⟨i + 1, F, rfl, rfl, rfl, rfl, by go_num, hlt, rfl, FPA.out, HN.out⟩
          have hkb : (kd == 0) = false := beq_eq_false_iff_ne.2 hk
          by_cases hk1 : kd = 1
          case pos =>
            subst hk1
            go_wp2_with fail
            go_roundg (l.length - (i + 1))
            case measure => have := HG.out; omega
            case rel => exact ⟨i + 1, F, rfl, rfl, rfl, rfl, by go_num, hlt, rfl, FPA.out, HN.out⟩
          have hk1b : (kd == 1) = false := beq_eq_false_iff_ne.2 hk1
          have KC := hid (shakes_at FPA.out.1 ⟨kd, on, kp, os⟩ OKO.out)
          have KR := hid (fun (wq : World) (f : RefAt wq p2 q2 g2 F) => rshaken_any f ⟨kd, on, kp, os⟩ OKO.out)
          obtain ⟨s1, _, _⟩ := shake_does FPA.out.1.ok OKO.out
          have SN := hid (s1.nb.trans HN.out); have SNF := hid s1.nb
          obtain ⟨G, hG⟩ : ∃ G, shakeP F ⟨kd, on, kp, os⟩ = G := ⟨_, rfl⟩
          rw [hG] at KC KR SN SNF
          clear s1 hG
          dsimp only at KC KR
          have tail : True := trivial
          by_cases h45 : kd = 4 ∨ kd = 5
          case pos =>
            rcases h45 with rfl | rfl
            · clear hk hkb hk1 hk1b
              go_wp2_with fail
              refine KC.out.mono ?_
              rintro e w7 ⟨rfl, f7, u7⟩
              have FP7 := hid (FPA.out.left f7 u7)
              have E7 := hid (u7.block ob (heap_lt BO.out) (fun e => PNE.out.1 e))
              clear f7 u7 z0 z1 z2 z3
              obtain ⟨z0, z1, z2, z3⟩ := cell.out w7 E7.out
              go_wp2_with fail
              refine (KR.out _ FP7.out.2.1).mono ?_
              rintro e w8 ⟨rfl, f8, u8⟩
              have FP8 := hid (FP7.out.right f8 SNF.out u8)
              have E8 := hid ((u8.block ob (heap_lt (E7.out.trans BO.out)) (fun e => PNE.out.2 e)).trans E7.out)
              clear f8 u8 z0 z1 z2 z3
              obtain ⟨z0, z1, z2, z3⟩ := cell.out w8 E8.out
              go_wp2_with fail
              refine (OC.out _ _ FP8.out SN.out).mono ?_
              rintro e w10 ⟨rfl, u10⟩
              have FP10 := hid (FP8.out.upd u10)
              clear u10 z0 z1 z2 z3
              go_wp2_with fail
              refine (OR.out _ _ FP10.out SN.out).mono ?_
              rintro e w11 ⟨rfl, u11⟩
              have FP11 := hid (FP10.out.upd u11)
              clear u11
              go_upto_region 29 with (fail)
              have DC := hid (fun q' : UW w11 => down_any p q q'.w G (FP11.out.upd q'.u).1)
              obtain ⟨capd, ⟨d0, d1, d2, d3, d4, d5⟩, _⟩ := FP11.out.2.1.cells
              obtain ⟨gd, hgd⟩ : ∃ gd, G.down = gd := ⟨_, rfl⟩
              rw [hgd] at DC d2
              have ec2 := fun p : UW w11 => p.cell d2
              have hv := DC.out
              clear d0 d1 d2 d3 d4 d5 hgd DC
              refine region_upd (by kernel_rfl) (by kernel_rfl) ?_
              repeat (go_big_quiet_step ((go_at_call 11; with_reducible exact Calls.upd_same (hv _))))
              refine wpQuiet_nil ?_
              intro w9 hw1
              obtain ⟨pw, hpw⟩ := hw1
              have uq : Upd (fun _ => False) w11 w9 := by rw [hpw]; exact pw.u
              clear hpw pw
              have FP9 := hid (FP11.out.upd uq)
              clear uq hv ec2
              go_wp2_with fail
              go_roundg (l.length - (i + 1))
              case measure => have := HG.out; omega
              case rel => exact ⟨i + 1, G, rfl, rfl, rfl, rfl, by go_num, hlt, rfl, FP9.out, SN.out⟩
            · clear hk hkb hk1 hk1b
              go_wp2_with fail
              refine KC.out.mono ?_
              rintro e w7 ⟨rfl, f7, u7⟩
              have FP7 := hid (FPA.out.left f7 u7)
              have E7 := hid (u7.block ob (heap_lt BO.out) (fun e => PNE.out.1 e))
              clear f7 u7 z0 z1 z2 z3
              obtain ⟨z0, z1, z2, z3⟩ := cell.out w7 E7.out
              go_wp2_with fail
              refine (KR.out _ FP7.out.2.1).mono ?_
              rintro e w8 ⟨rfl, f8, u8⟩
              have FP8 := hid (FP7.out.right f8 SNF.out u8)
              have E8 := hid ((u8.block ob (heap_lt (E7.out.trans BO.out)) (fun e => PNE.out.2 e)).trans E7.out)
              clear f8 u8 z0 z1 z2 z3
              obtain ⟨z0, z1, z2, z3⟩ := cell.out w8 E8.out
              go_wp2_with fail
              refine (OC.out _ _ FP8.out SN.out).mono ?_
              rintro e w10 ⟨rfl, u10⟩
              have FP10 := hid (FP8.out.upd u10)
              clear u10 z0 z1 z2 z3
              go_wp2_with fail
              refine (OR.out _ _ FP10.out SN.out).mono ?_
              rintro e w11 ⟨rfl, u11⟩
              have FP11 := hid (FP10.out.upd u11)
              clear u11
              go_upto_region 29 with (fail)
              have DC := hid (fun q' : UW w11 => down_any p q q'.w G (FP11.out.upd q'.u).1)
              obtain ⟨capd, ⟨d0, d1, d2, d3, d4, d5⟩, _⟩ := FP11.out.2.1.cells
              obtain ⟨gd, hgd⟩ : ∃ gd, G.down = gd := ⟨_, rfl⟩
              rw [hgd] at DC d2
              have ec2 := fun p : UW w11 => p.cell d2
              have hv := DC.out
              clear d0 d1 d2 d3 d4 d5 hgd DC
              refine region_upd (by kernel_rfl) (by kernel_rfl) ?_
              repeat (go_big_quiet_step ((go_at_call 11; with_reducible exact Calls.upd_same (hv _))))
              refine wpQuiet_nil ?_
              intro w9 hw1
              obtain ⟨pw, hpw⟩ := hw1
              have uq : Upd (fun _ => False) w11 w9 := by rw [hpw]; exact pw.u
              clear hpw pw
              have FP9 := hid (FP11.out.upd uq)
              clear uq hv ec2
              go_wp2_with fail
              go_roundg (l.length - (i + 1))
              case measure => have := HG.out; omega
              case rel => exact ⟨i + 1, G, rfl, rfl, rfl, rfl, by go_num, hlt, rfl, FP9.out, SN.out⟩
          have h4 : ¬ kd = 4 := fun e => h45 (.inl e)
          have h5 : ¬ kd = 5 := fun e => h45 (.inr e)
          have g4 : (kd == 4) = false := beq_eq_false_iff_ne.2 h4
          have g5 : (kd == 5) = false := beq_eq_false_iff_ne.2 h5
          clear h45
          go_wp2_with fail
          refine KC.out.mono ?_
          rintro e w7 ⟨rfl, f7, u7⟩
          have FP7 := hid (FPA.out.left f7 u7)
          have E7 := hid (u7.block ob (heap_lt BO.out) (fun e => PNE.out.1 e))
          clear f7 u7 z0 z1 z2 z3
          obtain ⟨z0, z1, z2, z3⟩ := cell.out w7 E7.out
          go_wp2_with fail
          refine (KR.out _ FP7.out.2.1).mono ?_
          rintro e w8 ⟨rfl, f8, u8⟩
          have FP8 := hid (FP7.out.right f8 SNF.out u8)
          have E8 := hid ((u8.block ob (heap_lt (E7.out.trans BO.out)) (fun e => PNE.out.2 e)).trans E7.out)
          clear f8 u8 z0 z1 z2 z3
          obtain ⟨z0, z1, z2, z3⟩ := cell.out w8 E8.out
          go_upto_region 29 with (fail)
          have DC := hid (fun q' : UW w8 => down_any p q q'.w G (FP8.out.upd q'.u).1)
          obtain ⟨capd, ⟨d0, d1, d2, d3, d4, d5⟩, _⟩ := FP8.out.2.1.cells
          obtain ⟨gd, hgd⟩ : ∃ gd, G.down = gd := ⟨_, rfl⟩
          rw [hgd] at DC d2
          have ec2 := fun p : UW w8 => p.cell d2
          have hv := DC.out
          clear d0 d1 d2 d3 d4 d5 hgd DC
          refine region_upd (by kernel_rfl) (by kernel_rfl) ?_
          repeat (go_big_quiet_step ((go_at_call 11; with_reducible exact Calls.upd_same (hv _))))
          refine wpQuiet_nil ?_
          intro w9 hw1
          obtain ⟨pw, hpw⟩ := hw1
          have uq : Upd (fun _ => False) w8 w9 := by rw [hpw]; exact pw.u
          clear hpw pw
          have FP9 := hid (FP8.out.upd uq)
          clear uq hv ec2
          go_wp2_with fail
          go_roundg (l.length - (i + 1))
          case measure => have := HG.out; omega
          case rel => exact ⟨i + 1, G, rfl, rfl, rfl, rfl, by go_num, hlt, rfl, FP9.out, SN.out⟩
    obtain ⟨so1, so2, so3, so4⟩ := (tidy_new (nb := nb) (np := np) ⟨h2, by have := HB.out; omega⟩ ⟨HP.out.1, by have := HP.out; omega⟩).sopen (Nat.zero_le _)
    have OC := hid (fpair_open FP.out so1 so2 so3 so4 HE.out HZ.out (new_open ⟨h2, by have := HB.out; omega⟩ ⟨HP.out.1, by have := HP.out; omega⟩))
    have OR := hid (fun (wq : World) (x : Nat) (O : Nat → Prop) (f : FPair w p q p2 q2 g2 (Fl.new nb np) (Fl.new nb np) wq) (sh : Shop w wq O p q (Fl.new nb np) x ⟨0, 0, [], []⟩) (ho : ∀ k, Foot p2 q2 g2 (Fl.new nb np).nb k → ¬ O k) => fpair_ropen f sh ho so1 so2 so3 so4 (new_open ⟨h2, by have := HB.out; omega⟩ ⟨HP.out.1, by have := HP.out; omega⟩))
    have H2 := hid h2
    clear so1 so2 so3 so4 h2
    go_wp2_with fail
    refine OC.out.mono ?_
    rintro e w5 ⟨x, rfl, fp5, O5, sh5, ho5⟩
    have FP5 := hid fp5; have SH5 := hid sh5; have HO5 := hid ho5
    clear OC fp5 sh5 ho5
    go_wp2_with fail
    refine (OR.out _ _ _ FP5.out SH5.out HO5.out).mono ?_
    rintro e w6 ⟨x2, z, rfl, pr6⟩
    have START := hid (show TellsAt w nb np p q p2 q2 g2 0 (.pointer (some ⟨x, 0, none⟩)) (.int .i64 0) (.pointer (some ⟨x2, 0, none⟩)) (.int .i64 0) w6 from
      ⟨x, x2, z, _, _, 0, 0, [], rfl, rfl, rfl, rfl, pr6, lasts_new ⟨H2.out, HB.out.2⟩ HP.out⟩)
    clear OR pr6 FP5 SH5 HO5 FP
    go_wp2_with fail
    go_loopg [16, 17, 18, 19, 20] l.length (fun gg s16 s17 s18 s19 s20 wr => ∃ i : Nat, s20 = .int .i64 i ∧ i ≤ l.length ∧ gg = l.length - i ∧ TellsAt w nb np p q p2 q2 g2 i s16 s17 s18 s19 wr)
    case atStart => exact ⟨0, rfl, Nat.zero_le _, rfl, START.out⟩
    case round =>
      clear START
      obtain ⟨i, rfl, hil, hg, x1, x2, z, F, S, ev, second, other, rfl, rfl, rfl, rfl, pr, la⟩ := hrel
      have HG := hid hg; have PR := hid pr; have LA := hid la
      clear hg pr la
      have I40 := hid (show i ≤ 40 from by have := HL40.out; omega)
      by_cases hlt : i < l.length
      case neg =>
        have hlti : ¬ (i : Int) < l.length := by omega
        have FP := hid PR.out.flashes
        as_aux_lemma =>
          go_wp2_with fail
          refine (start_any p q wr F FP.out.1).mono ?_
          rintro e w5 ⟨rfl, f5, u5⟩
          have FP5 := hid (FP.out.left f5 u5)
          clear f5 u5
          go_wp2_with fail
          refine (rstart_any p2 q2 g2 w5 F FP5.out.2.1).mono ?_
          rintro e w6 ⟨rfl, f6, u6⟩
          have FP6 := hid (FP5.out.right f6 rfl u6)
          clear f6 u6 FP5
          obtain ⟨G, hG⟩ : ∃ G, F.start = G := ⟨_, rfl⟩
          rw [hG] at FP6
          clear hG
          go_wp2_with fail
          go_loopg [26] N (fun gg s26 wx => ∃ n : Nat, n ≤ N ∧ gg = N - n ∧ s26 = .int .i64 n ∧ FPair w p q p2 q2 g2 G G wx)
          case atStart => exact ⟨0, Nat.zero_le _, rfl, rfl, FP6.out⟩
          case round =>
            obtain ⟨n, hn, hg, rfl, hfp⟩ := hrel
            have HG := hid hg; have FPn := hid hfp
            clear hg hfp
            by_cases hlt : n < N
            case neg =>
              have hlti : ¬ (n : Int) < N := by omega
              go_wp2_with fail
              go_ret
              exact ⟨rfl, FPn.out.2.2.2.2.2.2⟩
            have hlti : (n : Int) < N := by omega
            have e1 := tdiv_nat n np
            have e2 := tmod_nat n np
            have d1 : n / np ≤ n := Nat.div_le_self _ _
            have d2 : n % np ≤ n := Nat.mod_le _ _
            have d1i : ((n / np : Nat) : Int) ≤ 36 := by omega
            have d2i : ((n % np : Nat) : Int) ≤ 36 := by omega
            have d1z : (0 : Int) ≤ ((n / np : Nat) : Int) := Int.natCast_nonneg _
            have d2z : (0 : Int) ≤ ((n % np : Nat) : Int) := Int.natCast_nonneg _
            generalize n / np = d at *
            generalize n % np = m at *
            obtain ⟨rs, hrs⟩ : ∃ z, (G.read (d : Int) (m : Int)).1 = z := ⟨_, rfl⟩
            obtain ⟨re, hre⟩ : ∃ z, (G.read (d : Int) (m : Int)).2 = z := ⟨_, rfl⟩
            obtain ⟨V, hV⟩ : ∃ V : Int, (if (d : Int) < 0 ∨ (G.nb : Int) ≤ (d : Int) then (0 : Int) else ((G.blk (d : Int).toNat).wear : Int)) = V := ⟨_, rfl⟩
            have RC := hid (fun (wq : World) (f : FPair w p q p2 q2 g2 G G wq) => (show Calls Tryz.prog 27 #[.pointer (some ⟨p, 0, none⟩), .int .i64 d, .int .i64 m] wq fun e w' => e = .returned (.tuple #[.string rs, .int .i64 re]) ∧ wq = w' from by rw [← hrs, ← hre]; exact read_any p q _ _ wq G f.1))
            have RR := hid (fun (wq : World) (f : FPair w p q p2 q2 g2 G G wq) => (show Calls Tryz.prog 28 #[.pointer (some ⟨p2, 0, none⟩), .int .i64 d, .int .i64 m] wq fun e w' => e = .returned (.tuple #[.string rs, .int .i64 re]) ∧ Upd (fun _ => False) wq w' from by rw [← hrs, ← hre]; exact rread_any p2 q2 g2 _ _ wq G f.2.1))
            have WC := hid (fun (wq : World) (f : FPair w p q p2 q2 g2 G G wq) => (show Calls Tryz.prog 29 #[.pointer (some ⟨p, 0, none⟩), .int .i64 d] wq fun e w' => e = .returned (.int .i64 V) ∧ wq = w' from by rw [← hV]; exact wear_any p q _ wq G f.1))
            have WR := hid (fun (wq : World) (f : FPair w p q p2 q2 g2 G G wq) => (show Calls Tryz.prog 30 #[.pointer (some ⟨p2, 0, none⟩), .int .i64 d] wq fun e w' => e = .returned (.int .i64 V) ∧ wq = w' from by rw [← hV]; exact rwear_any p2 q2 g2 _ wq G f.2.1))
            clear hrs hre hV d1 d2
            have hv := fun q' : UW wr => RC.out q'.w (FPn.out.upd q'.u)
            go_upto_region 41 with (fail)
            refine region_upd (by kernel_rfl) (by kernel_rfl) ?_
            repeat (go_big_quiet_step ((go_at_call 27; with_reducible exact Calls.upd_same (hv _))))
            refine wpQuiet_nil ?_
            intro w7 hw1
            obtain ⟨pw, hpw⟩ := hw1
            have uq : Upd (fun _ => False) wr w7 := by rw [hpw]; exact pw.u
            clear hpw pw

            have FP7 := hid (FPn.out.upd uq)
            clear uq hv
            have hv := fun q' : UW w7 => RR.out q'.w (FP7.out.upd q'.u)
            go_upto_region 42 with (fail)
            refine region_upd (by kernel_rfl) (by kernel_rfl) ?_
            repeat (go_big_quiet_step ((go_at_call 28; with_reducible exact Calls.upd_of (hv _))))
            refine wpQuiet_nil ?_
            intro w8 hw1
            obtain ⟨pw, hpw⟩ := hw1
            have uq : Upd (fun _ => False) w7 w8 := by rw [hpw]; exact pw.u
            clear hpw pw

            have FP8 := hid (FP7.out.upd uq)
            clear uq hv
            have hv := fun q' : UW w8 => WC.out q'.w (FP8.out.upd q'.u)
            have hv2 := fun q' : UW w8 => WR.out q'.w (FP8.out.upd q'.u)
            go_upto_region 43 with (fail)
            refine region_upd (by kernel_rfl) (by kernel_rfl) ?_
            repeat (go_big_quiet_step ((first | (go_at_call 29; with_reducible exact Calls.upd_same (hv _)) | (go_at_call 30; with_reducible exact Calls.upd_same (hv2 _)))))
            refine wpQuiet_nil ?_
            intro w9 hw1
            obtain ⟨pw, hpw⟩ := hw1
            have uq : Upd (fun _ => False) w8 w9 := by rw [hpw]; exact pw.u
            clear hpw pw

            have FP9 := hid (FP8.out.upd uq)
            clear uq hv hv2
            go_wp2_with fail
            go_roundg (N - (n + 1))
            case measure => have := HG.out; omega
            case rel => exact ⟨n + 1, hlt, rfl, by go_num, FP9.out⟩
      have hlti : (i : Int) < l.length := by omega
      obtain ⟨b, of, rfl, hb, hE⟩ := EL.out (by omega)
      have hE := hE.keep (Same.of_upd PR.out.old fun _ _ => id) hb
      obtain ⟨⟨e0, e1, e2, e3⟩, ok⟩ := opS_cells hE hlt
      have OKO := hid ok; have HSO := hid (HS.out _ (List.getElem_mem hlt))
      generalize l[i] = op at *
      obtain ⟨kd, on, kp, os⟩ := op
      dsimp only at e0 e1 e2 e3 HSO
      have HSO := hid (show os.length ≤ 300 from HSO.out)
      clear hE ok
      have STOK := hid (LA.out.bnd.ok (by have := I40.out; omega) (by have := I40.out; omega))
      have J1 := hid (show 400 * i ≤ 900000 ∧ i ≤ 900000 ∧ i ≤ 800 from by have := I40.out; omega)
      go_upto_region 16 with (fail)
      obtain ⟨wa, hwa⟩ : ∃ wa, wr.alloc (.cells #[.int .i64 kd, .int .i64 on, .int .i64 kp, .string ⟨os.toArray⟩] 39 (0, 0)) = wa := ⟨_, rfl⟩
      have ua : Upd (fun _ => False) wr wa := by rw [← hwa]; exact (Upd.refl _ _).alloc _
      have hba : wa.heap[wr.heap.size]? = some (.cells #[.int .i64 kd, .int .i64 on, .int .i64 kp, .string ⟨os.toArray⟩] 39 (0, 0)) := by rw [← hwa]; exact heap_alloc_new
      obtain ⟨ob, hob⟩ : ∃ ob, wr.heap.size = ob := ⟨_, rfl⟩
      have PNE := hid (show ob ≠ p ∧ ob ≠ p2 from by
        obtain ⟨cap, hh⟩ := PR.out.flashes.1.head
        have h1 := heap_lt hh
        have h2 := PR.out.flashes.2.1.lt.1
        omega)
      rw [hwa]
      try rw [hob]
      rw [hob] at hba
      have PRA := hid (show Pair w p q p2 q2 g2 x1 x2 ob F S F S wa from by rw [← hob]; exact PR.out.again.upd ua)
      have BO := hid hba
      have cell := hid (fun (wq : World) (e : wq.heap[ob]? = wa.heap[ob]?) => (show wq.cell? ⟨ob, 0, none⟩ = some (.int .i64 kd) ∧ wq.cell? ⟨ob, 1, none⟩ = some (.int .i64 on) ∧ wq.cell? ⟨ob, 2, none⟩ = some (.int .i64 kp) ∧ wq.cell? ⟨ob, 3, none⟩ = some (.string ⟨os.toArray⟩) from by
        have hb := e.trans BO.out
        refine ⟨?_, ?_, ?_, ?_⟩ <;> rw [cell_of_block hb] <;> rfl))
      obtain ⟨z0, z1, z2, z3⟩ := cell.out wa rfl
      clear hwa ua hba hob e0 e1 e2 e3
      by_cases hk : kd = 0
      case pos =>
        as_aux_lemma =>
          subst hk
          have DC := hid (down_any p q wa F PRA.out.flashes.1)
          cases hd : F.down with
          | true =>
            rw [hd] at DC
            have NXT := hid (show TellsAt w nb np p q p2 q2 g2 (i + 1) (.pointer (some ⟨x1, 0, none⟩)) (.int .i64 ev) (.pointer (some ⟨x2, 0, none⟩)) (.int .i64 ev) wa from
              ⟨x1, x2, ob, F, S, ev, second, other, rfl, rfl, rfl, rfl, PRA.out, LA.out.wide (Nat.le_succ i)⟩)
            clear hd
            go_wp2_with fail
            refine DC.out.mono ?_
            rintro e w5 ⟨rfl, rfl⟩
            go_wp2_with fail
            go_roundg (l.length - (i + 1))
            case measure => have := HG.out; omega
            case rel => exact ⟨i + 1, by go_num, hlt, rfl, NXT.out⟩
          | false =>
            rw [hd] at DC
            have LV := hid (LA.out.up hd); have HD := hid hd
            clear hd
            obtain ⟨R, hR⟩ : ∃ R, appendP F S os = R := ⟨_, rfl⟩
            have DN := hid (append_done (o := ⟨0, on, kp, os⟩) LV.out LA.out.bnd J1.out.1 J1.out.2.1 rfl HSO.out hR)
            have AC := hid (pair_append PRA.out (heap_lt BO.out) STOK.out HE.out HZ.out HD.out os (Nat.le_trans HSO.out (by decide)) hR)
            have AR := hid (fun (wq : World) (G : Fl) (T : St) (hzl : ob < wq.heap.size) (pr : Pair w p q p2 q2 g2 x1 x2 ob G T F S wq) => pair_rappend pr hzl STOK.out HD.out os (Nat.le_trans HSO.out (by decide)) hR)
            obtain ⟨G, T, er⟩ := R
            dsimp only at DN AC AR
            clear hR
            go_wp2_with fail
            refine DC.out.mono ?_
            rintro e w5 ⟨rfl, rfl⟩
            clear DC
            go_wp2_with fail
            refine AC.out.mono ?_
            rintro e w6 ⟨rfl, pr6, e6⟩
            have PR6 := hid pr6; have E6 := hid e6
            clear pr6 e6 AC z0 z1 z2 z3
            obtain ⟨z0, z1, z2, z3⟩ := cell.out w6 E6.out
            go_wp2_with fail
            refine (AR.out _ _ _ (heap_lt (E6.out.trans BO.out)) PR6.out).mono ?_
            rintro e w7 ⟨rfl, pr7, e7⟩
            have PRN := hid pr7; have E7 := hid (e7.trans E6.out)
            clear pr7 e7 AR z0 z1 z2 z3 PR6
            obtain ⟨z0, z1, z2, z3⟩ := cell.out w7 E7.out
            obtain ⟨sec', oth', lan⟩ := LA.out.called (o := ⟨0, on, kp, os⟩) (.inl rfl) HSO.out DN.out PRN.out.flashes.1.ok
            have LAN := hid lan
            have OKN := hid (LAN.out.bnd.ok (by have := I40.out; omega) (by have := I40.out; omega))
            clear lan DN
            go_upto_region 29 with (fail)
            clear z0 z1 z2 z3
            have DC := hid (fun q' : UW w7 => down_any p q q'.w G (PRN.out.flashes.upd q'.u).1)
            obtain ⟨capd, ⟨d0, d1, d2, d3, d4, d5⟩, _⟩ := PRN.out.flashes.2.1.cells
            obtain ⟨gd, hgd⟩ : ∃ gd, G.down = gd := ⟨_, rfl⟩
            rw [hgd] at DC d2
            have ec2 := fun p : UW w7 => p.cell d2
            have hv := DC.out
            clear d0 d1 d2 d3 d4 d5 hgd DC
            refine region_upd (by kernel_rfl) (by kernel_rfl) ?_
            repeat (go_big_quiet_step ((go_at_call 11; with_reducible exact Calls.upd_same (hv _))))
            refine wpQuiet_nil ?_
            intro w9 hw1
            obtain ⟨pw, hpw⟩ := hw1
            have uq : Upd (fun _ => False) w7 w9 := by rw [hpw]; exact pw.u
            clear hpw pw
            have PR9 := hid (PRN.out.upd uq)
            clear uq hv ec2 PRN
            obtain ⟨R, hR⟩ : ∃ R, getP T i0 = R := ⟨_, rfl⟩
            have GC := hid (pair_get PR9.out OKN.out i0 I0.out hR)
            have GR := hid (fun (wq : World) (pr : Pair w p q p2 q2 g2 x1 x2 ob G T G T wq) => pair_rget pr OKN.out i0 I0.out hR)
            obtain ⟨rs, rb⟩ := R
            dsimp only at GC GR
            clear hR
            go_wp2_with fail
            refine GC.out.mono ?_
            rintro e w10 ⟨rfl, u10⟩
            have PR10 := hid (PR9.out.upd u10)
            clear u10 GC
            go_wp2_with fail
            refine (GR.out _ PR10.out).mono ?_
            rintro e w11 ⟨rfl, u11⟩
            have PR11 := hid (PR10.out.upd u11)
            clear u11 GR PR9 PR10
            obtain ⟨ah, ch, hh⟩ := PR11.out.rhead
            have HH := hid hh
            clear hh
            go_upto_region 34 with (fail)
            refine wp_region_g (fun w' => w'.cell? ⟨x2, 3, none⟩ = some (.int .i64 T.first) ∧ w'.cell? ⟨x2, 5, none⟩ = some (.slice ah T.recs.length ch)) 33 (by kernel_rfl) ?_
            obtain ⟨Wd, hWd⟩ : ∃ Wd, w11.drew = Wd := ⟨_, rfl⟩
            have UD := hid (show Upd (fun _ => False) w11 Wd by rw [← hWd]; exact (Upd.refl _ _).drew)
            rw [hWd]
            clear hWd
            have hS := (HH.out Wd UD.out).1
            refine g_take0 (i := 0) rfl (by kernel_rfl) (by kernel_rfl) (by kernel_rfl) (by decide) (fun _ _ _ h => h) (Or.inl ⟨by kernel_rfl, by (intro w _; go_simp; try with_reducible rfl)⟩) (fun _ => hS) ?_
            (try simp only [List.getElem_toArray, List.getElem_cons_zero])
            (try go_frame)
            refine g_take0 (i := 2) rfl (by kernel_rfl) (by kernel_rfl) (by kernel_rfl) (by decide) (fun _ _ _ h => h) (Or.inl ⟨by kernel_rfl, by (intro w _; go_simp; try with_reducible rfl)⟩) (fun _ => hS) ?_
            (try simp only [List.getElem_toArray, List.getElem_cons_zero, List.getElem_cons_succ])
            (try go_frame)
            refine g_take0 (i := 3) rfl (by kernel_rfl) (by kernel_rfl) (by kernel_rfl) (by decide) (fun _ _ _ h => h) (Or.inl ⟨by kernel_rfl, by (intro w _; go_simp; try with_reducible rfl)⟩) (fun _ => hS) ?_
            (try simp only [List.getElem_toArray, List.getElem_cons_zero, List.getElem_cons_succ])
            (try go_frame)
            refine g_take0 (i := 4) rfl (by kernel_rfl) (by kernel_rfl) (by kernel_rfl) (by decide) (fun _ _ _ h => h) (Or.inl ⟨by kernel_rfl, by (intro w _; go_simp; try with_reducible rfl)⟩) (fun _ => hS) ?_
            (try simp only [List.getElem_toArray, List.getElem_cons_zero, List.getElem_cons_succ])
            (try go_frame)
            refine g_takeP [33, 29, 28, 24, 23, 14, 13, 7, 6] (i := 5) (v := .int .i64 T.first) rfl (by kernel_rfl) (by kernel_rfl) (by kernel_rfl) (by kernel_rfl) (fun _ _ _ h => h) (Or.inl ⟨by kernel_rfl, by (intro w hSw; (try dsimp only at hSw); obtain ⟨z0, z1⟩ := hSw; go_simp; try with_reducible rfl)⟩) hS ?_
            (try simp only [List.getElem_toArray, List.getElem_cons_zero, List.getElem_cons_succ])
            (try go_frame)
            refine g_op (i := 1) (by kernel_rfl) rfl ?_
            go_wp2_with fail
            refine (pair_first (PR11.out.upd UD.out)).mono ?_
            rintro e W1 ⟨rfl, rfl⟩
            go_wp2_with fail
            first | (refine ⟨fun _ => hS, ?_⟩) | (refine ⟨hS, ?_⟩)
            (try simp only [List.getElem_toArray, List.getElem_cons_zero, List.getElem_cons_succ])
            (try go_frame)
            refine g_take0 (i := 6) (v := .bool false) rfl (by kernel_rfl) (by kernel_rfl) (by kernel_rfl) (by decide) (fun _ _ _ h => h) (Or.inl ⟨by kernel_rfl, by (intro w _; go_simp; try with_reducible rfl)⟩) (fun _ => hS) ?_
            (try simp only [List.getElem_toArray, List.getElem_cons_zero, List.getElem_cons_succ])
            (try go_frame)
            refine g_take0 (i := 7) (v := .bool false) rfl (by kernel_rfl) (by kernel_rfl) (by kernel_rfl) (by decide) (fun _ _ _ h => h) (Or.inl ⟨by kernel_rfl, by (intro w _; go_simp; try with_reducible rfl)⟩) (fun _ => hS) ?_
            (try simp only [List.getElem_toArray, List.getElem_cons_zero, List.getElem_cons_succ])
            (try go_frame)
            refine g_take0 (i := 8) rfl (by kernel_rfl) (by kernel_rfl) (by kernel_rfl) (by decide) (fun _ _ _ h => h) (Or.inl ⟨by kernel_rfl, by (intro w _; go_simp; try with_reducible rfl)⟩) (fun _ => hS) ?_
            (try simp only [List.getElem_toArray, List.getElem_cons_zero, List.getElem_cons_succ])
            (try go_frame)
            refine g_take0 (i := 10) rfl (by kernel_rfl) (by kernel_rfl) (by kernel_rfl) (by decide) (fun _ _ _ h => h) (Or.inl ⟨by kernel_rfl, by (intro w _; go_simp; try with_reducible rfl)⟩) (fun _ => hS) ?_
            (try simp only [List.getElem_toArray, List.getElem_cons_zero, List.getElem_cons_succ])
            (try go_frame)
            refine g_want (i := 9) (by kernel_rfl) rfl (by kernel_rfl) ?_
            go_wp2_with fail
            refine (pair_len (PR11.out.upd UD.out) OKN.out).mono ?_
            rintro e W2 ⟨rfl, u_⟩
            have U2 := hid (UD.out.trans u_)
            clear u_ hS
            have hS2 := (HH.out _ U2.out).1
            go_wp2_with fail
            first | (refine ⟨fun _ => hS2, ?_⟩) | (refine ⟨hS2, ?_⟩)
            (try simp only [List.getElem_toArray, List.getElem_cons_zero, List.getElem_cons_succ])
            (try go_frame)
            refine g_want (i := 11) (by kernel_rfl) rfl (by kernel_rfl) ?_
            go_wp2_with fail
            refine (pair_rlen (PR11.out.upd U2.out) OKN.out).mono ?_
            rintro e W3 ⟨rfl, u_⟩
            have U3 := hid (U2.out.trans u_)
            clear u_ hS2
            have hS3 := (HH.out _ U3.out).1
            go_wp2_with fail
            first | (refine ⟨fun _ => hS3, ?_⟩) | (refine ⟨hS3, ?_⟩)
            (try simp only [List.getElem_toArray, List.getElem_cons_zero, List.getElem_cons_succ])
            (try go_frame)
            refine g_take0 (i := 12) (v := .bool false) rfl (by kernel_rfl) (by kernel_rfl) (by kernel_rfl) (by decide) (fun _ _ _ h => h) (Or.inl ⟨by kernel_rfl, by (intro w _; go_simp; try with_reducible rfl)⟩) (fun _ => hS3) ?_
            (try simp only [List.getElem_toArray, List.getElem_cons_zero, List.getElem_cons_succ])
            (try go_frame)
            refine g_take0 (i := 13) (v := .bool false) rfl (by kernel_rfl) (by kernel_rfl) (by kernel_rfl) (by decide) (fun _ _ _ h => h) (Or.inl ⟨by kernel_rfl, by (intro w _; go_simp; try with_reducible rfl)⟩) (fun _ => hS3) ?_
            (try simp only [List.getElem_toArray, List.getElem_cons_zero, List.getElem_cons_succ])
            (try go_frame)
            refine g_take0 (i := 14) rfl (by kernel_rfl) (by kernel_rfl) (by kernel_rfl) (by decide) (fun _ _ _ h => h) (Or.inl ⟨by kernel_rfl, by (intro w _; go_simp; try with_reducible rfl)⟩) (fun _ => hS3) ?_
            (try simp only [List.getElem_toArray, List.getElem_cons_zero, List.getElem_cons_succ])
            (try go_frame)
            refine g_take0 (i := 15) rfl (by kernel_rfl) (by kernel_rfl) (by kernel_rfl) (by decide) (fun _ _ _ h => h) (Or.inl ⟨by kernel_rfl, by (intro w _; go_simp; try with_reducible rfl)⟩) (fun _ => hS3) ?_
            (try simp only [List.getElem_toArray, List.getElem_cons_zero, List.getElem_cons_succ])
            (try go_frame)
            refine g_take0 (i := 17) rfl (by kernel_rfl) (by kernel_rfl) (by kernel_rfl) (by decide) (fun _ _ _ h => h) (Or.inl ⟨by kernel_rfl, by (intro w _; go_simp; try with_reducible rfl)⟩) (fun _ => hS3) ?_
            (try simp only [List.getElem_toArray, List.getElem_cons_zero, List.getElem_cons_succ])
            (try go_frame)
            refine g_take0 (i := 18) rfl (by kernel_rfl) (by kernel_rfl) (by kernel_rfl) (by decide) (fun _ _ _ h => h) (Or.inl ⟨by kernel_rfl, by (intro w _; go_simp; try with_reducible rfl)⟩) (fun _ => hS3) ?_
            (try simp only [List.getElem_toArray, List.getElem_cons_zero, List.getElem_cons_succ])
            (try go_frame)
            refine g_take0 (i := 19) rfl (by kernel_rfl) (by kernel_rfl) (by kernel_rfl) (by decide) (fun _ _ _ h => h) (Or.inl ⟨by kernel_rfl, by (intro w _; go_simp; try with_reducible rfl)⟩) (fun _ => hS3) ?_
            (try simp only [List.getElem_toArray, List.getElem_cons_zero, List.getElem_cons_succ])
            (try go_frame)
            refine g_takeP [33, 29, 28, 24, 23, 22, 21] (i := 20) (v := .slice ah T.recs.length ch) rfl (by kernel_rfl) (by kernel_rfl) (by kernel_rfl) (by kernel_rfl) (fun _ _ _ h => h) (Or.inl ⟨by kernel_rfl, by (intro w hSw; (try dsimp only at hSw); obtain ⟨z0, z1⟩ := hSw; go_simp; try with_reducible rfl)⟩) hS3 ?_
            (try simp only [List.getElem_toArray, List.getElem_cons_zero, List.getElem_cons_succ])
            (try go_frame)
            refine g_want (i := 16) (by kernel_rfl) rfl (by kernel_rfl) ?_
            go_wp2_with fail
            refine (pair_all (PR11.out.upd U3.out) OKN.out).mono ?_
            rintro e W4 ⟨⟨a8, c8, rfl, o8, _⟩, u_⟩
            have U4 := hid (U3.out.trans u_); have O8 := hid o8
            clear u_ hS3 o8
            have hS4 := (HH.out _ U4.out).1
            have SC := hid (sameTexts_any _ _ T.recs T.recs W4 (OwnS.rep O8.out (fun x hx => Nat.le_trans (OKN.out.txt x hx) (by decide)) fun g hg => Own1.lt O8.out g hg) (OwnS.rep (HH.out _ U4.out).2 (fun x hx => Nat.le_trans (OKN.out.txt x hx) (by decide)) fun g hg => Own1.lt (HH.out _ U4.out).2 g hg))
            rw [show (T.recs == T.recs) = true from beq_self_eq_true _] at SC
            go_wp2_with fail
            first | (refine ⟨fun _ => hS4, ?_⟩) | (refine ⟨hS4, ?_⟩)
            (try simp only [List.getElem_toArray, List.getElem_cons_zero, List.getElem_cons_succ])
            (try go_frame)
            refine g_want (i := 21) (by kernel_rfl) rfl (by kernel_rfl) ?_
            go_wp2_with fail
            refine SC.out.mono ?_
            rintro e W5 ⟨rfl, u_⟩
            have U5 := hid (U4.out.trans u_)
            clear u_ hS4 SC O8
            have hS5 := (HH.out _ U5.out).1
            go_wp2_with fail
            first | (refine ⟨fun _ => hS5, ?_⟩) | (refine ⟨hS5, ?_⟩)
            (try simp only [List.getElem_toArray, List.getElem_cons_zero, List.getElem_cons_succ])
            (try go_frame)
            refine g_take0 (i := 22) (v := .bool false) rfl (by kernel_rfl) (by kernel_rfl) (by kernel_rfl) (by decide) (fun _ _ _ h => h) (Or.inl ⟨by kernel_rfl, by (intro w _; go_simp; try with_reducible rfl)⟩) (fun _ => hS5) ?_
            (try simp only [List.getElem_toArray, List.getElem_cons_zero, List.getElem_cons_succ])
            (try go_frame)
            refine g_take0 (i := 23) (v := .bool false) rfl (by kernel_rfl) (by kernel_rfl) (by kernel_rfl) (by decide) (fun _ _ _ h => h) (Or.inl ⟨by kernel_rfl, by (intro w _; go_simp; try with_reducible rfl)⟩) (fun _ => hS5) ?_
            (try simp only [List.getElem_toArray, List.getElem_cons_zero, List.getElem_cons_succ])
            (try go_frame)
            refine g_take0 (i := 24) rfl (by kernel_rfl) (by kernel_rfl) (by kernel_rfl) (by decide) (fun _ _ _ h => h) (Or.inl ⟨by kernel_rfl, by (intro w _; go_simp; try with_reducible rfl)⟩) (fun _ => hS5) ?_
            (try simp only [List.getElem_toArray, List.getElem_cons_zero, List.getElem_cons_succ])
            (try go_frame)
            refine g_take0 (i := 25) rfl (by kernel_rfl) (by kernel_rfl) (by kernel_rfl) (by decide) (fun _ _ _ h => h) (Or.inl ⟨by kernel_rfl, by (intro w _; go_simp; try with_reducible rfl)⟩) (fun _ => hS5) ?_
            (try simp only [List.getElem_toArray, List.getElem_cons_zero, List.getElem_cons_succ])
            (try go_frame)
            refine g_take0 (i := 26) rfl (by kernel_rfl) (by kernel_rfl) (by kernel_rfl) (by decide) (fun _ _ _ h => h) (Or.inl ⟨by kernel_rfl, by (intro w _; go_simp; try with_reducible rfl)⟩) (fun _ => hS5) ?_
            (try simp only [List.getElem_toArray, List.getElem_cons_zero, List.getElem_cons_succ])
            (try go_frame)
            refine g_take0 (i := 27) (v := .bool false) rfl (by kernel_rfl) (by kernel_rfl) (by kernel_rfl) (by decide) (fun _ _ _ h => h) (Or.inl ⟨by kernel_rfl, by (intro w _; go_simp; try with_reducible rfl)⟩) (fun _ => hS5) ?_
            (try simp only [List.getElem_toArray, List.getElem_cons_zero, List.getElem_cons_succ])
            (try go_frame)
            refine g_take0 (i := 28) (v := .bool false) rfl (by kernel_rfl) (by kernel_rfl) (by kernel_rfl) (by decide) (fun _ _ _ h => h) (Or.inl ⟨by kernel_rfl, by (intro w _; go_simp; try with_reducible rfl)⟩) (fun _ => hS5) ?_
            (try simp only [List.getElem_toArray, List.getElem_cons_zero, List.getElem_cons_succ])
            (try go_frame)
            refine g_take0 (i := 29) rfl (by kernel_rfl) (by kernel_rfl) (by kernel_rfl) (by decide) (fun _ _ _ h => h) (Or.inl ⟨by kernel_rfl, by (intro w _; go_simp; try with_reducible rfl)⟩) (fun _ => hS5) ?_
            (try simp only [List.getElem_toArray, List.getElem_cons_zero, List.getElem_cons_succ])
            (try go_frame)
            refine g_take0 (i := 30) rfl (by kernel_rfl) (by kernel_rfl) (by kernel_rfl) (by decide) (fun _ _ _ h => h) (Or.inl ⟨by kernel_rfl, by (intro w _; go_simp; try with_reducible rfl)⟩) (fun _ => hS5) ?_
            (try simp only [List.getElem_toArray, List.getElem_cons_zero, List.getElem_cons_succ])
            (try go_frame)
            refine g_take0 (i := 31) rfl (by kernel_rfl) (by kernel_rfl) (by kernel_rfl) (by decide) (fun _ _ _ h => h) (Or.inl ⟨by kernel_rfl, by (intro w _; go_simp; try with_reducible rfl)⟩) (fun _ => hS5) ?_
            (try simp only [List.getElem_toArray, List.getElem_cons_zero, List.getElem_cons_succ])
            (try go_frame)
            refine g_take0 (i := 32) (v := .bool false) rfl (by kernel_rfl) (by kernel_rfl) (by kernel_rfl) (by decide) (fun _ _ _ h => h) (Or.inl ⟨by kernel_rfl, by (intro w _; go_simp; try with_reducible rfl)⟩) (fun _ => hS5) ?_
            (try simp only [List.getElem_toArray, List.getElem_cons_zero, List.getElem_cons_succ])
            (try go_frame)
            refine g_op (i := 33) (by kernel_rfl) rfl ?_
            go_wp2_with fail
            refine ⟨fun h => (Bool.false_ne_true (h.symm.trans (by kernel_rfl))).elim, ?_⟩
            (try simp only [List.getElem_toArray, List.getElem_cons_zero, List.getElem_cons_succ])
            (try go_frame)
            refine g_done (by kernel_rfl) ?_
            have NXT := hid (show TellsAt w nb np p q p2 q2 g2 (i + 1) (.pointer (some ⟨x1, 0, none⟩)) (.int .i64 er) (.pointer (some ⟨x2, 0, none⟩)) (.int .i64 er) W5 from
              ⟨x1, x2, ob, G, T, er, sec', oth', rfl, rfl, rfl, rfl, PR11.out.upd U5.out, LAN.out⟩)
            clear hS5 HH
            go_wp2_with fail
            go_roundg (l.length - (i + 1))
            case measure => have := HG.out; omega
            case rel => exact ⟨i + 1, by go_num, hlt, rfl, NXT.out⟩
      have hkb : (kd == 0) = false := beq_eq_false_iff_ne.2 hk
      by_cases hk1 : kd = 1
      case pos =>
        as_aux_lemma =>
          subst hk1
          clear hkb
          have DC := hid (down_any p q wa F PRA.out.flashes.1)
          cases hd : F.down with
          | true =>
            rw [hd] at DC
            have NXT := hid (show TellsAt w nb np p q p2 q2 g2 (i + 1) (.pointer (some ⟨x1, 0, none⟩)) (.int .i64 ev) (.pointer (some ⟨x2, 0, none⟩)) (.int .i64 ev) wa from
              ⟨x1, x2, ob, F, S, ev, second, other, rfl, rfl, rfl, rfl, PRA.out, LA.out.wide (Nat.le_succ i)⟩)
            clear hd
            go_wp2_with fail
            refine DC.out.mono ?_
            rintro e w5 ⟨rfl, rfl⟩
            go_wp2_with fail
            go_roundg (l.length - (i + 1))
            case measure => have := HG.out; omega
            case rel => exact ⟨i + 1, by go_num, hlt, rfl, NXT.out⟩
          | false =>
            rw [hd] at DC
            have LV := hid (LA.out.up hd); have HD := hid hd
            clear hd
            obtain ⟨R, hR⟩ : ∃ R, dropP F S on = R := ⟨_, rfl⟩
            have DN := hid (drop_done (o := ⟨1, on, kp, os⟩) LV.out LA.out.bnd J1.out.1 J1.out.2.1 rfl hR)
            have AC := hid (pair_drop PRA.out (heap_lt BO.out) STOK.out HE.out HZ.out HD.out on OKO.out.n hR)
            have AR := hid (fun (wq : World) (G : Fl) (T : St) (hzl : ob < wq.heap.size) (pr : Pair w p q p2 q2 g2 x1 x2 ob G T F S wq) => pair_rdrop pr hzl STOK.out HD.out on OKO.out.n hR)
            obtain ⟨G, T, er⟩ := R
            dsimp only at DN AC AR
            clear hR
            go_wp2_with fail
            refine DC.out.mono ?_
            rintro e w5 ⟨rfl, rfl⟩
            clear DC
            go_wp2_with fail
            refine AC.out.mono ?_
            rintro e w6 ⟨rfl, pr6, e6⟩
            have PR6 := hid pr6; have E6 := hid e6
            clear pr6 e6 AC z0 z1 z2 z3
            obtain ⟨z0, z1, z2, z3⟩ := cell.out w6 E6.out
            go_wp2_with fail
            refine (AR.out _ _ _ (heap_lt (E6.out.trans BO.out)) PR6.out).mono ?_
            rintro e w7 ⟨rfl, pr7, e7⟩
            have PRN := hid pr7; have E7 := hid (e7.trans E6.out)
            clear pr7 e7 AR z0 z1 z2 z3 PR6
            obtain ⟨z0, z1, z2, z3⟩ := cell.out w7 E7.out
            obtain ⟨sec', oth', lan⟩ := LA.out.called (o := ⟨1, on, kp, os⟩) (.inr rfl) HSO.out DN.out PRN.out.flashes.1.ok
            have LAN := hid lan
            have OKN := hid (LAN.out.bnd.ok (by have := I40.out; omega) (by have := I40.out; omega))
            clear lan DN
            go_upto_region 29 with (fail)
            clear z0 z1 z2 z3
            have DC := hid (fun q' : UW w7 => down_any p q q'.w G (PRN.out.flashes.upd q'.u).1)
            obtain ⟨capd, ⟨d0, d1, d2, d3, d4, d5⟩, _⟩ := PRN.out.flashes.2.1.cells
            obtain ⟨gd, hgd⟩ : ∃ gd, G.down = gd := ⟨_, rfl⟩
            rw [hgd] at DC d2
            have ec2 := fun p : UW w7 => p.cell d2
            have hv := DC.out
            clear d0 d1 d2 d3 d4 d5 hgd DC
            refine region_upd (by kernel_rfl) (by kernel_rfl) ?_
            repeat (go_big_quiet_step ((go_at_call 11; with_reducible exact Calls.upd_same (hv _))))
            refine wpQuiet_nil ?_
            intro w9 hw1
            obtain ⟨pw, hpw⟩ := hw1
            have uq : Upd (fun _ => False) w7 w9 := by rw [hpw]; exact pw.u
            clear hpw pw
            have PR9 := hid (PRN.out.upd uq)
            clear uq hv ec2 PRN
            obtain ⟨R, hR⟩ : ∃ R, getP T i0 = R := ⟨_, rfl⟩
            have GC := hid (pair_get PR9.out OKN.out i0 I0.out hR)
            have GR := hid (fun (wq : World) (pr : Pair w p q p2 q2 g2 x1 x2 ob G T G T wq) => pair_rget pr OKN.out i0 I0.out hR)
            obtain ⟨rs, rb⟩ := R
            dsimp only at GC GR
            clear hR
            go_wp2_with fail
            refine GC.out.mono ?_
            rintro e w10 ⟨rfl, u10⟩
            have PR10 := hid (PR9.out.upd u10)
            clear u10 GC
            go_wp2_with fail
            refine (GR.out _ PR10.out).mono ?_
            rintro e w11 ⟨rfl, u11⟩
            have PR11 := hid (PR10.out.upd u11)
            clear u11 GR PR9 PR10
            obtain ⟨ah, ch, hh⟩ := PR11.out.rhead
            have HH := hid hh
            clear hh
            go_upto_region 34 with (fail)
            refine wp_region_g (fun w' => w'.cell? ⟨x2, 3, none⟩ = some (.int .i64 T.first) ∧ w'.cell? ⟨x2, 5, none⟩ = some (.slice ah T.recs.length ch)) 33 (by kernel_rfl) ?_
            obtain ⟨Wd, hWd⟩ : ∃ Wd, w11.drew = Wd := ⟨_, rfl⟩
            have UD := hid (show Upd (fun _ => False) w11 Wd by rw [← hWd]; exact (Upd.refl _ _).drew)
            rw [hWd]
            clear hWd
            have hS := (HH.out Wd UD.out).1
            refine g_take0 (i := 0) rfl (by kernel_rfl) (by kernel_rfl) (by kernel_rfl) (by decide) (fun _ _ _ h => h) (Or.inl ⟨by kernel_rfl, by (intro w _; go_simp; try with_reducible rfl)⟩) (fun _ => hS) ?_
            (try simp only [List.getElem_toArray, List.getElem_cons_zero])
            (try go_frame)
            refine g_take0 (i := 2) rfl (by kernel_rfl) (by kernel_rfl) (by kernel_rfl) (by decide) (fun _ _ _ h => h) (Or.inl ⟨by kernel_rfl, by (intro w _; go_simp; try with_reducible rfl)⟩) (fun _ => hS) ?_
            (try simp only [List.getElem_toArray, List.getElem_cons_zero, List.getElem_cons_succ])
            (try go_frame)
            refine g_take0 (i := 3) rfl (by kernel_rfl) (by kernel_rfl) (by kernel_rfl) (by decide) (fun _ _ _ h => h) (Or.inl ⟨by kernel_rfl, by (intro w _; go_simp; try with_reducible rfl)⟩) (fun _ => hS) ?_
            (try simp only [List.getElem_toArray, List.getElem_cons_zero, List.getElem_cons_succ])
            (try go_frame)
            refine g_take0 (i := 4) rfl (by kernel_rfl) (by kernel_rfl) (by kernel_rfl) (by decide) (fun _ _ _ h => h) (Or.inl ⟨by kernel_rfl, by (intro w _; go_simp; try with_reducible rfl)⟩) (fun _ => hS) ?_
            (try simp only [List.getElem_toArray, List.getElem_cons_zero, List.getElem_cons_succ])
            (try go_frame)
            refine g_takeP [33, 29, 28, 24, 23, 14, 13, 7, 6] (i := 5) (v := .int .i64 T.first) rfl (by kernel_rfl) (by kernel_rfl) (by kernel_rfl) (by kernel_rfl) (fun _ _ _ h => h) (Or.inl ⟨by kernel_rfl, by (intro w hSw; (try dsimp only at hSw); obtain ⟨z0, z1⟩ := hSw; go_simp; try with_reducible rfl)⟩) hS ?_
            (try simp only [List.getElem_toArray, List.getElem_cons_zero, List.getElem_cons_succ])
            (try go_frame)
            refine g_op (i := 1) (by kernel_rfl) rfl ?_
            go_wp2_with fail
            refine (pair_first (PR11.out.upd UD.out)).mono ?_
            rintro e W1 ⟨rfl, rfl⟩
            go_wp2_with fail
            first | (refine ⟨fun _ => hS, ?_⟩) | (refine ⟨hS, ?_⟩)
            (try simp only [List.getElem_toArray, List.getElem_cons_zero, List.getElem_cons_succ])
            (try go_frame)
            refine g_take0 (i := 6) (v := .bool false) rfl (by kernel_rfl) (by kernel_rfl) (by kernel_rfl) (by decide) (fun _ _ _ h => h) (Or.inl ⟨by kernel_rfl, by (intro w _; go_simp; try with_reducible rfl)⟩) (fun _ => hS) ?_
            (try simp only [List.getElem_toArray, List.getElem_cons_zero, List.getElem_cons_succ])
            (try go_frame)
            refine g_take0 (i := 7) (v := .bool false) rfl (by kernel_rfl) (by kernel_rfl) (by kernel_rfl) (by decide) (fun _ _ _ h => h) (Or.inl ⟨by kernel_rfl, by (intro w _; go_simp; try with_reducible rfl)⟩) (fun _ => hS) ?_
            (try simp only [List.getElem_toArray, List.getElem_cons_zero, List.getElem_cons_succ])
            (try go_frame)
            refine g_take0 (i := 8) rfl (by kernel_rfl) (by kernel_rfl) (by kernel_rfl) (by decide) (fun _ _ _ h => h) (Or.inl ⟨by kernel_rfl, by (intro w _; go_simp; try with_reducible rfl)⟩) (fun _ => hS) ?_
            (try simp only [List.getElem_toArray, List.getElem_cons_zero, List.getElem_cons_succ])
            (try go_frame)
            refine g_take0 (i := 10) rfl (by kernel_rfl) (by kernel_rfl) (by kernel_rfl) (by decide) (fun _ _ _ h => h) (Or.inl ⟨by kernel_rfl, by (intro w _; go_simp; try with_reducible rfl)⟩) (fun _ => hS) ?_
            (try simp only [List.getElem_toArray, List.getElem_cons_zero, List.getElem_cons_succ])
            (try go_frame)
            refine g_want (i := 9) (by kernel_rfl) rfl (by kernel_rfl) ?_
            go_wp2_with fail
            refine (pair_len (PR11.out.upd UD.out) OKN.out).mono ?_
            rintro e W2 ⟨rfl, u_⟩
            have U2 := hid (UD.out.trans u_)
            clear u_ hS
            have hS2 := (HH.out _ U2.out).1
            go_wp2_with fail
            first | (refine ⟨fun _ => hS2, ?_⟩) | (refine ⟨hS2, ?_⟩)
            (try simp only [List.getElem_toArray, List.getElem_cons_zero, List.getElem_cons_succ])
            (try go_frame)
            refine g_want (i := 11) (by kernel_rfl) rfl (by kernel_rfl) ?_
            go_wp2_with fail
            refine (pair_rlen (PR11.out.upd U2.out) OKN.out).mono ?_
            rintro e W3 ⟨rfl, u_⟩
            have U3 := hid (U2.out.trans u_)
            clear u_ hS2
            have hS3 := (HH.out _ U3.out).1
            go_wp2_with fail
            first | (refine ⟨fun _ => hS3, ?_⟩) | (refine ⟨hS3, ?_⟩)
            (try simp only [List.getElem_toArray, List.getElem_cons_zero, List.getElem_cons_succ])
            (try go_frame)
            refine g_take0 (i := 12) (v := .bool false) rfl (by kernel_rfl) (by kernel_rfl) (by kernel_rfl) (by decide) (fun _ _ _ h => h) (Or.inl ⟨by kernel_rfl, by (intro w _; go_simp; try with_reducible rfl)⟩) (fun _ => hS3) ?_
            (try simp only [List.getElem_toArray, List.getElem_cons_zero, List.getElem_cons_succ])
            (try go_frame)
            refine g_take0 (i := 13) (v := .bool false) rfl (by kernel_rfl) (by kernel_rfl) (by kernel_rfl) (by decide) (fun _ _ _ h => h) (Or.inl ⟨by kernel_rfl, by (intro w _; go_simp; try with_reducible rfl)⟩) (fun _ => hS3) ?_
            (try simp only [List.getElem_toArray, List.getElem_cons_zero, List.getElem_cons_succ])
            (try go_frame)
            refine g_take0 (i := 14) rfl (by kernel_rfl) (by kernel_rfl) (by kernel_rfl) (by decide) (fun _ _ _ h => h) (Or.inl ⟨by kernel_rfl, by (intro w _; go_simp; try with_reducible rfl)⟩) (fun _ => hS3) ?_
            (try simp only [List.getElem_toArray, List.getElem_cons_zero, List.getElem_cons_succ])
            (try go_frame)
            refine g_take0 (i := 15) rfl (by kernel_rfl) (by kernel_rfl) (by kernel_rfl) (by decide) (fun _ _ _ h => h) (Or.inl ⟨by kernel_rfl, by (intro w _; go_simp; try with_reducible rfl)⟩) (fun _ => hS3) ?_
            (try simp only [List.getElem_toArray, List.getElem_cons_zero, List.getElem_cons_succ])
            (try go_frame)
            refine g_take0 (i := 17) rfl (by kernel_rfl) (by kernel_rfl) (by kernel_rfl) (by decide) (fun _ _ _ h => h) (Or.inl ⟨by kernel_rfl, by (intro w _; go_simp; try with_reducible rfl)⟩) (fun _ => hS3) ?_
            (try simp only [List.getElem_toArray, List.getElem_cons_zero, List.getElem_cons_succ])
            (try go_frame)
            refine g_take0 (i := 18) rfl (by kernel_rfl) (by kernel_rfl) (by kernel_rfl) (by decide) (fun _ _ _ h => h) (Or.inl ⟨by kernel_rfl, by (intro w _; go_simp; try with_reducible rfl)⟩) (fun _ => hS3) ?_
            (try simp only [List.getElem_toArray, List.getElem_cons_zero, List.getElem_cons_succ])
            (try go_frame)
            refine g_take0 (i := 19) rfl (by kernel_rfl) (by kernel_rfl) (by kernel_rfl) (by decide) (fun _ _ _ h => h) (Or.inl ⟨by kernel_rfl, by (intro w _; go_simp; try with_reducible rfl)⟩) (fun _ => hS3) ?_
            (try simp only [List.getElem_toArray, List.getElem_cons_zero, List.getElem_cons_succ])
            (try go_frame)
            refine g_takeP [33, 29, 28, 24, 23, 22, 21] (i := 20) (v := .slice ah T.recs.length ch) rfl (by kernel_rfl) (by kernel_rfl) (by kernel_rfl) (by kernel_rfl) (fun _ _ _ h => h) (Or.inl ⟨by kernel_rfl, by (intro w hSw; (try dsimp only at hSw); obtain ⟨z0, z1⟩ := hSw; go_simp; try with_reducible rfl)⟩) hS3 ?_
            (try simp only [List.getElem_toArray, List.getElem_cons_zero, List.getElem_cons_succ])
            (try go_frame)
            refine g_want (i := 16) (by kernel_rfl) rfl (by kernel_rfl) ?_
            go_wp2_with fail
            refine (pair_all (PR11.out.upd U3.out) OKN.out).mono ?_
            rintro e W4 ⟨⟨a8, c8, rfl, o8, _⟩, u_⟩
            have U4 := hid (U3.out.trans u_); have O8 := hid o8
            clear u_ hS3 o8
            have hS4 := (HH.out _ U4.out).1
            have SC := hid (sameTexts_any _ _ T.recs T.recs W4 (OwnS.rep O8.out (fun x hx => Nat.le_trans (OKN.out.txt x hx) (by decide)) fun g hg => Own1.lt O8.out g hg) (OwnS.rep (HH.out _ U4.out).2 (fun x hx => Nat.le_trans (OKN.out.txt x hx) (by decide)) fun g hg => Own1.lt (HH.out _ U4.out).2 g hg))
            rw [show (T.recs == T.recs) = true from beq_self_eq_true _] at SC
            go_wp2_with fail
            first | (refine ⟨fun _ => hS4, ?_⟩) | (refine ⟨hS4, ?_⟩)
            (try simp only [List.getElem_toArray, List.getElem_cons_zero, List.getElem_cons_succ])
            (try go_frame)
            refine g_want (i := 21) (by kernel_rfl) rfl (by kernel_rfl) ?_
            go_wp2_with fail
            refine SC.out.mono ?_
            rintro e W5 ⟨rfl, u_⟩
            have U5 := hid (U4.out.trans u_)
            clear u_ hS4 SC O8
            have hS5 := (HH.out _ U5.out).1
            go_wp2_with fail
            first | (refine ⟨fun _ => hS5, ?_⟩) | (refine ⟨hS5, ?_⟩)
            (try simp only [List.getElem_toArray, List.getElem_cons_zero, List.getElem_cons_succ])
            (try go_frame)
            refine g_take0 (i := 22) (v := .bool false) rfl (by kernel_rfl) (by kernel_rfl) (by kernel_rfl) (by decide) (fun _ _ _ h => h) (Or.inl ⟨by kernel_rfl, by (intro w _; go_simp; try with_reducible rfl)⟩) (fun _ => hS5) ?_
            (try simp only [List.getElem_toArray, List.getElem_cons_zero, List.getElem_cons_succ])
            (try go_frame)
            refine g_take0 (i := 23) (v := .bool false) rfl (by kernel_rfl) (by kernel_rfl) (by kernel_rfl) (by decide) (fun _ _ _ h => h) (Or.inl ⟨by kernel_rfl, by (intro w _; go_simp; try with_reducible rfl)⟩) (fun _ => hS5) ?_
            (try simp only [List.getElem_toArray, List.getElem_cons_zero, List.getElem_cons_succ])
            (try go_frame)
            refine g_take0 (i := 24) rfl (by kernel_rfl) (by kernel_rfl) (by kernel_rfl) (by decide) (fun _ _ _ h => h) (Or.inl ⟨by kernel_rfl, by (intro w _; go_simp; try with_reducible rfl)⟩) (fun _ => hS5) ?_
            (try simp only [List.getElem_toArray, List.getElem_cons_zero, List.getElem_cons_succ])
            (try go_frame)
            refine g_take0 (i := 25) rfl (by kernel_rfl) (by kernel_rfl) (by kernel_rfl) (by decide) (fun _ _ _ h => h) (Or.inl ⟨by kernel_rfl, by (intro w _; go_simp; try with_reducible rfl)⟩) (fun _ => hS5) ?_
            (try simp only [List.getElem_toArray, List.getElem_cons_zero, List.getElem_cons_succ])
            (try go_frame)
            refine g_take0 (i := 26) rfl (by kernel_rfl) (by kernel_rfl) (by kernel_rfl) (by decide) (fun _ _ _ h => h) (Or.inl ⟨by kernel_rfl, by (intro w _; go_simp; try with_reducible rfl)⟩) (fun _ => hS5) ?_
            (try simp only [List.getElem_toArray, List.getElem_cons_zero, List.getElem_cons_succ])
            (try go_frame)
            refine g_take0 (i := 27) (v := .bool false) rfl (by kernel_rfl) (by kernel_rfl) (by kernel_rfl) (by decide) (fun _ _ _ h => h) (Or.inl ⟨by kernel_rfl, by (intro w _; go_simp; try with_reducible rfl)⟩) (fun _ => hS5) ?_
            (try simp only [List.getElem_toArray, List.getElem_cons_zero, List.getElem_cons_succ])
            (try go_frame)
            refine g_take0 (i := 28) (v := .bool false) rfl (by kernel_rfl) (by kernel_rfl) (by kernel_rfl) (by decide) (fun _ _ _ h => h) (Or.inl ⟨by kernel_rfl, by (intro w _; go_simp; try with_reducible rfl)⟩) (fun _ => hS5) ?_
            (try simp only [List.getElem_toArray, List.getElem_cons_zero, List.getElem_cons_succ])
            (try go_frame)
            refine g_take0 (i := 29) rfl (by kernel_rfl) (by kernel_rfl) (by kernel_rfl) (by decide) (fun _ _ _ h => h) (Or.inl ⟨by kernel_rfl, by (intro w _; go_simp; try with_reducible rfl)⟩) (fun _ => hS5) ?_
            (try simp only [List.getElem_toArray, List.getElem_cons_zero, List.getElem_cons_succ])
            (try go_frame)
            refine g_take0 (i := 30) rfl (by kernel_rfl) (by kernel_rfl) (by kernel_rfl) (by decide) (fun _ _ _ h => h) (Or.inl ⟨by kernel_rfl, by (intro w _; go_simp; try with_reducible rfl)⟩) (fun _ => hS5) ?_
            (try simp only [List.getElem_toArray, List.getElem_cons_zero, List.getElem_cons_succ])
            (try go_frame)
            refine g_take0 (i := 31) rfl (by kernel_rfl) (by kernel_rfl) (by kernel_rfl) (by decide) (fun _ _ _ h => h) (Or.inl ⟨by kernel_rfl, by (intro w _; go_simp; try with_reducible rfl)⟩) (fun _ => hS5) ?_
            (try simp only [List.getElem_toArray, List.getElem_cons_zero, List.getElem_cons_succ])
            (try go_frame)
            refine g_take0 (i := 32) (v := .bool false) rfl (by kernel_rfl) (by kernel_rfl) (by kernel_rfl) (by decide) (fun _ _ _ h => h) (Or.inl ⟨by kernel_rfl, by (intro w _; go_simp; try with_reducible rfl)⟩) (fun _ => hS5) ?_
            (try simp only [List.getElem_toArray, List.getElem_cons_zero, List.getElem_cons_succ])
            (try go_frame)
            refine g_op (i := 33) (by kernel_rfl) rfl ?_
            go_wp2_with fail
            refine ⟨fun h => (Bool.false_ne_true (h.symm.trans (by kernel_rfl))).elim, ?_⟩
            (try simp only [List.getElem_toArray, List.getElem_cons_zero, List.getElem_cons_succ])
            (try go_frame)
            refine g_done (by kernel_rfl) ?_
            have NXT := hid (show TellsAt w nb np p q p2 q2 g2 (i + 1) (.pointer (some ⟨x1, 0, none⟩)) (.int .i64 er) (.pointer (some ⟨x2, 0, none⟩)) (.int .i64 er) W5 from
              ⟨x1, x2, ob, G, T, er, sec', oth', rfl, rfl, rfl, rfl, PR11.out.upd U5.out, LAN.out⟩)
            clear hS5 HH
            go_wp2_with fail
            go_roundg (l.length - (i + 1))
            case measure => have := HG.out; omega
            case rel => exact ⟨i + 1, by go_num, hlt, rfl, NXT.out⟩
      have hk1b : (kd == 1) = false := beq_eq_false_iff_ne.2 hk1
      obtain ⟨s1, s2, s3⟩ := shake_does LA.out.ok OKO.out
      have SK := hid s1; have SD := hid s2; have S45 := hid s3
      have KC := hid (shakes_at PRA.out.flashes.1 ⟨kd, on, kp, os⟩ OKO.out)
      have KR := hid (fun (wq : World) (f : RefAt wq p2 q2 g2 F) => rshaken_any f ⟨kd, on, kp, os⟩ OKO.out)
      obtain ⟨G, hG⟩ : ∃ G, shakeP F ⟨kd, on, kp, os⟩ = G := ⟨_, rfl⟩
      rw [hG] at SK SD S45 KC KR
      dsimp only at KC KR SD S45
      clear s1 s2 s3 hG
      by_cases h4 : kd = 4
      case pos =>
        as_aux_lemma =>
          subst h4
          clear hk hk1 hkb hk1b
          have DN := hid (S45.out (.inl rfl))
          obtain ⟨l1, l2, l3, l4, l5⟩ := LA.out.open_ H2.out HP.out.2 J1.out.2.2 SK.out DN.out
          have LAN := hid l1; have GNB := hid l3; have GINV := hid l4; have GPOS := hid l5
          obtain ⟨T, hT⟩ : ∃ T, openP G = T := ⟨_, rfl⟩
          rw [hT] at LAN
          have HT := hid hT
          have OKN := hid (LAN.out.bnd.ok (by have := I40.out; omega) (by have := I40.out; omega))
          clear l1 l2 l3 l4 l5 hT
          go_wp2_with fail
          refine KC.out.mono ?_
          rintro e w5 ⟨rfl, f5, u5⟩
          have E5 := hid (u5.block ob (heap_lt BO.out) (fun e => PNE.out.1 e))
          have FP5 := hid (PRA.out.flashes.left f5 u5)
          clear f5 u5 z0 z1 z2 z3 KC
          obtain ⟨z0, z1, z2, z3⟩ := cell.out w5 E5.out
          go_wp2_with fail
          refine (KR.out _ FP5.out.2.1).mono ?_
          rintro e w6 ⟨rfl, f6, u6⟩
          have E6 := hid ((u6.block ob (heap_lt (E5.out.trans BO.out)) (fun e => PNE.out.2 e)).trans E5.out)
          have FP6 := hid (FP5.out.right f6 SK.out.nb u6)
          clear f6 u6 z0 z1 z2 z3 KR
          obtain ⟨z0, z1, z2, z3⟩ := cell.out w6 E6.out
          have OC := hid (fpair_open FP6.out GNB.out DN.out GINV.out GPOS.out HE.out HZ.out HT.out)
          go_wp2_with fail
          refine OC.out.mono ?_
          rintro e w7 ⟨y1, rfl, fp7, O7, sh7, ho7⟩
          have FP7 := hid fp7; have SH7 := hid sh7; have HO7 := hid ho7
          clear OC fp7 sh7 ho7 FP5 FP6 z0 z1 z2 z3
          go_wp2_with fail
          refine (fpair_ropen FP7.out SH7.out HO7.out GNB.out DN.out GINV.out GPOS.out HT.out).mono ?_
          rintro e w8 ⟨y2, z2, rfl, pr8⟩
          have PRN := hid pr8
          clear pr8 FP7 SH7 HO7
          go_upto_region 29 with (fail)
          have DC := hid (fun q' : UW w8 => down_any p q q'.w G (PRN.out.flashes.upd q'.u).1)
          obtain ⟨capd, ⟨d0, d1, d2, d3, d4, d5⟩, _⟩ := PRN.out.flashes.2.1.cells
          obtain ⟨gd, hgd⟩ : ∃ gd, G.down = gd := ⟨_, rfl⟩
          rw [hgd] at DC d2
          have ec2 := fun p : UW w8 => p.cell d2
          have hv := DC.out
          clear d0 d1 d2 d3 d4 d5 hgd DC
          refine region_upd (by kernel_rfl) (by kernel_rfl) ?_
          repeat (go_big_quiet_step ((go_at_call 11; with_reducible exact Calls.upd_same (hv _))))
          refine wpQuiet_nil ?_
          intro w9 hw1
          obtain ⟨pw, hpw⟩ := hw1
          have uq : Upd (fun _ => False) w8 w9 := by rw [hpw]; exact pw.u
          clear hpw pw
          have PR9 := hid (PRN.out.upd uq)
          clear uq hv ec2 PRN
          obtain ⟨R, hR⟩ : ∃ R, getP T i0 = R := ⟨_, rfl⟩
          have GC := hid (pair_get PR9.out OKN.out i0 I0.out hR)
          have GR := hid (fun (wq : World) (pr : Pair w p q p2 q2 g2 y1 y2 z2 G T G T wq) => pair_rget pr OKN.out i0 I0.out hR)
          obtain ⟨rs, rb⟩ := R
          dsimp only at GC GR
          clear hR
          go_wp2_with fail
          refine GC.out.mono ?_
          rintro e w10 ⟨rfl, u10⟩
          have PR10 := hid (PR9.out.upd u10)
          clear u10 GC
          go_wp2_with fail
          refine (GR.out _ PR10.out).mono ?_
          rintro e w11 ⟨rfl, u11⟩
          have PR11 := hid (PR10.out.upd u11)
          clear u11 GR PR9 PR10
          obtain ⟨ah, ch, hh⟩ := PR11.out.rhead
          have HH := hid hh
          clear hh
          go_upto_region 34 with (fail)
          refine wp_region_g (fun w' => w'.cell? ⟨y2, 3, none⟩ = some (.int .i64 T.first) ∧ w'.cell? ⟨y2, 5, none⟩ = some (.slice ah T.recs.length ch)) 33 (by kernel_rfl) ?_
          obtain ⟨Wd, hWd⟩ : ∃ Wd, w11.drew = Wd := ⟨_, rfl⟩
          have UD := hid (show Upd (fun _ => False) w11 Wd by rw [← hWd]; exact (Upd.refl _ _).drew)
          rw [hWd]
          clear hWd
          have hS := (HH.out Wd UD.out).1
          refine g_take0 (i := 0) rfl (by kernel_rfl) (by kernel_rfl) (by kernel_rfl) (by decide) (fun _ _ _ h => h) (Or.inl ⟨by kernel_rfl, by (intro w _; go_simp; try with_reducible rfl)⟩) (fun _ => hS) ?_
          (try simp only [List.getElem_toArray, List.getElem_cons_zero])
          (try go_frame)
          refine g_take0 (i := 2) rfl (by kernel_rfl) (by kernel_rfl) (by kernel_rfl) (by decide) (fun _ _ _ h => h) (Or.inl ⟨by kernel_rfl, by (intro w _; go_simp; try with_reducible rfl)⟩) (fun _ => hS) ?_
          (try simp only [List.getElem_toArray, List.getElem_cons_zero, List.getElem_cons_succ])
          (try go_frame)
          refine g_take0 (i := 3) rfl (by kernel_rfl) (by kernel_rfl) (by kernel_rfl) (by decide) (fun _ _ _ h => h) (Or.inl ⟨by kernel_rfl, by (intro w _; go_simp; try with_reducible rfl)⟩) (fun _ => hS) ?_
          (try simp only [List.getElem_toArray, List.getElem_cons_zero, List.getElem_cons_succ])
          (try go_frame)
          refine g_take0 (i := 4) rfl (by kernel_rfl) (by kernel_rfl) (by kernel_rfl) (by decide) (fun _ _ _ h => h) (Or.inl ⟨by kernel_rfl, by (intro w _; go_simp; try with_reducible rfl)⟩) (fun _ => hS) ?_
          (try simp only [List.getElem_toArray, List.getElem_cons_zero, List.getElem_cons_succ])
          (try go_frame)
          refine g_takeP [33, 29, 28, 24, 23, 14, 13, 7, 6] (i := 5) (v := .int .i64 T.first) rfl (by kernel_rfl) (by kernel_rfl) (by kernel_rfl) (by kernel_rfl) (fun _ _ _ h => h) (Or.inl ⟨by kernel_rfl, by (intro w hSw; (try dsimp only at hSw); obtain ⟨z0, z1⟩ := hSw; go_simp; try with_reducible rfl)⟩) hS ?_
          (try simp only [List.getElem_toArray, List.getElem_cons_zero, List.getElem_cons_succ])
          (try go_frame)
          refine g_op (i := 1) (by kernel_rfl) rfl ?_
          go_wp2_with fail
          refine (pair_first (PR11.out.upd UD.out)).mono ?_
          rintro e W1 ⟨rfl, rfl⟩
          go_wp2_with fail
          first | (refine ⟨fun _ => hS, ?_⟩) | (refine ⟨hS, ?_⟩)
          (try simp only [List.getElem_toArray, List.getElem_cons_zero, List.getElem_cons_succ])
          (try go_frame)
          refine g_take0 (i := 6) (v := .bool false) rfl (by kernel_rfl) (by kernel_rfl) (by kernel_rfl) (by decide) (fun _ _ _ h => h) (Or.inl ⟨by kernel_rfl, by (intro w _; go_simp; try with_reducible rfl)⟩) (fun _ => hS) ?_
          (try simp only [List.getElem_toArray, List.getElem_cons_zero, List.getElem_cons_succ])
          (try go_frame)
          refine g_take0 (i := 7) (v := .bool false) rfl (by kernel_rfl) (by kernel_rfl) (by kernel_rfl) (by decide) (fun _ _ _ h => h) (Or.inl ⟨by kernel_rfl, by (intro w _; go_simp; try with_reducible rfl)⟩) (fun _ => hS) ?_
          (try simp only [List.getElem_toArray, List.getElem_cons_zero, List.getElem_cons_succ])
          (try go_frame)
          refine g_take0 (i := 8) rfl (by kernel_rfl) (by kernel_rfl) (by kernel_rfl) (by decide) (fun _ _ _ h => h) (Or.inl ⟨by kernel_rfl, by (intro w _; go_simp; try with_reducible rfl)⟩) (fun _ => hS) ?_
          (try simp only [List.getElem_toArray, List.getElem_cons_zero, List.getElem_cons_succ])
          (try go_frame)
          refine g_take0 (i := 10) rfl (by kernel_rfl) (by kernel_rfl) (by kernel_rfl) (by decide) (fun _ _ _ h => h) (Or.inl ⟨by kernel_rfl, by (intro w _; go_simp; try with_reducible rfl)⟩) (fun _ => hS) ?_
          (try simp only [List.getElem_toArray, List.getElem_cons_zero, List.getElem_cons_succ])
          (try go_frame)
          refine g_want (i := 9) (by kernel_rfl) rfl (by kernel_rfl) ?_
          go_wp2_with fail
          refine (pair_len (PR11.out.upd UD.out) OKN.out).mono ?_
          rintro e W2 ⟨rfl, u_⟩
          have U2 := hid (UD.out.trans u_)
          clear u_ hS
          have hS2 := (HH.out _ U2.out).1
          go_wp2_with fail
          first | (refine ⟨fun _ => hS2, ?_⟩) | (refine ⟨hS2, ?_⟩)
          (try simp only [List.getElem_toArray, List.getElem_cons_zero, List.getElem_cons_succ])
          (try go_frame)
          refine g_want (i := 11) (by kernel_rfl) rfl (by kernel_rfl) ?_
          go_wp2_with fail
          refine (pair_rlen (PR11.out.upd U2.out) OKN.out).mono ?_
          rintro e W3 ⟨rfl, u_⟩
          have U3 := hid (U2.out.trans u_)
          clear u_ hS2
          have hS3 := (HH.out _ U3.out).1
          go_wp2_with fail
          first | (refine ⟨fun _ => hS3, ?_⟩) | (refine ⟨hS3, ?_⟩)
          (try simp only [List.getElem_toArray, List.getElem_cons_zero, List.getElem_cons_succ])
          (try go_frame)
          refine g_take0 (i := 12) (v := .bool false) rfl (by kernel_rfl) (by kernel_rfl) (by kernel_rfl) (by decide) (fun _ _ _ h => h) (Or.inl ⟨by kernel_rfl, by (intro w _; go_simp; try with_reducible rfl)⟩) (fun _ => hS3) ?_
          (try simp only [List.getElem_toArray, List.getElem_cons_zero, List.getElem_cons_succ])
          (try go_frame)
          refine g_take0 (i := 13) (v := .bool false) rfl (by kernel_rfl) (by kernel_rfl) (by kernel_rfl) (by decide) (fun _ _ _ h => h) (Or.inl ⟨by kernel_rfl, by (intro w _; go_simp; try with_reducible rfl)⟩) (fun _ => hS3) ?_
          (try simp only [List.getElem_toArray, List.getElem_cons_zero, List.getElem_cons_succ])
          (try go_frame)
          refine g_take0 (i := 14) rfl (by kernel_rfl) (by kernel_rfl) (by kernel_rfl) (by decide) (fun _ _ _ h => h) (Or.inl ⟨by kernel_rfl, by (intro w _; go_simp; try with_reducible rfl)⟩) (fun _ => hS3) ?_
          (try simp only [List.getElem_toArray, List.getElem_cons_zero, List.getElem_cons_succ])
          (try go_frame)
          refine g_take0 (i := 15) rfl (by kernel_rfl) (by kernel_rfl) (by kernel_rfl) (by decide) (fun _ _ _ h => h) (Or.inl ⟨by kernel_rfl, by (intro w _; go_simp; try with_reducible rfl)⟩) (fun _ => hS3) ?_
          (try simp only [List.getElem_toArray, List.getElem_cons_zero, List.getElem_cons_succ])
          (try go_frame)
          refine g_take0 (i := 17) rfl (by kernel_rfl) (by kernel_rfl) (by kernel_rfl) (by decide) (fun _ _ _ h => h) (Or.inl ⟨by kernel_rfl, by (intro w _; go_simp; try with_reducible rfl)⟩) (fun _ => hS3) ?_
          (try simp only [List.getElem_toArray, List.getElem_cons_zero, List.getElem_cons_succ])
          (try go_frame)
          refine g_take0 (i := 18) rfl (by kernel_rfl) (by kernel_rfl) (by kernel_rfl) (by decide) (fun _ _ _ h => h) (Or.inl ⟨by kernel_rfl, by (intro w _; go_simp; try with_reducible rfl)⟩) (fun _ => hS3) ?_
          (try simp only [List.getElem_toArray, List.getElem_cons_zero, List.getElem_cons_succ])
          (try go_frame)
          refine g_take0 (i := 19) rfl (by kernel_rfl) (by kernel_rfl) (by kernel_rfl) (by decide) (fun _ _ _ h => h) (Or.inl ⟨by kernel_rfl, by (intro w _; go_simp; try with_reducible rfl)⟩) (fun _ => hS3) ?_
          (try simp only [List.getElem_toArray, List.getElem_cons_zero, List.getElem_cons_succ])
          (try go_frame)
          refine g_takeP [33, 29, 28, 24, 23, 22, 21] (i := 20) (v := .slice ah T.recs.length ch) rfl (by kernel_rfl) (by kernel_rfl) (by kernel_rfl) (by kernel_rfl) (fun _ _ _ h => h) (Or.inl ⟨by kernel_rfl, by (intro w hSw; (try dsimp only at hSw); obtain ⟨z0, z1⟩ := hSw; go_simp; try with_reducible rfl)⟩) hS3 ?_
          (try simp only [List.getElem_toArray, List.getElem_cons_zero, List.getElem_cons_succ])
          (try go_frame)
          refine g_want (i := 16) (by kernel_rfl) rfl (by kernel_rfl) ?_
          go_wp2_with fail
          refine (pair_all (PR11.out.upd U3.out) OKN.out).mono ?_
          rintro e W4 ⟨⟨a8, c8, rfl, o8, _⟩, u_⟩
          have U4 := hid (U3.out.trans u_); have O8 := hid o8
          clear u_ hS3 o8
          have hS4 := (HH.out _ U4.out).1
          have SC := hid (sameTexts_any _ _ T.recs T.recs W4 (OwnS.rep O8.out (fun x hx => Nat.le_trans (OKN.out.txt x hx) (by decide)) fun g hg => Own1.lt O8.out g hg) (OwnS.rep (HH.out _ U4.out).2 (fun x hx => Nat.le_trans (OKN.out.txt x hx) (by decide)) fun g hg => Own1.lt (HH.out _ U4.out).2 g hg))
          rw [show (T.recs == T.recs) = true from beq_self_eq_true _] at SC
          go_wp2_with fail
          first | (refine ⟨fun _ => hS4, ?_⟩) | (refine ⟨hS4, ?_⟩)
          (try simp only [List.getElem_toArray, List.getElem_cons_zero, List.getElem_cons_succ])
          (try go_frame)
          refine g_want (i := 21) (by kernel_rfl) rfl (by kernel_rfl) ?_
          go_wp2_with fail
          refine SC.out.mono ?_
          rintro e W5 ⟨rfl, u_⟩
          have U5 := hid (U4.out.trans u_)
          clear u_ hS4 SC O8
          have hS5 := (HH.out _ U5.out).1
          go_wp2_with fail
          first | (refine ⟨fun _ => hS5, ?_⟩) | (refine ⟨hS5, ?_⟩)
          (try simp only [List.getElem_toArray, List.getElem_cons_zero, List.getElem_cons_succ])
          (try go_frame)
          refine g_take0 (i := 22) (v := .bool false) rfl (by kernel_rfl) (by kernel_rfl) (by kernel_rfl) (by decide) (fun _ _ _ h => h) (Or.inl ⟨by kernel_rfl, by (intro w _; go_simp; try with_reducible rfl)⟩) (fun _ => hS5) ?_
          (try simp only [List.getElem_toArray, List.getElem_cons_zero, List.getElem_cons_succ])
          (try go_frame)
          refine g_take0 (i := 23) (v := .bool false) rfl (by kernel_rfl) (by kernel_rfl) (by kernel_rfl) (by decide) (fun _ _ _ h => h) (Or.inl ⟨by kernel_rfl, by (intro w _; go_simp; try with_reducible rfl)⟩) (fun _ => hS5) ?_
          (try simp only [List.getElem_toArray, List.getElem_cons_zero, List.getElem_cons_succ])
          (try go_frame)
          refine g_take0 (i := 24) rfl (by kernel_rfl) (by kernel_rfl) (by kernel_rfl) (by decide) (fun _ _ _ h => h) (Or.inl ⟨by kernel_rfl, by (intro w _; go_simp; try with_reducible rfl)⟩) (fun _ => hS5) ?_
          (try simp only [List.getElem_toArray, List.getElem_cons_zero, List.getElem_cons_succ])
          (try go_frame)
          refine g_take0 (i := 25) rfl (by kernel_rfl) (by kernel_rfl) (by kernel_rfl) (by decide) (fun _ _ _ h => h) (Or.inl ⟨by kernel_rfl, by (intro w _; go_simp; try with_reducible rfl)⟩) (fun _ => hS5) ?_
          (try simp only [List.getElem_toArray, List.getElem_cons_zero, List.getElem_cons_succ])
          (try go_frame)
          refine g_take0 (i := 26) rfl (by kernel_rfl) (by kernel_rfl) (by kernel_rfl) (by decide) (fun _ _ _ h => h) (Or.inl ⟨by kernel_rfl, by (intro w _; go_simp; try with_reducible rfl)⟩) (fun _ => hS5) ?_
          (try simp only [List.getElem_toArray, List.getElem_cons_zero, List.getElem_cons_succ])
          (try go_frame)
          refine g_take0 (i := 27) (v := .bool false) rfl (by kernel_rfl) (by kernel_rfl) (by kernel_rfl) (by decide) (fun _ _ _ h => h) (Or.inl ⟨by kernel_rfl, by (intro w _; go_simp; try with_reducible rfl)⟩) (fun _ => hS5) ?_
          (try simp only [List.getElem_toArray, List.getElem_cons_zero, List.getElem_cons_succ])
          (try go_frame)
          refine g_take0 (i := 28) (v := .bool false) rfl (by kernel_rfl) (by kernel_rfl) (by kernel_rfl) (by decide) (fun _ _ _ h => h) (Or.inl ⟨by kernel_rfl, by (intro w _; go_simp; try with_reducible rfl)⟩) (fun _ => hS5) ?_
          (try simp only [List.getElem_toArray, List.getElem_cons_zero, List.getElem_cons_succ])
          (try go_frame)
          refine g_take0 (i := 29) rfl (by kernel_rfl) (by kernel_rfl) (by kernel_rfl) (by decide) (fun _ _ _ h => h) (Or.inl ⟨by kernel_rfl, by (intro w _; go_simp; try with_reducible rfl)⟩) (fun _ => hS5) ?_
          (try simp only [List.getElem_toArray, List.getElem_cons_zero, List.getElem_cons_succ])
          (try go_frame)
          refine g_take0 (i := 30) rfl (by kernel_rfl) (by kernel_rfl) (by kernel_rfl) (by decide) (fun _ _ _ h => h) (Or.inl ⟨by kernel_rfl, by (intro w _; go_simp; try with_reducible rfl)⟩) (fun _ => hS5) ?_
          (try simp only [List.getElem_toArray, List.getElem_cons_zero, List.getElem_cons_succ])
          (try go_frame)
          refine g_take0 (i := 31) rfl (by kernel_rfl) (by kernel_rfl) (by kernel_rfl) (by decide) (fun _ _ _ h => h) (Or.inl ⟨by kernel_rfl, by (intro w _; go_simp; try with_reducible rfl)⟩) (fun _ => hS5) ?_
          (try simp only [List.getElem_toArray, List.getElem_cons_zero, List.getElem_cons_succ])
          (try go_frame)
          refine g_take0 (i := 32) (v := .bool false) rfl (by kernel_rfl) (by kernel_rfl) (by kernel_rfl) (by decide) (fun _ _ _ h => h) (Or.inl ⟨by kernel_rfl, by (intro w _; go_simp; try with_reducible rfl)⟩) (fun _ => hS5) ?_
          (try simp only [List.getElem_toArray, List.getElem_cons_zero, List.getElem_cons_succ])
          (try go_frame)
          refine g_op (i := 33) (by kernel_rfl) rfl ?_
          go_wp2_with fail
          refine ⟨fun h => (Bool.false_ne_true (h.symm.trans (by kernel_rfl))).elim, ?_⟩
          (try simp only [List.getElem_toArray, List.getElem_cons_zero, List.getElem_cons_succ])
          (try go_frame)
          refine g_done (by kernel_rfl) ?_
          have NXT := hid (show TellsAt w nb np p q p2 q2 g2 (i + 1) (.pointer (some ⟨y1, 0, none⟩)) (.int .i64 0) (.pointer (some ⟨y2, 0, none⟩)) (.int .i64 0) W5 from
            ⟨y1, y2, z2, G, T, 0, T.first, T.recs, rfl, rfl, rfl, rfl, PR11.out.upd U5.out, LAN.out⟩)
          clear hS5 HH
          go_wp2_with fail
          go_roundg (l.length - (i + 1))
          case measure => have := HG.out; omega
          case rel => exact ⟨i + 1, by go_num, hlt, rfl, NXT.out⟩
      by_cases h5 : kd = 5
      case pos =>
        as_aux_lemma =>
          subst h5
          clear hk hk1 hkb hk1b h4
          have DN := hid (S45.out (.inr rfl))
          obtain ⟨l1, l2, l3, l4, l5⟩ := LA.out.open_ H2.out HP.out.2 J1.out.2.2 SK.out DN.out
          have LAN := hid l1; have GNB := hid l3; have GINV := hid l4; have GPOS := hid l5
          obtain ⟨T, hT⟩ : ∃ T, openP G = T := ⟨_, rfl⟩
          rw [hT] at LAN
          have HT := hid hT
          have OKN := hid (LAN.out.bnd.ok (by have := I40.out; omega) (by have := I40.out; omega))
          clear l1 l2 l3 l4 l5 hT
          go_wp2_with fail
          refine KC.out.mono ?_
          rintro e w5 ⟨rfl, f5, u5⟩
          have E5 := hid (u5.block ob (heap_lt BO.out) (fun e => PNE.out.1 e))
          have FP5 := hid (PRA.out.flashes.left f5 u5)
          clear f5 u5 z0 z1 z2 z3 KC
          obtain ⟨z0, z1, z2, z3⟩ := cell.out w5 E5.out
          go_wp2_with fail
          refine (KR.out _ FP5.out.2.1).mono ?_
          rintro e w6 ⟨rfl, f6, u6⟩
          have E6 := hid ((u6.block ob (heap_lt (E5.out.trans BO.out)) (fun e => PNE.out.2 e)).trans E5.out)
          have FP6 := hid (FP5.out.right f6 SK.out.nb u6)
          clear f6 u6 z0 z1 z2 z3 KR
          obtain ⟨z0, z1, z2, z3⟩ := cell.out w6 E6.out
          have OC := hid (fpair_open FP6.out GNB.out DN.out GINV.out GPOS.out HE.out HZ.out HT.out)
          go_wp2_with fail
          refine OC.out.mono ?_
          rintro e w7 ⟨y1, rfl, fp7, O7, sh7, ho7⟩
          have FP7 := hid fp7; have SH7 := hid sh7; have HO7 := hid ho7
          clear OC fp7 sh7 ho7 FP5 FP6 z0 z1 z2 z3
          go_wp2_with fail
          refine (fpair_ropen FP7.out SH7.out HO7.out GNB.out DN.out GINV.out GPOS.out HT.out).mono ?_
          rintro e w8 ⟨y2, z2, rfl, pr8⟩
          have PRN := hid pr8
          clear pr8 FP7 SH7 HO7
          go_upto_region 29 with (fail)
          have DC := hid (fun q' : UW w8 => down_any p q q'.w G (PRN.out.flashes.upd q'.u).1)
          obtain ⟨capd, ⟨d0, d1, d2, d3, d4, d5⟩, _⟩ := PRN.out.flashes.2.1.cells
          obtain ⟨gd, hgd⟩ : ∃ gd, G.down = gd := ⟨_, rfl⟩
          rw [hgd] at DC d2
          have ec2 := fun p : UW w8 => p.cell d2
          have hv := DC.out
          clear d0 d1 d2 d3 d4 d5 hgd DC
          refine region_upd (by kernel_rfl) (by kernel_rfl) ?_
          repeat (go_big_quiet_step ((go_at_call 11; with_reducible exact Calls.upd_same (hv _))))
          refine wpQuiet_nil ?_
          intro w9 hw1
          obtain ⟨pw, hpw⟩ := hw1
          have uq : Upd (fun _ => False) w8 w9 := by rw [hpw]; exact pw.u
          clear hpw pw
          have PR9 := hid (PRN.out.upd uq)
          clear uq hv ec2 PRN
          obtain ⟨R, hR⟩ : ∃ R, getP T i0 = R := ⟨_, rfl⟩
          have GC := hid (pair_get PR9.out OKN.out i0 I0.out hR)
          have GR := hid (fun (wq : World) (pr : Pair w p q p2 q2 g2 y1 y2 z2 G T G T wq) => pair_rget pr OKN.out i0 I0.out hR)
          obtain ⟨rs, rb⟩ := R
          dsimp only at GC GR
          clear hR
          go_wp2_with fail
          refine GC.out.mono ?_
          rintro e w10 ⟨rfl, u10⟩
          have PR10 := hid (PR9.out.upd u10)
          clear u10 GC
          go_wp2_with fail
          refine (GR.out _ PR10.out).mono ?_
          rintro e w11 ⟨rfl, u11⟩
          have PR11 := hid (PR10.out.upd u11)
          clear u11 GR PR9 PR10
          obtain ⟨ah, ch, hh⟩ := PR11.out.rhead
          have HH := hid hh
          clear hh
          go_upto_region 34 with (fail)
          refine wp_region_g (fun w' => w'.cell? ⟨y2, 3, none⟩ = some (.int .i64 T.first) ∧ w'.cell? ⟨y2, 5, none⟩ = some (.slice ah T.recs.length ch)) 33 (by kernel_rfl) ?_
          obtain ⟨Wd, hWd⟩ : ∃ Wd, w11.drew = Wd := ⟨_, rfl⟩
          have UD := hid (show Upd (fun _ => False) w11 Wd by rw [← hWd]; exact (Upd.refl _ _).drew)
          rw [hWd]
          clear hWd
          have hS := (HH.out Wd UD.out).1
          refine g_take0 (i := 0) rfl (by kernel_rfl) (by kernel_rfl) (by kernel_rfl) (by decide) (fun _ _ _ h => h) (Or.inl ⟨by kernel_rfl, by (intro w _; go_simp; try with_reducible rfl)⟩) (fun _ => hS) ?_
          (try simp only [List.getElem_toArray, List.getElem_cons_zero])
          (try go_frame)
          refine g_take0 (i := 2) rfl (by kernel_rfl) (by kernel_rfl) (by kernel_rfl) (by decide) (fun _ _ _ h => h) (Or.inl ⟨by kernel_rfl, by (intro w _; go_simp; try with_reducible rfl)⟩) (fun _ => hS) ?_
          (try simp only [List.getElem_toArray, List.getElem_cons_zero, List.getElem_cons_succ])
          (try go_frame)
          refine g_take0 (i := 3) rfl (by kernel_rfl) (by kernel_rfl) (by kernel_rfl) (by decide) (fun _ _ _ h => h) (Or.inl ⟨by kernel_rfl, by (intro w _; go_simp; try with_reducible rfl)⟩) (fun _ => hS) ?_
          (try simp only [List.getElem_toArray, List.getElem_cons_zero, List.getElem_cons_succ])
          (try go_frame)
          refine g_take0 (i := 4) rfl (by kernel_rfl) (by kernel_rfl) (by kernel_rfl) (by decide) (fun _ _ _ h => h) (Or.inl ⟨by kernel_rfl, by (intro w _; go_simp; try with_reducible rfl)⟩) (fun _ => hS) ?_
          (try simp only [List.getElem_toArray, List.getElem_cons_zero, List.getElem_cons_succ])
          (try go_frame)
          refine g_takeP [33, 29, 28, 24, 23, 14, 13, 7, 6] (i := 5) (v := .int .i64 T.first) rfl (by kernel_rfl) (by kernel_rfl) (by kernel_rfl) (by kernel_rfl) (fun _ _ _ h => h) (Or.inl ⟨by kernel_rfl, by (intro w hSw; (try dsimp only at hSw); obtain ⟨z0, z1⟩ := hSw; go_simp; try with_reducible rfl)⟩) hS ?_
          (try simp only [List.getElem_toArray, List.getElem_cons_zero, List.getElem_cons_succ])
          (try go_frame)
          refine g_op (i := 1) (by kernel_rfl) rfl ?_
          go_wp2_with fail
          refine (pair_first (PR11.out.upd UD.out)).mono ?_
          rintro e W1 ⟨rfl, rfl⟩
          go_wp2_with fail
          first | (refine ⟨fun _ => hS, ?_⟩) | (refine ⟨hS, ?_⟩)
          (try simp only [List.getElem_toArray, List.getElem_cons_zero, List.getElem_cons_succ])
          (try go_frame)
          refine g_take0 (i := 6) (v := .bool false) rfl (by kernel_rfl) (by kernel_rfl) (by kernel_rfl) (by decide) (fun _ _ _ h => h) (Or.inl ⟨by kernel_rfl, by (intro w _; go_simp; try with_reducible rfl)⟩) (fun _ => hS) ?_
          (try simp only [List.getElem_toArray, List.getElem_cons_zero, List.getElem_cons_succ])
          (try go_frame)
          refine g_take0 (i := 7) (v := .bool false) rfl (by kernel_rfl) (by kernel_rfl) (by kernel_rfl) (by decide) (fun _ _ _ h => h) (Or.inl ⟨by kernel_rfl, by (intro w _; go_simp; try with_reducible rfl)⟩) (fun _ => hS) ?_
          (try simp only [List.getElem_toArray, List.getElem_cons_zero, List.getElem_cons_succ])
          (try go_frame)
          refine g_take0 (i := 8) rfl (by kernel_rfl) (by kernel_rfl) (by kernel_rfl) (by decide) (fun _ _ _ h => h) (Or.inl ⟨by kernel_rfl, by (intro w _; go_simp; try with_reducible rfl)⟩) (fun _ => hS) ?_
          (try simp only [List.getElem_toArray, List.getElem_cons_zero, List.getElem_cons_succ])
          (try go_frame)
          refine g_take0 (i := 10) rfl (by kernel_rfl) (by kernel_rfl) (by kernel_rfl) (by decide) (fun _ _ _ h => h) (Or.inl ⟨by kernel_rfl, by (intro w _; go_simp; try with_reducible rfl)⟩) (fun _ => hS) ?_
          (try simp only [List.getElem_toArray, List.getElem_cons_zero, List.getElem_cons_succ])
          (try go_frame)
          refine g_want (i := 9) (by kernel_rfl) rfl (by kernel_rfl) ?_
          go_wp2_with fail
          refine (pair_len (PR11.out.upd UD.out) OKN.out).mono ?_
          rintro e W2 ⟨rfl, u_⟩
          have U2 := hid (UD.out.trans u_)
          clear u_ hS
          have hS2 := (HH.out _ U2.out).1
          go_wp2_with fail
          first | (refine ⟨fun _ => hS2, ?_⟩) | (refine ⟨hS2, ?_⟩)
          (try simp only [List.getElem_toArray, List.getElem_cons_zero, List.getElem_cons_succ])
          (try go_frame)
          refine g_want (i := 11) (by kernel_rfl) rfl (by kernel_rfl) ?_
          go_wp2_with fail
          refine (pair_rlen (PR11.out.upd U2.out) OKN.out).mono ?_
          rintro e W3 ⟨rfl, u_⟩
          have U3 := hid (U2.out.trans u_)
          clear u_ hS2
          have hS3 := (HH.out _ U3.out).1
          go_wp2_with fail
          first | (refine ⟨fun _ => hS3, ?_⟩) | (refine ⟨hS3, ?_⟩)
          (try simp only [List.getElem_toArray, List.getElem_cons_zero, List.getElem_cons_succ])
          (try go_frame)
          refine g_take0 (i := 12) (v := .bool false) rfl (by kernel_rfl) (by kernel_rfl) (by kernel_rfl) (by decide) (fun _ _ _ h => h) (Or.inl ⟨by kernel_rfl, by (intro w _; go_simp; try with_reducible rfl)⟩) (fun _ => hS3) ?_
          (try simp only [List.getElem_toArray, List.getElem_cons_zero, List.getElem_cons_succ])
          (try go_frame)
          refine g_take0 (i := 13) (v := .bool false) rfl (by kernel_rfl) (by kernel_rfl) (by kernel_rfl) (by decide) (fun _ _ _ h => h) (Or.inl ⟨by kernel_rfl, by (intro w _; go_simp; try with_reducible rfl)⟩) (fun _ => hS3) ?_
          (try simp only [List.getElem_toArray, List.getElem_cons_zero, List.getElem_cons_succ])
          (try go_frame)
          refine g_take0 (i := 14) rfl (by kernel_rfl) (by kernel_rfl) (by kernel_rfl) (by decide) (fun _ _ _ h => h) (Or.inl ⟨by kernel_rfl, by (intro w _; go_simp; try with_reducible rfl)⟩) (fun _ => hS3) ?_
          (try simp only [List.getElem_toArray, List.getElem_cons_zero, List.getElem_cons_succ])
          (try go_frame)
          refine g_take0 (i := 15) rfl (by kernel_rfl) (by kernel_rfl) (by kernel_rfl) (by decide) (fun _ _ _ h => h) (Or.inl ⟨by kernel_rfl, by (intro w _; go_simp; try with_reducible rfl)⟩) (fun _ => hS3) ?_
          (try simp only [List.getElem_toArray, List.getElem_cons_zero, List.getElem_cons_succ])
          (try go_frame)
          refine g_take0 (i := 17) rfl (by kernel_rfl) (by kernel_rfl) (by kernel_rfl) (by decide) (fun _ _ _ h => h) (Or.inl ⟨by kernel_rfl, by (intro w _; go_simp; try with_reducible rfl)⟩) (fun _ => hS3) ?_
          (try simp only [List.getElem_toArray, List.getElem_cons_zero, List.getElem_cons_succ])
          (try go_frame)
          refine g_take0 (i := 18) rfl (by kernel_rfl) (by kernel_rfl) (by kernel_rfl) (by decide) (fun _ _ _ h => h) (Or.inl ⟨by kernel_rfl, by (intro w _; go_simp; try with_reducible rfl)⟩) (fun _ => hS3) ?_
          (try simp only [List.getElem_toArray, List.getElem_cons_zero, List.getElem_cons_succ])
          (try go_frame)
          refine g_take0 (i := 19) rfl (by kernel_rfl) (by kernel_rfl) (by kernel_rfl) (by decide) (fun _ _ _ h => h) (Or.inl ⟨by kernel_rfl, by (intro w _; go_simp; try with_reducible rfl)⟩) (fun _ => hS3) ?_
          (try simp only [List.getElem_toArray, List.getElem_cons_zero, List.getElem_cons_succ])
          (try go_frame)
          refine g_takeP [33, 29, 28, 24, 23, 22, 21] (i := 20) (v := .slice ah T.recs.length ch) rfl (by kernel_rfl) (by kernel_rfl) (by kernel_rfl) (by kernel_rfl) (fun _ _ _ h => h) (Or.inl ⟨by kernel_rfl, by (intro w hSw; (try dsimp only at hSw); obtain ⟨z0, z1⟩ := hSw; go_simp; try with_reducible rfl)⟩) hS3 ?_
          (try simp only [List.getElem_toArray, List.getElem_cons_zero, List.getElem_cons_succ])
          (try go_frame)
          refine g_want (i := 16) (by kernel_rfl) rfl (by kernel_rfl) ?_
          go_wp2_with fail
          refine (pair_all (PR11.out.upd U3.out) OKN.out).mono ?_
          rintro e W4 ⟨⟨a8, c8, rfl, o8, _⟩, u_⟩
          have U4 := hid (U3.out.trans u_); have O8 := hid o8
          clear u_ hS3 o8
          have hS4 := (HH.out _ U4.out).1
          have SC := hid (sameTexts_any _ _ T.recs T.recs W4 (OwnS.rep O8.out (fun x hx => Nat.le_trans (OKN.out.txt x hx) (by decide)) fun g hg => Own1.lt O8.out g hg) (OwnS.rep (HH.out _ U4.out).2 (fun x hx => Nat.le_trans (OKN.out.txt x hx) (by decide)) fun g hg => Own1.lt (HH.out _ U4.out).2 g hg))
          rw [show (T.recs == T.recs) = true from beq_self_eq_true _] at SC
          go_wp2_with fail
          first | (refine ⟨fun _ => hS4, ?_⟩) | (refine ⟨hS4, ?_⟩)
          (try simp only [List.getElem_toArray, List.getElem_cons_zero, List.getElem_cons_succ])
          (try go_frame)
          refine g_want (i := 21) (by kernel_rfl) rfl (by kernel_rfl) ?_
          go_wp2_with fail
          refine SC.out.mono ?_
          rintro e W5 ⟨rfl, u_⟩
          have U5 := hid (U4.out.trans u_)
          clear u_ hS4 SC O8
          have hS5 := (HH.out _ U5.out).1
          go_wp2_with fail
          first | (refine ⟨fun _ => hS5, ?_⟩) | (refine ⟨hS5, ?_⟩)
          (try simp only [List.getElem_toArray, List.getElem_cons_zero, List.getElem_cons_succ])
          (try go_frame)
          refine g_take0 (i := 22) (v := .bool false) rfl (by kernel_rfl) (by kernel_rfl) (by kernel_rfl) (by decide) (fun _ _ _ h => h) (Or.inl ⟨by kernel_rfl, by (intro w _; go_simp; try with_reducible rfl)⟩) (fun _ => hS5) ?_
          (try simp only [List.getElem_toArray, List.getElem_cons_zero, List.getElem_cons_succ])
          (try go_frame)
          refine g_take0 (i := 23) (v := .bool false) rfl (by kernel_rfl) (by kernel_rfl) (by kernel_rfl) (by decide) (fun _ _ _ h => h) (Or.inl ⟨by kernel_rfl, by (intro w _; go_simp; try with_reducible rfl)⟩) (fun _ => hS5) ?_
          (try simp only [List.getElem_toArray, List.getElem_cons_zero, List.getElem_cons_succ])
          (try go_frame)
          refine g_take0 (i := 24) rfl (by kernel_rfl) (by kernel_rfl) (by kernel_rfl) (by decide) (fun _ _ _ h => h) (Or.inl ⟨by kernel_rfl, by (intro w _; go_simp; try with_reducible rfl)⟩) (fun _ => hS5) ?_
          (try simp only [List.getElem_toArray, List.getElem_cons_zero, List.getElem_cons_succ])
          (try go_frame)
          refine g_take0 (i := 25) rfl (by kernel_rfl) (by kernel_rfl) (by kernel_rfl) (by decide) (fun _ _ _ h => h) (Or.inl ⟨by kernel_rfl, by (intro w _; go_simp; try with_reducible rfl)⟩) (fun _ => hS5) ?_
          (try simp only [List.getElem_toArray, List.getElem_cons_zero, List.getElem_cons_succ])
          (try go_frame)
          refine g_take0 (i := 26) rfl (by kernel_rfl) (by kernel_rfl) (by kernel_rfl) (by decide) (fun _ _ _ h => h) (Or.inl ⟨by kernel_rfl, by (intro w _; go_simp; try with_reducible rfl)⟩) (fun _ => hS5) ?_
          (try simp only [List.getElem_toArray, List.getElem_cons_zero, List.getElem_cons_succ])
          (try go_frame)
          refine g_take0 (i := 27) (v := .bool false) rfl (by kernel_rfl) (by kernel_rfl) (by kernel_rfl) (by decide) (fun _ _ _ h => h) (Or.inl ⟨by kernel_rfl, by (intro w _; go_simp; try with_reducible rfl)⟩) (fun _ => hS5) ?_
          (try simp only [List.getElem_toArray, List.getElem_cons_zero, List.getElem_cons_succ])
          (try go_frame)
          refine g_take0 (i := 28) (v := .bool false) rfl (by kernel_rfl) (by kernel_rfl) (by kernel_rfl) (by decide) (fun _ _ _ h => h) (Or.inl ⟨by kernel_rfl, by (intro w _; go_simp; try with_reducible rfl)⟩) (fun _ => hS5) ?_
          (try simp only [List.getElem_toArray, List.getElem_cons_zero, List.getElem_cons_succ])
          (try go_frame)
          refine g_take0 (i := 29) rfl (by kernel_rfl) (by kernel_rfl) (by kernel_rfl) (by decide) (fun _ _ _ h => h) (Or.inl ⟨by kernel_rfl, by (intro w _; go_simp; try with_reducible rfl)⟩) (fun _ => hS5) ?_
          (try simp only [List.getElem_toArray, List.getElem_cons_zero, List.getElem_cons_succ])
          (try go_frame)
          refine g_take0 (i := 30) rfl (by kernel_rfl) (by kernel_rfl) (by kernel_rfl) (by decide) (fun _ _ _ h => h) (Or.inl ⟨by kernel_rfl, by (intro w _; go_simp; try with_reducible rfl)⟩) (fun _ => hS5) ?_
          (try simp only [List.getElem_toArray, List.getElem_cons_zero, List.getElem_cons_succ])
          (try go_frame)
          refine g_take0 (i := 31) rfl (by kernel_rfl) (by kernel_rfl) (by kernel_rfl) (by decide) (fun _ _ _ h => h) (Or.inl ⟨by kernel_rfl, by (intro w _; go_simp; try with_reducible rfl)⟩) (fun _ => hS5) ?_
          (try simp only [List.getElem_toArray, List.getElem_cons_zero, List.getElem_cons_succ])
          (try go_frame)
          refine g_take0 (i := 32) (v := .bool false) rfl (by kernel_rfl) (by kernel_rfl) (by kernel_rfl) (by decide) (fun _ _ _ h => h) (Or.inl ⟨by kernel_rfl, by (intro w _; go_simp; try with_reducible rfl)⟩) (fun _ => hS5) ?_
          (try simp only [List.getElem_toArray, List.getElem_cons_zero, List.getElem_cons_succ])
          (try go_frame)
          refine g_op (i := 33) (by kernel_rfl) rfl ?_
          go_wp2_with fail
          refine ⟨fun h => (Bool.false_ne_true (h.symm.trans (by kernel_rfl))).elim, ?_⟩
          (try simp only [List.getElem_toArray, List.getElem_cons_zero, List.getElem_cons_succ])
          (try go_frame)
          refine g_done (by kernel_rfl) ?_
          have NXT := hid (show TellsAt w nb np p q p2 q2 g2 (i + 1) (.pointer (some ⟨y1, 0, none⟩)) (.int .i64 0) (.pointer (some ⟨y2, 0, none⟩)) (.int .i64 0) W5 from
            ⟨y1, y2, z2, G, T, 0, T.first, T.recs, rfl, rfl, rfl, rfl, PR11.out.upd U5.out, LAN.out⟩)
          clear hS5 HH
          go_wp2_with fail
          go_roundg (l.length - (i + 1))
          case measure => have := HG.out; omega
          case rel => exact ⟨i + 1, by go_num, hlt, rfl, NXT.out⟩
      as_aux_lemma =>
        have g4 : (kd == 4) = false := beq_eq_false_iff_ne.2 h4
        have g5 : (kd == 5) = false := beq_eq_false_iff_ne.2 h5
        have SDN := hid (show G.down = F.down from SD.out (by rintro (h | h); exact h4 h; exact h5 h))
        have LAN := hid ((LA.out.shake SK.out SDN.out).wide (Nat.le_succ i))
        have OKN := STOK
        go_wp2_with fail
        refine KC.out.mono ?_
        rintro e w5 ⟨rfl, f5, u5⟩
        have E5 := hid (u5.block ob (heap_lt BO.out) (fun e => PNE.out.1 e))
        have PR5 := hid (PRA.out.shaken f5 u5 SK.out.nb SK.out.np)
        clear f5 u5 z0 z1 z2 z3 KC
        obtain ⟨z0, z1, z2, z3⟩ := cell.out w5 E5.out
        go_wp2_with fail
        refine (KR.out _ PR5.out.flashes.2.1).mono ?_
        rintro e w6 ⟨rfl, f6, u6⟩
        have E6 := hid ((u6.block ob (heap_lt (E5.out.trans BO.out)) (fun e => PNE.out.2 e)).trans E5.out)
        have PRN := hid (PR5.out.rshaken f6 u6 SK.out.nb SK.out.np)
        clear f6 u6 z0 z1 z2 z3 KR
        obtain ⟨z0, z1, z2, z3⟩ := cell.out w6 E6.out
        go_upto_region 29 with (fail)
        clear z0 z1 z2 z3
        have DC := hid (fun q' : UW w6 => down_any p q q'.w G (PRN.out.flashes.upd q'.u).1)
        obtain ⟨capd, ⟨d0, d1, d2, d3, d4, d5⟩, _⟩ := PRN.out.flashes.2.1.cells
        obtain ⟨gd, hgd⟩ : ∃ gd, G.down = gd := ⟨_, rfl⟩
        rw [hgd] at DC d2
        have ec2 := fun p : UW w6 => p.cell d2
        have hv := DC.out
        clear d0 d1 d2 d3 d4 d5 hgd DC
        refine region_upd (by kernel_rfl) (by kernel_rfl) ?_
        repeat (go_big_quiet_step ((go_at_call 11; with_reducible exact Calls.upd_same (hv _))))
        refine wpQuiet_nil ?_
        intro w9 hw1
        obtain ⟨pw, hpw⟩ := hw1
        have uq : Upd (fun _ => False) w6 w9 := by rw [hpw]; exact pw.u
        clear hpw pw
        have PR9 := hid (PRN.out.upd uq)
        clear uq hv ec2 PRN
        obtain ⟨R, hR⟩ : ∃ R, getP S i0 = R := ⟨_, rfl⟩
        have GC := hid (pair_get PR9.out OKN.out i0 I0.out hR)
        have GR := hid (fun (wq : World) (pr : Pair w p q p2 q2 g2 x1 x2 ob G S G S wq) => pair_rget pr OKN.out i0 I0.out hR)
        obtain ⟨rs, rb⟩ := R
        dsimp only at GC GR
        clear hR
        go_wp2_with fail
        refine GC.out.mono ?_
        rintro e w10 ⟨rfl, u10⟩
        have PR10 := hid (PR9.out.upd u10)
        clear u10 GC
        go_wp2_with fail
        refine (GR.out _ PR10.out).mono ?_
        rintro e w11 ⟨rfl, u11⟩
        have PR11 := hid (PR10.out.upd u11)
        clear u11 GR PR9 PR10
        obtain ⟨ah, ch, hh⟩ := PR11.out.rhead
        have HH := hid hh
        clear hh
        go_upto_region 34 with (fail)
        refine wp_region_g (fun w' => w'.cell? ⟨x2, 3, none⟩ = some (.int .i64 S.first) ∧ w'.cell? ⟨x2, 5, none⟩ = some (.slice ah S.recs.length ch)) 33 (by kernel_rfl) ?_
        obtain ⟨Wd, hWd⟩ : ∃ Wd, w11.drew = Wd := ⟨_, rfl⟩
        have UD := hid (show Upd (fun _ => False) w11 Wd by rw [← hWd]; exact (Upd.refl _ _).drew)
        rw [hWd]
        clear hWd
        have hS := (HH.out Wd UD.out).1
        refine g_take0 (i := 0) rfl (by kernel_rfl) (by kernel_rfl) (by kernel_rfl) (by decide) (fun _ _ _ h => h) (Or.inl ⟨by kernel_rfl, by (intro w _; go_simp; try with_reducible rfl)⟩) (fun _ => hS) ?_
        (try simp only [List.getElem_toArray, List.getElem_cons_zero])
        (try go_frame)
        refine g_take0 (i := 2) rfl (by kernel_rfl) (by kernel_rfl) (by kernel_rfl) (by decide) (fun _ _ _ h => h) (Or.inl ⟨by kernel_rfl, by (intro w _; go_simp; try with_reducible rfl)⟩) (fun _ => hS) ?_
        (try simp only [List.getElem_toArray, List.getElem_cons_zero, List.getElem_cons_succ])
        (try go_frame)
        refine g_take0 (i := 3) rfl (by kernel_rfl) (by kernel_rfl) (by kernel_rfl) (by decide) (fun _ _ _ h => h) (Or.inl ⟨by kernel_rfl, by (intro w _; go_simp; try with_reducible rfl)⟩) (fun _ => hS) ?_
        (try simp only [List.getElem_toArray, List.getElem_cons_zero, List.getElem_cons_succ])
        (try go_frame)
        refine g_take0 (i := 4) rfl (by kernel_rfl) (by kernel_rfl) (by kernel_rfl) (by decide) (fun _ _ _ h => h) (Or.inl ⟨by kernel_rfl, by (intro w _; go_simp; try with_reducible rfl)⟩) (fun _ => hS) ?_
        (try simp only [List.getElem_toArray, List.getElem_cons_zero, List.getElem_cons_succ])
        (try go_frame)
        refine g_takeP [33, 29, 28, 24, 23, 14, 13, 7, 6] (i := 5) (v := .int .i64 S.first) rfl (by kernel_rfl) (by kernel_rfl) (by kernel_rfl) (by kernel_rfl) (fun _ _ _ h => h) (Or.inl ⟨by kernel_rfl, by (intro w hSw; (try dsimp only at hSw); obtain ⟨z0, z1⟩ := hSw; go_simp; try with_reducible rfl)⟩) hS ?_
        (try simp only [List.getElem_toArray, List.getElem_cons_zero, List.getElem_cons_succ])
        (try go_frame)
        refine g_op (i := 1) (by kernel_rfl) rfl ?_
        go_wp2_with fail
        refine (pair_first (PR11.out.upd UD.out)).mono ?_
        rintro e W1 ⟨rfl, rfl⟩
        go_wp2_with fail
        first | (refine ⟨fun _ => hS, ?_⟩) | (refine ⟨hS, ?_⟩)
        (try simp only [List.getElem_toArray, List.getElem_cons_zero, List.getElem_cons_succ])
        (try go_frame)
        refine g_take0 (i := 6) (v := .bool false) rfl (by kernel_rfl) (by kernel_rfl) (by kernel_rfl) (by decide) (fun _ _ _ h => h) (Or.inl ⟨by kernel_rfl, by (intro w _; go_simp; try with_reducible rfl)⟩) (fun _ => hS) ?_
        (try simp only [List.getElem_toArray, List.getElem_cons_zero, List.getElem_cons_succ])
        (try go_frame)
        refine g_take0 (i := 7) (v := .bool false) rfl (by kernel_rfl) (by kernel_rfl) (by kernel_rfl) (by decide) (fun _ _ _ h => h) (Or.inl ⟨by kernel_rfl, by (intro w _; go_simp; try with_reducible rfl)⟩) (fun _ => hS) ?_
        (try simp only [List.getElem_toArray, List.getElem_cons_zero, List.getElem_cons_succ])
        (try go_frame)
        refine g_take0 (i := 8) rfl (by kernel_rfl) (by kernel_rfl) (by kernel_rfl) (by decide) (fun _ _ _ h => h) (Or.inl ⟨by kernel_rfl, by (intro w _; go_simp; try with_reducible rfl)⟩) (fun _ => hS) ?_
        (try simp only [List.getElem_toArray, List.getElem_cons_zero, List.getElem_cons_succ])
        (try go_frame)
        refine g_take0 (i := 10) rfl (by kernel_rfl) (by kernel_rfl) (by kernel_rfl) (by decide) (fun _ _ _ h => h) (Or.inl ⟨by kernel_rfl, by (intro w _; go_simp; try with_reducible rfl)⟩) (fun _ => hS) ?_
        (try simp only [List.getElem_toArray, List.getElem_cons_zero, List.getElem_cons_succ])
        (try go_frame)
        refine g_want (i := 9) (by kernel_rfl) rfl (by kernel_rfl) ?_
        go_wp2_with fail
        refine (pair_len (PR11.out.upd UD.out) OKN.out).mono ?_
        rintro e W2 ⟨rfl, u_⟩
        have U2 := hid (UD.out.trans u_)
        clear u_ hS
        have hS2 := (HH.out _ U2.out).1
        go_wp2_with fail
        first | (refine ⟨fun _ => hS2, ?_⟩) | (refine ⟨hS2, ?_⟩)
        (try simp only [List.getElem_toArray, List.getElem_cons_zero, List.getElem_cons_succ])
        (try go_frame)
        refine g_want (i := 11) (by kernel_rfl) rfl (by kernel_rfl) ?_
        go_wp2_with fail
        refine (pair_rlen (PR11.out.upd U2.out) OKN.out).mono ?_
        rintro e W3 ⟨rfl, u_⟩
        have U3 := hid (U2.out.trans u_)
        clear u_ hS2
        have hS3 := (HH.out _ U3.out).1
        go_wp2_with fail
        first | (refine ⟨fun _ => hS3, ?_⟩) | (refine ⟨hS3, ?_⟩)
        (try simp only [List.getElem_toArray, List.getElem_cons_zero, List.getElem_cons_succ])
        (try go_frame)
        refine g_take0 (i := 12) (v := .bool false) rfl (by kernel_rfl) (by kernel_rfl) (by kernel_rfl) (by decide) (fun _ _ _ h => h) (Or.inl ⟨by kernel_rfl, by (intro w _; go_simp; try with_reducible rfl)⟩) (fun _ => hS3) ?_
        (try simp only [List.getElem_toArray, List.getElem_cons_zero, List.getElem_cons_succ])
        (try go_frame)
        refine g_take0 (i := 13) (v := .bool false) rfl (by kernel_rfl) (by kernel_rfl) (by kernel_rfl) (by decide) (fun _ _ _ h => h) (Or.inl ⟨by kernel_rfl, by (intro w _; go_simp; try with_reducible rfl)⟩) (fun _ => hS3) ?_
        (try simp only [List.getElem_toArray, List.getElem_cons_zero, List.getElem_cons_succ])
        (try go_frame)
        refine g_take0 (i := 14) rfl (by kernel_rfl) (by kernel_rfl) (by kernel_rfl) (by decide) (fun _ _ _ h => h) (Or.inl ⟨by kernel_rfl, by (intro w _; go_simp; try with_reducible rfl)⟩) (fun _ => hS3) ?_
        (try simp only [List.getElem_toArray, List.getElem_cons_zero, List.getElem_cons_succ])
        (try go_frame)
        refine g_take0 (i := 15) rfl (by kernel_rfl) (by kernel_rfl) (by kernel_rfl) (by decide) (fun _ _ _ h => h) (Or.inl ⟨by kernel_rfl, by (intro w _; go_simp; try with_reducible rfl)⟩) (fun _ => hS3) ?_
        (try simp only [List.getElem_toArray, List.getElem_cons_zero, List.getElem_cons_succ])
        (try go_frame)
        refine g_take0 (i := 17) rfl (by kernel_rfl) (by kernel_rfl) (by kernel_rfl) (by decide) (fun _ _ _ h => h) (Or.inl ⟨by kernel_rfl, by (intro w _; go_simp; try with_reducible rfl)⟩) (fun _ => hS3) ?_
        (try simp only [List.getElem_toArray, List.getElem_cons_zero, List.getElem_cons_succ])
        (try go_frame)
        refine g_take0 (i := 18) rfl (by kernel_rfl) (by kernel_rfl) (by kernel_rfl) (by decide) (fun _ _ _ h => h) (Or.inl ⟨by kernel_rfl, by (intro w _; go_simp; try with_reducible rfl)⟩) (fun _ => hS3) ?_
        (try simp only [List.getElem_toArray, List.getElem_cons_zero, List.getElem_cons_succ])
        (try go_frame)
        refine g_take0 (i := 19) rfl (by kernel_rfl) (by kernel_rfl) (by kernel_rfl) (by decide) (fun _ _ _ h => h) (Or.inl ⟨by kernel_rfl, by (intro w _; go_simp; try with_reducible rfl)⟩) (fun _ => hS3) ?_
        (try simp only [List.getElem_toArray, List.getElem_cons_zero, List.getElem_cons_succ])
        (try go_frame)
        refine g_takeP [33, 29, 28, 24, 23, 22, 21] (i := 20) (v := .slice ah S.recs.length ch) rfl (by kernel_rfl) (by kernel_rfl) (by kernel_rfl) (by kernel_rfl) (fun _ _ _ h => h) (Or.inl ⟨by kernel_rfl, by (intro w hSw; (try dsimp only at hSw); obtain ⟨z0, z1⟩ := hSw; go_simp; try with_reducible rfl)⟩) hS3 ?_
        (try simp only [List.getElem_toArray, List.getElem_cons_zero, List.getElem_cons_succ])
        (try go_frame)
        refine g_want (i := 16) (by kernel_rfl) rfl (by kernel_rfl) ?_
        go_wp2_with fail
        refine (pair_all (PR11.out.upd U3.out) OKN.out).mono ?_
        rintro e W4 ⟨⟨a8, c8, rfl, o8, _⟩, u_⟩
        have U4 := hid (U3.out.trans u_); have O8 := hid o8
        clear u_ hS3 o8
        have hS4 := (HH.out _ U4.out).1
        have SC := hid (sameTexts_any _ _ S.recs S.recs W4 (OwnS.rep O8.out (fun x hx => Nat.le_trans (OKN.out.txt x hx) (by decide)) fun g hg => Own1.lt O8.out g hg) (OwnS.rep (HH.out _ U4.out).2 (fun x hx => Nat.le_trans (OKN.out.txt x hx) (by decide)) fun g hg => Own1.lt (HH.out _ U4.out).2 g hg))
        rw [show (S.recs == S.recs) = true from beq_self_eq_true _] at SC
        go_wp2_with fail
        first | (refine ⟨fun _ => hS4, ?_⟩) | (refine ⟨hS4, ?_⟩)
        (try simp only [List.getElem_toArray, List.getElem_cons_zero, List.getElem_cons_succ])
        (try go_frame)
        refine g_want (i := 21) (by kernel_rfl) rfl (by kernel_rfl) ?_
        go_wp2_with fail
        refine SC.out.mono ?_
        rintro e W5 ⟨rfl, u_⟩
        have U5 := hid (U4.out.trans u_)
        clear u_ hS4 SC O8
        have hS5 := (HH.out _ U5.out).1
        go_wp2_with fail
        first | (refine ⟨fun _ => hS5, ?_⟩) | (refine ⟨hS5, ?_⟩)
        (try simp only [List.getElem_toArray, List.getElem_cons_zero, List.getElem_cons_succ])
        (try go_frame)
        refine g_take0 (i := 22) (v := .bool false) rfl (by kernel_rfl) (by kernel_rfl) (by kernel_rfl) (by decide) (fun _ _ _ h => h) (Or.inl ⟨by kernel_rfl, by (intro w _; go_simp; try with_reducible rfl)⟩) (fun _ => hS5) ?_
        (try simp only [List.getElem_toArray, List.getElem_cons_zero, List.getElem_cons_succ])
        (try go_frame)
        refine g_take0 (i := 23) (v := .bool false) rfl (by kernel_rfl) (by kernel_rfl) (by kernel_rfl) (by decide) (fun _ _ _ h => h) (Or.inl ⟨by kernel_rfl, by (intro w _; go_simp; try with_reducible rfl)⟩) (fun _ => hS5) ?_
        (try simp only [List.getElem_toArray, List.getElem_cons_zero, List.getElem_cons_succ])
        (try go_frame)
        refine g_take0 (i := 24) rfl (by kernel_rfl) (by kernel_rfl) (by kernel_rfl) (by decide) (fun _ _ _ h => h) (Or.inl ⟨by kernel_rfl, by (intro w _; go_simp; try with_reducible rfl)⟩) (fun _ => hS5) ?_
        (try simp only [List.getElem_toArray, List.getElem_cons_zero, List.getElem_cons_succ])
        (try go_frame)
        refine g_take0 (i := 25) rfl (by kernel_rfl) (by kernel_rfl) (by kernel_rfl) (by decide) (fun _ _ _ h => h) (Or.inl ⟨by kernel_rfl, by (intro w _; go_simp; try with_reducible rfl)⟩) (fun _ => hS5) ?_
        (try simp only [List.getElem_toArray, List.getElem_cons_zero, List.getElem_cons_succ])
        (try go_frame)
        refine g_take0 (i := 26) rfl (by kernel_rfl) (by kernel_rfl) (by kernel_rfl) (by decide) (fun _ _ _ h => h) (Or.inl ⟨by kernel_rfl, by (intro w _; go_simp; try with_reducible rfl)⟩) (fun _ => hS5) ?_
        (try simp only [List.getElem_toArray, List.getElem_cons_zero, List.getElem_cons_succ])
        (try go_frame)
        refine g_take0 (i := 27) (v := .bool false) rfl (by kernel_rfl) (by kernel_rfl) (by kernel_rfl) (by decide) (fun _ _ _ h => h) (Or.inl ⟨by kernel_rfl, by (intro w _; go_simp; try with_reducible rfl)⟩) (fun _ => hS5) ?_
        (try simp only [List.getElem_toArray, List.getElem_cons_zero, List.getElem_cons_succ])
        (try go_frame)
        refine g_take0 (i := 28) (v := .bool false) rfl (by kernel_rfl) (by kernel_rfl) (by kernel_rfl) (by decide) (fun _ _ _ h => h) (Or.inl ⟨by kernel_rfl, by (intro w _; go_simp; try with_reducible rfl)⟩) (fun _ => hS5) ?_
        (try simp only [List.getElem_toArray, List.getElem_cons_zero, List.getElem_cons_succ])
        (try go_frame)
        refine g_take0 (i := 29) rfl (by kernel_rfl) (by kernel_rfl) (by kernel_rfl) (by decide) (fun _ _ _ h => h) (Or.inl ⟨by kernel_rfl, by (intro w _; go_simp; try with_reducible rfl)⟩) (fun _ => hS5) ?_
        (try simp only [List.getElem_toArray, List.getElem_cons_zero, List.getElem_cons_succ])
        (try go_frame)
        refine g_take0 (i := 30) rfl (by kernel_rfl) (by kernel_rfl) (by kernel_rfl) (by decide) (fun _ _ _ h => h) (Or.inl ⟨by kernel_rfl, by (intro w _; go_simp; try with_reducible rfl)⟩) (fun _ => hS5) ?_
        (try simp only [List.getElem_toArray, List.getElem_cons_zero, List.getElem_cons_succ])
        (try go_frame)
        refine g_take0 (i := 31) rfl (by kernel_rfl) (by kernel_rfl) (by kernel_rfl) (by decide) (fun _ _ _ h => h) (Or.inl ⟨by kernel_rfl, by (intro w _; go_simp; try with_reducible rfl)⟩) (fun _ => hS5) ?_
        (try simp only [List.getElem_toArray, List.getElem_cons_zero, List.getElem_cons_succ])
        (try go_frame)
        refine g_take0 (i := 32) (v := .bool false) rfl (by kernel_rfl) (by kernel_rfl) (by kernel_rfl) (by decide) (fun _ _ _ h => h) (Or.inl ⟨by kernel_rfl, by (intro w _; go_simp; try with_reducible rfl)⟩) (fun _ => hS5) ?_
        (try simp only [List.getElem_toArray, List.getElem_cons_zero, List.getElem_cons_succ])
        (try go_frame)
        refine g_op (i := 33) (by kernel_rfl) rfl ?_
        go_wp2_with fail
        refine ⟨fun h => (Bool.false_ne_true (h.symm.trans (by kernel_rfl))).elim, ?_⟩
        (try simp only [List.getElem_toArray, List.getElem_cons_zero, List.getElem_cons_succ])
        (try go_frame)
        refine g_done (by kernel_rfl) ?_
        have NXT := hid (show TellsAt w nb np p q p2 q2 g2 (i + 1) (.pointer (some ⟨x1, 0, none⟩)) (.int .i64 ev) (.pointer (some ⟨x2, 0, none⟩)) (.int .i64 ev) W5 from
          ⟨x1, x2, ob, G, S, ev, second, other, rfl, rfl, rfl, rfl, PR11.out.upd U5.out, LAN.out⟩)
        clear hS5 HH
        go_wp2_with fail
        go_roundg (l.length - (i + 1))
        case measure => have := HG.out; omega
        case rel => exact ⟨i + 1, by go_num, hlt, rfl, NXT.out⟩
theorem tells_card (x0 x1 i0 : Int) (v : Value) (l : List OpS) (w : World) (E : Env w) (hz : 6 ≤ w.heap.size) (h0 : (Lit.int .u8 x0).wf = true) (h1 : (Lit.int .u8 x1).wf = true) (hi0 : (Lit.int .i64 i0).wf = true) (hl : (kSlice kOpS).rep (· < w.heap.size) w [v] l) :
    Calls Tryz.prog 3 #[.int .u8 x0, .int .u8 x1, v, .int .i64 i0] w fun e w' => e = .returned (.bool true) ∧ Below w.heap.size w w' :=
  (tells_walk x0 x1 i0 v l w E hz h0 h1 hi0 hl).mono fun _ _ h => ⟨h.1, h.2.below (Nat.le_refl _) fun _ h => h.elim⟩
end Go.Proofs.YtlefilfdomjkeaaGreatDoor
namespace Go.Proofs.YtlefilfdomjkeaaGreatDoor
open Go.RowKit Go.Deep
theorem tells_at (x0 x1 : Int) (v : Value) (l : List OpS) (i0 : Int) (w : World) (E : Env w) (hz : 6 ≤ w.heap.size) (h0 : (Lit.int .u8 x0).wf = true) (h1 : (Lit.int .u8 x1).wf = true) (hl : (kSlice kOpS).rep (· < w.heap.size) w [v] l) (hi0 : (Lit.int .i64 i0).wf = true) :
    Calls Tryz.prog 3 #[.int .u8 x0, .int .u8 x1, v, .int .i64 i0] w fun e w' => e = .returned (.bool true) ∧ Below w.heap.size w w' := tells_card x0 x1 i0 v l w E hz h0 h1 hi0 hl
end Go.Proofs.YtlefilfdomjkeaaGreatDoor
