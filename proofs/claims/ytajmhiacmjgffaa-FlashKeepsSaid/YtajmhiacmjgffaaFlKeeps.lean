/- The walk of FlashKeeps. -/
import Derived.Test.YtajmhiacmjgffaaFlKeepsPlain
import Derived.Deep.Cut
import Derived.Deep.CutRange
import Derived.Deep.DeepCutAuto
namespace Go.Proofs.Ytajmhiacmjgffaa
open Go.RowKit

theorem cells_x {w : World} {x : Nat} {v0 v1 v2 v3 v4 v5 : Value} (h : w.heap[x]? = some (.cells #[v0, v1, v2, v3, v4, v5] 31 (0, 0))) :
    w.cell? ⟨x, 0, none⟩ = some v0 ∧ w.cell? ⟨x, 1, none⟩ = some v1 ∧ w.cell? ⟨x, 2, none⟩ = some v2 ∧ w.cell? ⟨x, 3, none⟩ = some v3 :=
  ⟨by rw [cell_of_block h]; rfl, by rw [cell_of_block h]; rfl, by rw [cell_of_block h]; rfl, by rw [cell_of_block h]; rfl⟩

theorem cells_x6 {w : World} {x : Nat} {v0 v1 v2 v3 v4 v5 : Value} (h : w.heap[x]? = some (.cells #[v0, v1, v2, v3, v4, v5] 31 (0, 0))) :
    (w.cell? ⟨x, 0, none⟩ = some v0 ∧ w.cell? ⟨x, 1, none⟩ = some v1 ∧ w.cell? ⟨x, 2, none⟩ = some v2) ∧ w.cell? ⟨x, 3, none⟩ = some v3 ∧ w.cell? ⟨x, 4, none⟩ = some v4 ∧ w.cell? ⟨x, 5, none⟩ = some v5 :=
  ⟨⟨by rw [cell_of_block h]; rfl, by rw [cell_of_block h]; rfl, by rw [cell_of_block h]; rfl⟩, by rw [cell_of_block h]; rfl, by rw [cell_of_block h]; rfl, by rw [cell_of_block h]; rfl⟩

theorem wrap_small {x : Int} (h0 : 0 ≤ x) (h1 : x ≤ 20) : wrap64 x = x := IntWalk.wrap64_in _ (by constructor <;> omega)

theorem wrap_small2 {x : Int} (h0 : 0 ≤ x) (h1 : x ≤ 20) : IntKind.i64.wrap x = x := IntWalk.i64_in _ (by omega)

theorem act_down (F : Fl) (o : OpM) (h0 : o.kind ≠ 0) (h1 : o.kind ≠ 1) (hf : F.down = false) (hg : (F.act o).1.down = true) : ¬ o.kind < 2 := by
  intro h
  have e : (F.act o).1 = F := by
    unfold Fl.act
    rw [if_neg h0, if_neg h1, if_neg (by omega), if_neg (by omega), if_neg (by omega), if_neg (by omega)]
  rw [e, hf] at hg
  exact absurd hg (by decide)

theorem cell_upd {w w' : World} {a : Addr} {v : Value} (h : w.cell? a = some v) (u : Upd (fun _ => False) w w') : w'.cell? a = some v :=
  cell_kept h (u.block _ (World.block_lt_of_cell? _ _ h) id)

theorem cells_upd {w : World} {a0 a1 a2 a3 b1 b2 b3 b4 : Addr} {v0 v1 v2 v3 u1 u2 u3 u4 : Value} (h0 : w.cell? a0 = some v0) (h1 : w.cell? a1 = some v1) (h2 : w.cell? a2 = some v2) (h3 : w.cell? a3 = some v3)
    (k1 : w.cell? b1 = some u1) (k2 : w.cell? b2 = some u2) (k3 : w.cell? b3 = some u3) (k4 : w.cell? b4 = some u4) : ∀ W, Upd (fun _ => False) w W →
    (W.cell? a0 = some v0 ∧ W.cell? a1 = some v1 ∧ W.cell? a2 = some v2 ∧ W.cell? a3 = some v3) ∧ W.cell? b1 = some u1 ∧ W.cell? b2 = some u2 ∧ W.cell? b3 = some u3 ∧ W.cell? b4 = some u4 :=
  fun _ u => ⟨⟨cell_upd h0 u, cell_upd h1 u, cell_upd h2 u, cell_upd h3 u⟩, cell_upd k1 u, cell_upd k2 u, cell_upd k3 u, cell_upd k4 u⟩

theorem bytes_ne {a b : ByteArray} (h : a = b) : (a.toList = b.toList) = True := by rw [h]; simp

set_option maxRecDepth 100000 in
set_option maxHeartbeats 16000000 in
theorem keeps_walk (x0 x1 : Int) (v : Value) (l : List OpM) (w : World) (hx0 : (Lit.int .u8 x0).wf = true) (hx1 : (Lit.int .u8 x1).wf = true) (hl : (kSlice kOp).rep (· < w.heap.size) w [v] l) :
    Calls Try.prog 5 #[.int .u8 x0, .int .u8 x1, v] w fun e w' => e = .returned (.bool true) ∧ Below w.heap.size w w' := by
  have h0 := bounds_u8 hx0
  have h1 := bounds_u8 hx1
  have HL := hid hl
  obtain ⟨a, cap, rfl, hl1, hl2, hl3⟩ := slice_open hl
  have hl2 : cap ≤ 9223372036854775807 := hl2
  have HE := hid hl3
  clear hl hl3 hx0 hx1
  obtain ⟨b, hb⟩ := Int.eq_ofNat_of_zero_le (by omega : 0 ≤ 1 + x0 % 4)
  obtain ⟨np, hnp⟩ := Int.eq_ofNat_of_zero_le (by omega : 0 ≤ 1 + x1 % 5)
  have hb4 : 1 ≤ b ∧ b ≤ 4 := by omega
  have hp5 : 1 ≤ np ∧ np ≤ 5 := by omega
  go_enter Try.func5, Try.ntmps5
  go_wp2_with fail
  refine (small_any _).mono ?_
  rintro e w1 ⟨rfl, b1⟩
  have B1 := hid b1; clear b1
  go_wp2_with fail
  refine (new_any _ _ _ (by omega) (by omega)).mono ?_
  rintro e w2 ⟨p, q, hp, hq, rfl, f2, u2⟩
  have f2 : FlashAt w2 p q (Fl.new b np) := f2
  have B2 := hid (B1.out.trans (u2.below B1.out.size (fun _ h => h.elim)))
  have hp : w.heap.size ≤ p := Nat.le_trans B1.out.size hp
  have hq : w.heap.size ≤ q := Nat.le_trans B1.out.size hq
  have F2 := hid f2; clear f2 u2 B1
  go_wp2_with fail
  refine (few_any _ (· < w.heap.size) l 40 _ ((kSlice kOp).keep HL.out (Same.of_below B2.out fun _ h => h)) (by decide)).mono ?_
  rintro e w3 ⟨rfl, rfl⟩
  cases hf : few l 40
  · go_wp2_with fail
    go_ret
    exact ⟨rfl, B2.out⟩
  have hlen : l.length ≤ 40 := by
    unfold few at hf; rw [Bool.and_eq_true] at hf; simpa using hf.1
  have hpp : ∀ k, k = p ∨ k = q → w.heap.size ≤ k := two_le hp hq
  have PP := hid hpp; clear hpp
  go_wp2_with fail
  go_loopg [12] l.length (fun n i wr => ∃ k F, k ≤ l.length ∧ n = l.length - k ∧ i = .int .i64 k ∧ FlashAt wr p q F ∧ F.nb = b ∧ F.np = np ∧ Below w.heap.size w wr)
  case atStart => exact ⟨0, _, Nat.zero_le _, by omega, rfl, F2.out, rfl, rfl, B2.out⟩
  case round =>
    clear F2 B2
    obtain ⟨k, F, hk, hn, rfl, hF, hnb, hnpp, hB⟩ := hrel
    have HF := hid hF; have HB := hid hB; have HN := hid hn; have HNB := hid hnb; have HNP := hid hnpp
    clear hF hB hn hnb hnpp
    by_cases hlt : k < l.length
    · obtain ⟨b0, o0, rfl, hb0, hel⟩ := HE.out (by omega)
      have hel := hel.keep (Same.of_below HB.out fun _ h => h) hb0
      obtain ⟨⟨e0, e1, e2, e3, e4, e5⟩, hok⟩ := op_cells hel hlt
      have OK := hid hok; clear hok hel HE HL
      have hBw := HB.out.size
      have hlw := HF.out.lt
      have hps : p < wr.heap.size := hlw.1
      have hqs : q < wr.heap.size := hlw.2
      clear hlw
      go_wp2_with fail
      have f3 := HF.out.upd ((Upd.refl (fun _ => False) wr).alloc (.cells #[.int .i64 l[k].kind, .int .i64 l[k].block, .int .i64 l[k].page, .string l[k].s, .int .i64 l[k].n, .int .i64 l[k].keep] 31 (0, 0))) id id (fun _ h => h.elim)
      have hx : (wr.alloc (.cells #[.int .i64 l[k].kind, .int .i64 l[k].block, .int .i64 l[k].page, .string l[k].s, .int .i64 l[k].n, .int .i64 l[k].keep] 31 (0, 0))).heap[wr.heap.size]? = some (.cells #[.int .i64 l[k].kind, .int .i64 l[k].block, .int .i64 l[k].page, .string l[k].s, .int .i64 l[k].n, .int .i64 l[k].keep] 31 (0, 0)) := heap_alloc_new
      have b3 := HB.out.alloc hBw (.cells #[.int .i64 l[k].kind, .int .i64 l[k].block, .int .i64 l[k].page, .string l[k].s, .int .i64 l[k].n, .int .i64 l[k].keep] 31 (0, 0))
      have F3 := hid f3; have X3 := hid hx; have B3 := hid b3
      clear f3 hx b3 HB HF e0 e1 e2 e3 e4 e5
      refine (copy_any p q _ F F3.out).mono ?_
      rintro e w4 ⟨pb, qb, hpb, hqb, rfl, f4, u4⟩
      have g4 := F3.out.upd u4 id id (fun _ h => h.elim)
      have x4 := (u4.block _ (heap_lt X3.out) id).trans X3.out
      have b4 := B3.out.trans (u4.below (by simp; omega) fun _ h => h.elim)
      have hs4 := u4.size
      simp only [World.size_alloc] at hpb hqb hs4
      have F4 := hid f4; have G4 := hid g4; have X4 := hid x4; have B4 := hid b4
      clear f4 g4 x4 b4 u4 F3 X3 B3
      as_aux_lemma =>
        go_wp2_with fail
        refine (start_any pb qb _ F F4.out).mono ?_
        rintro e w5 ⟨rfl, f5, u5⟩
        have hS5 : ∀ j, j = pb → NoStr w4 j := fun j hj => hj ▸ F4.out.noStr_p
        have g5 := G4.out.upd u5 (by omega) (by omega) hS5
        have x5 := (u5.block _ (heap_lt X4.out) (by omega)).trans X4.out
        have b5 := B4.out.trans (u5.below (by omega) (by rintro j rfl; omega))
        have hs5 := u5.size
        have F5 := hid f5; have G5 := hid g5; have X5 := hid x5; have B5 := hid b5
        clear f5 g5 x5 b5 u5 hS5 F4 G4 X4 B4
        go_wp2_with fail
        refine (snap_pos pb qb b np _ _ F5.out (by omega) (by omega)).mono ?_
        rintro e w6 ⟨b1, o1, c1, b2, o2, c2, rfl, s6, u6, hc1, hc2⟩
        have g6 := G5.out.upd u6 id id (fun _ h => h.elim)
        have x6 := (u6.block _ (heap_lt X5.out) id).trans X5.out
        have b6 := B5.out.trans (u6.below (by omega) fun _ h => h.elim)
        have hs6 := u6.size
        have hge1 := s6.ge.1
        have hge2 := s6.ge.2
        have S6 := hid s6; have G6 := hid g6; have X6 := hid x6; have B6 := hid b6
        clear s6 g6 x6 b6 u6 F5 G5 X5 B5
        as_aux_lemma =>
          go_wp2_with fail
          refine (down_any p q _ _ G6.out).mono ?_
          rintro e wz ⟨rfl, rfl⟩
          have hS6 : ∀ j, j = p ∨ j = q → NoStr w6 j := by
            rintro j (rfl | rfl)
            · exact G6.out.noStr_p
            · exact G6.out.noStr_q
          have hkeep := fun j (hj : j < b * np) => keeps_act F G6.out.ok l[k] HNB.out HNP.out hj
          have HS6 := hid hS6; clear hS6
          obtain ⟨⟨z0, z1, z2⟩, z3, z4, z5⟩ := cells_x6 X6.out
          go_wp2_with fail
          clear z0 z1 z2 z3 z4 z5
          refine (do_any p q l[k] _ F G6.out OK.out).mono ?_
          rintro e w7 ⟨he, f7, u7⟩
          subst he
          have x7 := (u7.block _ (heap_lt X6.out) (by omega)).trans X6.out
          have s7 := S6.out.upd u7 (by omega) (by omega)
          have b7 := B6.out.trans (u7.below (by omega) PP.out)
          have hs7 := u7.size
          have hsz := F.act_size l[k]
          have okG := f7.ok
          have hnbG : (F.act l[k]).1.nb = b := hsz.1.trans HNB.out
          have hnpG : (F.act l[k]).1.np = np := hsz.2.trans HNP.out
          have lS := fun j (hj : j < b * np) h => snapS_get F G6.out.ok HNB.out HNP.out hj h
          have lB := fun j (hj : j < b * np) h => snapB_get F G6.out.ok HNB.out HNP.out hj h
          have F7 := hid f7; have X7 := hid x7; have S7 := hid s7; have B7 := hid b7; have KP := hid hkeep; have OKG := hid okG; have NBG := hid hnbG; have NPG := hid hnpG
          have LS := hid lS; have LB := hid lB
          have hk2 := act_down F l[k]
          have HK2 := hid hk2; clear hk2
          clear f7 x7 s7 b7 hkeep okG hnbG hnpG u7 hsz G6 X6 S6 B6 HS6 lS lB OK
          generalize F.act l[k] = res at *
          obtain ⟨G, g⟩ := res
          dsimp only at F7 OKG NBG NPG KP ⊢
          generalize l[k] = op at *
          obtain ⟨kind, block, page, S, n5, keep5⟩ := op
          dsimp only at KP X7 ⊢
          as_aux_lemma =>
            go_wp2_with fail
            refine (copy_any p q _ G F7.out).mono ?_
            rintro e w8 ⟨pa, qa, hpa, hqa, rfl, f8, u8⟩
            have g8 := F7.out.upd u8 id id (fun _ h => h.elim)
            have x8 := (u8.block _ (heap_lt X7.out) id).trans X7.out
            have s8 := S7.out.upd u8 id id
            have b8 := B7.out.trans (u8.below (by omega) fun _ h => h.elim)
            have hs8 := u8.size
            have hb7 : b1 < w7.heap.size ∧ b2 < w7.heap.size := by
              have hpos : 0 < b * np := Nat.mul_pos (by omega) (by omega)
              have := S7.out.cells (i := 0) (by rw [snapS_len]; exact hpos) (by rw [snapB_len]; exact hpos)
              exact ⟨World.block_lt_of_cell? _ _ this.1, World.block_lt_of_cell? _ _ this.2⟩
            have F8 := hid f8; have G8 := hid g8; have X8 := hid x8; have S8 := hid s8; have B8 := hid b8
            clear f8 g8 x8 s8 b8 u8 F7 X7 S7 B7
            as_aux_lemma =>
              go_wp2_with fail
              refine (start_any pa qa _ G F8.out).mono ?_
              rintro e w9 ⟨rfl, f9, u9⟩
              have hS9 : ∀ j, j = pa → NoStr w8 j := fun j hj => hj ▸ F8.out.noStr_p
              have g9 := G8.out.upd u9 (by omega) (by omega) hS9
              have x9 := (u9.block _ (heap_lt X8.out) (by omega)).trans X8.out
              have s9 := S8.out.upd u9 (by omega) (by omega)
              have b9 := B8.out.trans (u9.below (by omega) (by rintro j rfl; omega))
              have hs9 := u9.size
              have F9 := hid f9; have G9 := hid g9; have X9 := hid x9; have S9 := hid s9; have B9 := hid b9
              clear f9 g9 x9 s9 b9 u9 hS9 F8 G8 X8 S8 B8
              go_wp2_with fail
              refine (snap_pos pa qa b np _ _ F9.out (by omega) (by omega)).mono ?_
              rintro e wt ⟨b3, o3, c3, b4, o4, c4, rfl, t9, u9, hc3, hc4⟩
              have ga := G9.out.upd u9 id id (fun _ h => h.elim)
              have xa := (u9.block _ (heap_lt X9.out) id).trans X9.out
              have sa := S9.out.upd u9 id id
              have ba := B9.out.trans (u9.below (by omega) fun _ h => h.elim)
              have lT := fun j (hj : j < b * np) h => snapS_get G OKG.out NBG.out NPG.out hj h
              have lC := fun j (hj : j < b * np) h => snapB_get G OKG.out NBG.out NPG.out hj h
              have hfin : ∀ W j, j < b * np → Upd (fun _ => False) wt W → (W.cell? ⟨wr.heap.size, 0, none⟩ = some (.int .i64 kind) ∧ W.cell? ⟨wr.heap.size, 1, none⟩ = some (.int .i64 block) ∧ W.cell? ⟨wr.heap.size, 2, none⟩ = some (.int .i64 page) ∧ W.cell? ⟨wr.heap.size, 3, none⟩ = some (.string S)) ∧
                  (∃ x y a c, W.cell? ⟨b1, o1 + j, none⟩ = some (.string x) ∧ W.cell? ⟨b2, o2 + j, none⟩ = some (.bool a) ∧ W.cell? ⟨b3, o3 + j, none⟩ = some (.string y) ∧ W.cell? ⟨b4, o4 + j, none⟩ = some (.bool c) ∧
                    KeepsOk kind block page S g (!F.down && (G.down && decide (kind < 2))) ((j / np : Nat) : Int) ((j % np : Nat) : Int) x y a c) := by
                intro W j hj u
                refine ⟨cells_x ((u.block _ (heap_lt xa) id).trans xa), ?_⟩
                obtain ⟨k1, k2⟩ := (sa.upd u id id).cells (i := j) (by rw [snapS_len]; exact hj) (by rw [snapB_len]; exact hj)
                obtain ⟨k3, k4⟩ := (t9.upd u id id).cells (i := j) (by rw [snapS_len]; exact hj) (by rw [snapB_len]; exact hj)
                rw [LS.out j hj] at k1
                rw [LB.out j hj] at k2
                rw [lT j hj] at k3
                rw [lC j hj] at k4
                exact ⟨_, _, _, _, k1, k2, k3, k4, KP.out j hj⟩
              have xk := cells_x xa
              have GA := hid ga; have FIN := hid hfin; have BA := hid ba
              have hsA := u9.size
              clear ga xa sa ba u9 t9 F9 G9 X9 S9 B9 KP lT lC LS LB hfin
              obtain ⟨xk0, xk1, xk2, xk3⟩ := xk
              have hBt : w.heap.size ≤ wt.heap.size := by omega
              have hkI : (k : Int) ≤ 40 := by omega
              clear hs4 hs5 hs6 hs7 hs8 hs9 hsA hpb hqb hpa hqa hge1 hge2 hc1 hc2 hc3 hc4 hb7 hBw hps hqs hl1 hl2 hp hq hf
              have HBT := hid hBt; clear hBt
              have hbn : b * np ≤ 20 := by
                have : b * np ≤ 4 * np := Nat.mul_le_mul_right _ hb4.2
                omega
              have hnpi : (1 : Int) ≤ np := by omega
              have hnp20 : (np : Int) ≤ 5 := by omega
              have hbnI : ((b * np : Nat) : Int) ≤ 20 := by omega
              as_aux_lemma =>
                go_upto_region 23 with (fail)
                go_cut [17, 22] (fun s17 s wx => s17 = .bool (!F.down) ∧ s = .bool (!F.down && (G.down && decide (kind < 2))) ∧ wx = wt)
                case first =>
                  as_aux_lemma =>
                    cases hfd : F.down
                    · cases hgd : G.down
                      · go_wp2_with fail
                        refine (down_any p q _ _ GA.out).mono ?_
                        rintro e wz ⟨rfl, rfl⟩
                        go_wp2_with fail
                        go_meet
                        case rel => exact ⟨by simp [hfd], by simp [hfd, hgd], rfl⟩
                      · by_cases hkl : kind < 2
                        · go_wp2_with fail
                          refine (down_any p q _ _ GA.out).mono ?_
                          rintro e wz ⟨rfl, rfl⟩
                          go_wp2_with fail
                          go_meet
                          case rel => exact ⟨by simp [hfd], by simp [hfd, hgd, hkl], rfl⟩
                        · go_wp2_with fail
                          refine (down_any p q _ _ GA.out).mono ?_
                          rintro e wz ⟨rfl, rfl⟩
                          go_wp2_with fail
                          go_meet
                          case rel => exact ⟨by simp [hfd], by simp [hfd, hgd, hkl], rfl⟩
                    · go_wp2_with fail
                      go_meet
                      case rel => exact ⟨by simp [hfd], by simp [hfd], rfl⟩
                case rest =>
                  obtain ⟨rfl, rfl, hwc⟩ := hcut
                  replace hwc := hwc.symm
                  subst hwc
                  have hdown : (!F.down && (G.down && decide (kind < 2))) = true → g = 8 := fun h => by
                    have hpos : 0 < b * np := Nat.mul_pos (by omega) (by omega)
                    obtain ⟨_, x, y, a, c, _, _, _, _, kp⟩ := FIN.out wt 0 hpos (Upd.refl _ _)
                    exact kp.down h
                  generalize (!F.down && (G.down && decide (kind < 2))) = T at *
                  generalize (!F.down) = U at *
                  as_aux_lemma =>
                    have HDN := hid hdown; clear hdown
                    go_upto_region 24 with (fail)
                    go_cut [116] (fun s wx => s = .bool false ∧ wx = wt)
                    case first =>
                      as_aux_lemma =>
                        cases T
                        · go_wp2_with fail
                          go_meet
                          case rel => exact ⟨rfl, rfl⟩
                        · have hg8 : (g != 8) = false := by rw [HDN.out rfl]; rfl
                          go_wp2_with fail
                          go_meet
                          case rel => exact ⟨rfl, rfl⟩
                    case rest =>
                      obtain ⟨rfl, hwc⟩ := hcut
                      replace hwc := hwc.symm
                      subst hwc
                      clear xk0 xk1 xk2 xk3 HDN
                      as_aux_lemma =>
                        go_wp2_with fail
                        go_loopg [23] (b * np) (fun n i wx => ∃ j : Nat, j ≤ b * np ∧ n = b * np - j ∧ i = .int .i64 j ∧ Upd (fun _ => False) wt wx)
                        case atStart => exact ⟨0, Nat.zero_le _, rfl, rfl, Upd.refl _ _⟩
                        case round =>
                          obtain ⟨j, hj, hnj, rfl, ux⟩ := hrel
                          have UX := hid ux; have HNJ := hid hnj
                          clear ux hnj
                          by_cases hjl : j < b * np
                          · obtain ⟨⟨y0, y1, y2, y3⟩, x, y, a, c, k1, k2, k3, k4, kp⟩ := FIN.out wt j hjl (Upd.refl _ _)
                            rw [Int.natCast_ediv, Int.natCast_emod] at kp
                            have KQ := hid kp
                            have hce := cells_upd y0 y1 y2 y3 k1 k2 k3 k4
                            have CE := hid hce
                            clear kp FIN y0 y1 y2 y3 k1 k2 k3 k4 hce
                            have hjI : (j : Int) ≤ 20 := by omega
                            have hdj0 : 0 ≤ (j : Int) / (np : Int) := Int.ediv_nonneg (by omega) (by omega)
                            have hdj1 : (j : Int) / (np : Int) ≤ 20 := Int.le_trans (Int.ediv_le_self _ (by omega)) hjI
                            have hmj0 : 0 ≤ (j : Int) % (np : Int) := Int.emod_nonneg _ (by omega)
                            have hmj1 : (j : Int) % (np : Int) ≤ 20 := by have := Int.emod_lt_of_pos (j : Int) (by omega : (0 : Int) < np); omega
                            have hjl2 : (j : Int) < ((b * np : Nat) : Int) := by omega
                            have hnz : ((np : Int) == 0) = false := beq_eq_false_iff_ne.2 (by omega)
                            have htd : (j : Int).tdiv (np : Int) = (j : Int) / (np : Int) := Int.tdiv_eq_ediv_of_nonneg (by omega)
                            have htm : (j : Int).tmod (np : Int) = (j : Int) % (np : Int) := Int.tmod_eq_emod_of_nonneg (by omega)
                            have hwd : wrap64 ((j : Int) / (np : Int)) = (j : Int) / (np : Int) := wrap_small hdj0 hdj1
                            have hwm : wrap64 ((j : Int) % (np : Int)) = (j : Int) % (np : Int) := wrap_small hmj0 hmj1
                            have hwd2 : IntKind.i64.wrap ((j : Int) / (np : Int)) = (j : Int) / (np : Int) := wrap_small2 hdj0 hdj1
                            have hwm2 : IntKind.i64.wrap ((j : Int) % (np : Int)) = (j : Int) % (np : Int) := wrap_small2 hmj0 hmj1
                            obtain ⟨own, HOWN⟩ : ∃ own : Bool, Hid (own = true ↔ (j : Int) / (np : Int) = block) := ⟨decide ((j : Int) / (np : Int) = block), hid decide_eq_true_iff⟩
                            obtain ⟨c1, HC1⟩ : ∃ c1 : Bool, Hid (c1 = true ↔ kind = 0 ∧ (j : Int) / (np : Int) = block ∧ (j : Int) % (np : Int) = page ∧ (g = 0 ∨ T = true)) := ⟨decide (kind = 0 ∧ (j : Int) / (np : Int) = block ∧ (j : Int) % (np : Int) = page ∧ (g = 0 ∨ T = true)), hid decide_eq_true_iff⟩
                            obtain ⟨c3, HC3⟩ : ∃ c3 : Bool, Hid (c3 = true ↔ kind = 1 ∧ (j : Int) / (np : Int) = block ∧ (g = 0 ∨ T = true ∧ c = false)) := ⟨decide (kind = 1 ∧ (j : Int) / (np : Int) = block ∧ (g = 0 ∨ T = true ∧ c = false)), hid decide_eq_true_iff⟩
                            as_aux_lemma =>
                              go_upto_region 29 with (fail)
                              go_cut [24] (fun s wx => s = .bool own ∧ Upd (fun _ => False) wt wx)
                              case first =>
                                as_aux_lemma =>
                                  obtain ⟨⟨xk0, xk1, xk2, xk3⟩, k1, k2, k3, k4⟩ := CE.out _ UX.out
                                  clear HC1 HC3 KQ xk0 xk2 xk3 k1 k2 k3 k4
                                  cases own
                                  · have hown : ((j : Int) / (np : Int) == block) = false := beq_eq_false_iff_ne.2 fun e => absurd (HOWN.out.2 e) (by decide)
                                    go_wp2_with fail
                                    go_quiet (fail)
                                    go_wp2_with fail
                                    go_meet
                                    case rel => exact ⟨rfl, UX.out.drewN _⟩
                                  · have hown : ((j : Int) / (np : Int) == block) = true := beq_iff_eq.2 (HOWN.out.1 rfl)
                                    go_wp2_with fail
                                    go_quiet (fail)
                                    go_wp2_with fail
                                    go_meet
                                    case rel => exact ⟨rfl, UX.out.drewN _⟩
                              case rest =>
                                obtain ⟨rfl, ux⟩ := hcut
                                clear UX
                                have UX := hid ux; clear ux
                                as_aux_lemma =>
                                  go_upto_region 30 with (fail)
                                  go_cut [149] (fun s wx => s = .bool c1 ∧ Upd (fun _ => False) wt wx)
                                  case first =>
                                    as_aux_lemma =>
                                      obtain ⟨⟨xk0, xk1, xk2, xk3⟩, k1, k2, k3, k4⟩ := CE.out _ UX.out
                                      clear xk1 xk3 k1 k2 k3 k4
                                      clear HC3 KQ CE
                                      by_cases hk0 : kind = 0
                                      · have hk0b : (kind == 0) = true := beq_iff_eq.2 hk0
                                        cases own
                                        · skip
                                          have hof : ¬ (j : Int) / (np : Int) = block := fun e => absurd (HOWN.out.2 e) (by decide)
                                          obtain rfl : c1 = false := Bool.eq_false_iff.2 fun e => (fun h => hof h.2.1) (HC1.out.1 e)
                                          clear hk0 hof HC1 HOWN
                                          go_wp2_with fail
                                          go_quiet (fail)
                                          go_wp2_with fail
                                          go_meet
                                          case rel => exact ⟨rfl, UX.out.drewN _⟩
                                        · skip
                                          have hot := HOWN.out.1 rfl
                                          by_cases heq : (j : Int) % (np : Int) = page
                                          · have heqb : ((j : Int) % (np : Int) == page) = true := beq_iff_eq.2 heq
                                            by_cases hg0 : g = 0
                                            · have hg0b : (g == 0) = true := beq_iff_eq.2 hg0
                                              obtain rfl : c1 = true := HC1.out.2 ⟨hk0, hot, heq, .inl hg0⟩
                                              clear hk0 hot heq hg0 HC1 HOWN
                                              go_wp2_with fail
                                              go_quiet (fail)
                                              go_wp2_with fail
                                              go_meet
                                              case rel => exact ⟨rfl, UX.out.drewN _⟩
                                            · have hg0b : (g == 0) = false := beq_eq_false_iff_ne.2 hg0
                                              cases T
                                              · skip
                                                obtain rfl : c1 = false := Bool.eq_false_iff.2 fun e => (fun h => by rcases h.2.2.2 with h | h; exact hg0 h; exact absurd h (by decide)) (HC1.out.1 e)
                                                clear hk0 hot heq hg0 HC1 HOWN
                                                go_wp2_with fail
                                                go_quiet (fail)
                                                go_wp2_with fail
                                                go_meet
                                                case rel => exact ⟨rfl, UX.out.drewN _⟩
                                              · obtain rfl : c1 = true := HC1.out.2 ⟨hk0, hot, heq, .inr rfl⟩
                                                clear hk0 hot heq hg0 HC1 HOWN
                                                go_wp2_with fail
                                                go_quiet (fail)
                                                go_wp2_with fail
                                                go_meet
                                                case rel => exact ⟨rfl, UX.out.drewN _⟩
                                          · have heqb : ((j : Int) % (np : Int) == page) = false := beq_eq_false_iff_ne.2 heq
                                            obtain rfl : c1 = false := Bool.eq_false_iff.2 fun e => (fun h => heq h.2.2.1) (HC1.out.1 e)
                                            clear hk0 hot heq HC1 HOWN
                                            go_wp2_with fail
                                            go_quiet (fail)
                                            go_wp2_with fail
                                            go_meet
                                            case rel => exact ⟨rfl, UX.out.drewN _⟩
                                      · have hk0b : (kind == 0) = false := beq_eq_false_iff_ne.2 hk0
                                        obtain rfl : c1 = false := Bool.eq_false_iff.2 fun e => (fun h => hk0 h.1) (HC1.out.1 e)
                                        clear hk0 HC1 HOWN
                                        go_wp2_with fail
                                        go_quiet (fail)
                                        go_wp2_with fail
                                        go_meet
                                        case rel => exact ⟨rfl, UX.out.drewN _⟩
                                  case rest =>
                                    obtain ⟨rfl, ux⟩ := hcut
                                    clear UX
                                    have UX := hid ux; clear ux
                                    as_aux_lemma =>
                                      cases c1
                                      · as_aux_lemma =>
                                          go_upto_region 33 with (fail)
                                          go_cut [227] (fun s wx => s = .bool false ∧ Upd (fun _ => False) wt wx)
                                          case first =>
                                            as_aux_lemma =>
                                              obtain ⟨⟨xk0, xk1, xk2, xk3⟩, k1, k2, k3, k4⟩ := CE.out _ UX.out
                                              clear xk1 xk3 k1 k3 k4
                                              clear HC3 CE HC1
                                              by_cases hk0 : kind = 0
                                              · have hk0b : (kind == 0) = true := beq_iff_eq.2 hk0
                                                cases own
                                                · skip
                                                  clear hk0 HOWN KQ
                                                  go_wp2_with fail
                                                  go_quiet (fail)
                                                  go_wp2_with fail
                                                  go_meet
                                                  case rel => exact ⟨rfl, UX.out.drewN _⟩
                                                · skip
                                                  have hot := HOWN.out.1 rfl
                                                  by_cases hgt : page < (j : Int) % (np : Int)
                                                  · have hgtb : decide (page < (j : Int) % (np : Int)) = true := decide_eq_true hgt
                                                    by_cases hg0 : g = 0
                                                    · have hg0b : (g == 0) = true := beq_iff_eq.2 hg0
                                                      obtain rfl : a = false := KQ.out.later hk0 hot hgt hg0
                                                      clear hk0 hot hg0 HOWN KQ
                                                      go_wp2_with fail
                                                      go_quiet (fail)
                                                      go_wp2_with fail
                                                      go_meet
                                                      case rel => exact ⟨rfl, UX.out.drewN _⟩
                                                    · have hg0b : (g == 0) = false := beq_eq_false_iff_ne.2 hg0
                                                      clear hk0 hot hg0 HOWN KQ
                                                      go_wp2_with fail
                                                      go_quiet (fail)
                                                      go_wp2_with fail
                                                      go_meet
                                                      case rel => exact ⟨rfl, UX.out.drewN _⟩
                                                  · have hgtb : decide (page < (j : Int) % (np : Int)) = false := decide_eq_false hgt
                                                    have hgt2 : (j : Int) % (np : Int) ≤ page := Int.not_lt.1 hgt
                                                    clear hk0 hot hgt HOWN KQ
                                                    go_wp2_with fail
                                                    go_quiet (fail)
                                                    go_wp2_with fail
                                                    go_meet
                                                    case rel => exact ⟨rfl, UX.out.drewN _⟩
                                              · have hk0b : (kind == 0) = false := beq_eq_false_iff_ne.2 hk0
                                                clear hk0 HOWN KQ
                                                go_wp2_with fail
                                                go_quiet (fail)
                                                go_wp2_with fail
                                                go_meet
                                                case rel => exact ⟨rfl, UX.out.drewN _⟩
                                          case rest =>
                                            obtain ⟨rfl, ux⟩ := hcut
                                            clear UX hwd hwm hwd2 hwm2 htd htm
                                            have UX := hid ux; clear ux
                                            as_aux_lemma =>
                                              go_upto_region 35 with (fail)
                                              go_cut [247] (fun s wx => s = .bool c3 ∧ Upd (fun _ => False) wt wx)
                                              case first =>
                                                as_aux_lemma =>
                                                  obtain ⟨⟨xk0, xk1, xk2, xk3⟩, k1, k2, k3, k4⟩ := CE.out _ UX.out
                                                  clear xk1 xk2 xk3 k1 k2 k3
                                                  clear CE HC1 KQ
                                                  by_cases hk0 : kind = 1
                                                  · have hk0b : (kind == 1) = true := beq_iff_eq.2 hk0
                                                    cases own
                                                    · skip
                                                      have hof : ¬ (j : Int) / (np : Int) = block := fun e => absurd (HOWN.out.2 e) (by decide)
                                                      obtain rfl : c3 = false := Bool.eq_false_iff.2 fun e => (fun h => hof h.2.1) (HC3.out.1 e)
                                                      clear hk0 hof HOWN HC3
                                                      go_wp2_with fail
                                                      go_meet
                                                      case rel => exact ⟨rfl, UX.out⟩
                                                    · skip
                                                      have hot := HOWN.out.1 rfl
                                                      by_cases hg0 : g = 0
                                                      · have hg0b : (g == 0) = true := beq_iff_eq.2 hg0
                                                        obtain rfl : c3 = true := HC3.out.2 ⟨hk0, hot, .inl hg0⟩
                                                        clear hk0 hot hg0 HOWN HC3
                                                        go_wp2_with fail
                                                        go_meet
                                                        case rel => exact ⟨rfl, UX.out⟩
                                                      · have hg0b : (g == 0) = false := beq_eq_false_iff_ne.2 hg0
                                                        cases T
                                                        · skip
                                                          obtain rfl : c3 = false := Bool.eq_false_iff.2 fun e => (fun h => by rcases h.2.2 with h | h; exact hg0 h; exact absurd h.1 (by decide)) (HC3.out.1 e)
                                                          clear hk0 hot hg0 HOWN HC3
                                                          go_wp2_with fail
                                                          go_meet
                                                          case rel => exact ⟨rfl, UX.out⟩
                                                        · cases c
                                                          · obtain rfl : c3 = true := HC3.out.2 ⟨hk0, hot, .inr ⟨rfl, rfl⟩⟩
                                                            clear hk0 hot hg0 HOWN HC3
                                                            go_wp2_with fail
                                                            go_meet
                                                            case rel => exact ⟨rfl, UX.out⟩
                                                          · skip
                                                            obtain rfl : c3 = false := Bool.eq_false_iff.2 fun e => (fun h => by rcases h.2.2 with h | h; exact hg0 h; exact absurd h.2 (by decide)) (HC3.out.1 e)
                                                            clear hk0 hot hg0 HOWN HC3
                                                            go_wp2_with fail
                                                            go_meet
                                                            case rel => exact ⟨rfl, UX.out⟩
                                                  · have hk0b : (kind == 1) = false := beq_eq_false_iff_ne.2 hk0
                                                    obtain rfl : c3 = false := Bool.eq_false_iff.2 fun e => (fun h => hk0 h.1) (HC3.out.1 e)
                                                    clear hk0 HOWN HC3
                                                    go_wp2_with fail
                                                    go_meet
                                                    case rel => exact ⟨rfl, UX.out⟩
                                              case rest =>
                                                obtain ⟨rfl, ux⟩ := hcut
                                                clear UX
                                                have UX := hid ux; clear ux
                                                as_aux_lemma =>
                                                  cases c3
                                                  · obtain ⟨hyx, hca⟩ := KQ.out.rest (fun h => absurd (HC1.out.2 h) (by decide)) (fun h => absurd (HC3.out.2 h) (by decide))
                                                    subst hyx; subst hca
                                                    obtain ⟨⟨xk0, xk1, xk2, xk3⟩, k1, k2, k3, k4⟩ := CE.out _ UX.out
                                                    clear xk0 xk1 xk2 xk3
                                                    clear CE KQ HC1 HC3 HOWN
                                                    as_aux_lemma =>
                                                      go_wp2_with fail
                                                      go_quiet (fail)
                                                      go_wp2_with fail
                                                      go_roundg (b * np - (j + 1))
                                                      case measure => have := HNJ.out; omega
                                                      case rel => exact ⟨j + 1, by omega, rfl, by go_num, by first | exact UX.out | exact UX.out.drewN _⟩
                                                  · have hc : c = false := by
                                                      obtain ⟨h1, h2, h3⟩ := HC3.out.1 rfl
                                                      rcases h3 with h3 | h3
                                                      · exact KQ.out.erase h1 h2 h3
                                                      · exact h3.2
                                                    subst hc
                                                    obtain ⟨⟨xk0, xk1, xk2, xk3⟩, k1, k2, k3, k4⟩ := CE.out _ UX.out
                                                    clear xk0 xk1 xk2 xk3 k1 k2 k3
                                                    clear CE KQ HC1 HC3 HOWN
                                                    as_aux_lemma =>
                                                      go_wp2_with fail
                                                      go_roundg (b * np - (j + 1))
                                                      case measure => have := HNJ.out; omega
                                                      case rel => exact ⟨j + 1, by omega, rfl, by go_num, by first | exact UX.out | exact UX.out.drewN _⟩
                                      · as_aux_lemma =>
                                          clear hwd hwm hwd2 hwm2 htd htm
                                          obtain ⟨h1, h2, h3, h4⟩ := HC1.out.1 rfl
                                          obtain ⟨q1, q2, q3, q4, q5⟩ := KQ.out.prog h1 h2 h3 h4
                                          subst q1; subst q2
                                          by_cases hg0 : g = 0
                                          · subst hg0
                                            obtain rfl : y = S := q3 rfl
                                            have q6 : y.extract 0 y.size = y := q5.symm
                                            obtain ⟨⟨xk0, xk1, xk2, xk3⟩, k1, k2, k3, k4⟩ := CE.out _ UX.out
                                            clear xk0 xk1 xk2 k1
                                            clear q3 q4 q5 h1 h2 h3 h4 CE KQ HC1 HC3 HOWN
                                            as_aux_lemma =>
                                              go_wp2_with fail
                                              go_quiet (fail)
                                              go_wp2_with fail
                                              go_roundg (b * np - (j + 1))
                                              case measure => have := HNJ.out; omega
                                              case rel => exact ⟨j + 1, by omega, rfl, by go_num, by first | exact UX.out | exact UX.out.drewN _⟩
                                          · have hg0b : (g == 0) = false := beq_eq_false_iff_ne.2 hg0
                                            have q6 : S.extract 0 y.size = y := q5.symm
                                            have q4i : (y.size : Int) ≤ S.size := by omega
                                            have hd1 : (S.size < y.size) = False := eq_false (by omega)
                                            have hd2 : decide (S.size < y.size) = false := decide_eq_false (by omega)
                                            have hd3 : ((S.size : Int) < (y.size : Int)) = False := eq_false (by omega)
                                            obtain ⟨⟨xk0, xk1, xk2, xk3⟩, k1, k2, k3, k4⟩ := CE.out _ UX.out
                                            clear xk0 xk1 xk2 k1
                                            clear q3 q4 q5 h1 h2 h3 h4 hg0 CE KQ HC1 HC3 HOWN
                                            as_aux_lemma =>
                                              go_wp2_with fail
                                              go_quiet (fail)
                                              go_wp2_with fail
                                              go_roundg (b * np - (j + 1))
                                              case measure => have := HNJ.out; omega
                                              case rel => exact ⟨j + 1, by omega, rfl, by go_num, by first | exact UX.out | exact UX.out.drewN _⟩
                          · as_aux_lemma =>
                              go_wp2_with fail
                              go_roundg (l.length - (k + 1))
                              case measure => have := HN.out; omega
                              case rel => exact ⟨k + 1, G, by omega, rfl, by go_num, GA.out.upd UX.out id id (fun _ h => h.elim), NBG.out, NPG.out, BA.out.trans (UX.out.below HBT.out fun _ h => h.elim)⟩
    · go_wp2_with fail
      go_ret
      exact ⟨rfl, HB.out⟩
end Go.Proofs.Ytajmhiacmjgffaa
