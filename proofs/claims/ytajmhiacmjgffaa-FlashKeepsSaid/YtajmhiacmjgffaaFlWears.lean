/- The walk of FlashWears. -/
import Derived.Test.YtajmhiacmjgffaaFlPlain
import Derived.Deep.LoopGhost
import Derived.Deep.QuietTactic
import Derived.BigQuiet
namespace Go.Proofs.Ytajmhiacmjgffaa
open Go.RowKit

/-- The row of numbers that the statement keeps: the wear of each block. -/
def WearRow (w : World) (g b : Nat) (F : Fl) : Prop := ∃ cs, w.heap[g]? = some (.cells cs 3 (0, 0)) ∧ ∀ k, k < b → cs[k]? = some (.int .i64 (F.blk k).wear)

theorem WearRow.cell {w : World} {g b : Nat} {F : Fl} (h : WearRow w g b F) {k : Nat} (hk : k < b) : w.cell? ⟨g, k, none⟩ = some (.int .i64 (F.blk k).wear) ∧ w.frozen? ⟨g, k, none⟩ = false := by
  obtain ⟨cs, h1, h2⟩ := h
  exact ⟨by rw [cell_of_block h1]; exact h2 k hk, frozen_of_block h1⟩
theorem WearRow.upd {S : Nat → Prop} {w w' : World} {g b : Nat} {F : Fl} (h : WearRow w g b F) (u : Upd S w w') (hg : ¬ S g) : WearRow w' g b F := by
  obtain ⟨cs, h1, h2⟩ := h
  exact ⟨cs, by rw [u.block g (heap_lt h1) hg]; exact h1, h2⟩
theorem WearRow.noStr {w : World} {g b : Nat} {F : Fl} (h : WearRow w g b F) : NoStr w g := by
  obtain ⟨cs, h1, _⟩ := h
  intro s e; rw [h1] at e
  injection e with e; injection e with e1 e2 _
  exact absurd e2 (by decide)
theorem WearRow.same {w : World} {g b : Nat} {F G : Fl} (h : WearRow w g b F) (e : ∀ k, k < b → (G.blk k).wear = (F.blk k).wear) : WearRow w g b G := by
  obtain ⟨cs, h1, h2⟩ := h
  exact ⟨cs, h1, fun k hk => by rw [e k hk]; exact h2 k hk⟩
theorem WearRow.step {w : World} {g b n : Nat} {F G : Fl} (h : WearRow w g b F) (e : ∀ k, k < b → (G.blk k).wear = (F.blk k).wear + if k = n then 1 else 0) (hn : n < b) :
    WearRow (w.setCell ⟨g, n, none⟩ (.int .i64 ((F.blk n).wear + 1))) g b G := by
  obtain ⟨cs, h1, h2⟩ := h
  refine ⟨cs.setIfInBounds n (.int .i64 ((F.blk n).wear + 1)), heap_setCell_same rfl h1, fun k hk => ?_⟩
  have hlt : k < cs.size := by
    rcases Nat.lt_or_ge k cs.size with g1 | g1
    · exact g1
    · have := h2 k hk; rw [Array.getElem?_eq_none g1] at this; cases this
  rw [e k hk]
  by_cases hkn : k = n
  · subst hkn
    rw [Array.getElem?_setIfInBounds_self_of_lt hlt, if_pos rfl]; rfl
  · rw [Array.getElem?_setIfInBounds_ne (by omega), if_neg hkn]; exact h2 k hk

/-- What holds at the head of each round. -/
structure WearInv (w : World) (p q g b B : Nat) (w0 : World) (F : Fl) (k : Nat) : Prop where
  fl : FlashAt w p q F
  row : WearRow w g b F
  nb : F.nb = b
  np : F.np = 4
  few : ∀ j, j < b → (F.blk j).wear ≤ k
  old : Below B w0 w
  size : p < w.heap.size ∧ q < w.heap.size ∧ g < w.heap.size

theorem WearInv.upd {S : Nat → Prop} {w w' w0 : World} {p q g b B : Nat} {F : Fl} {k : Nat} (h : WearInv w p q g b B w0 F k) (u : Upd S w w') (hp : ¬ S p) (hq : ¬ S q) (hg : ¬ S g) (hS : ∀ k, S k → NoStr w k) (hB : ∀ k, S k → B ≤ k) (hB2 : B ≤ w.heap.size) :
    WearInv w' p q g b B w0 F k :=
  ⟨h.fl.upd u hp hq hS, h.row.upd u hg, h.nb, h.np, h.few, h.old.trans (u.below hB2 hB), by have := u.size; have := h.size; omega⟩

theorem infoInt : (Try.prog.info? 3).map (fun i => (i.zero, i.size, i.bytes)) = some (some (.int .i64 0), 1, 8) := by kernel_rfl

/-- A new row of zeros. -/
theorem make_ints (w : World) (n : Nat) (hn : n ≤ 100000) : ∃ w', (Instr.makeSlice 29 (.int .i64 (n : Int)) (.int .i64 (n : Int))).run Try.prog w = .ok (.slice (some ⟨w.heap.size, 0, none⟩) n n) w' ∧
    w'.heap[w.heap.size]? = some (.cells (Array.replicate n (.int .i64 0)) 3 (0, 0)) ∧ Upd (fun _ => False) w w' := by
  obtain ⟨i0, hi, hz0, hz1, hz2⟩ := info_parts infoInt
  obtain ⟨w1, hrun, hown, hgr⟩ := run_make_full (P := Try.prog) w w.heap.size 29 3 i0 _ 1 Try.underlying29 hi hz0 hz1 .i64 .i64 n (by rw [hz2]; omega) (by unfold maxLen; omega) (Nat.le_refl _)
  refine ⟨w1, hrun, ?_, ⟨hgr.os, hgr.tape, hgr.output, hgr.size, fun k hk _ => hgr.block k hk (by simp)⟩⟩
  obtain ⟨hlen, ⟨he, _⟩ | ⟨g, cap, cur, hv, hg, hcur, hc1, hc2, hc3, hc4⟩⟩ := hown
  · cases he
  injection hv with e1 e2 e3
  injection e1 with e1
  injection e1 with e1 _ _
  subst e1 e3
  rw [hcur]
  have : cur = Array.replicate n (.int .i64 0) := by
    apply Array.toList_inj.1
    rw [List.take_of_length_le (by simp; omega)] at hc4
    rw [hc4, Nat.mul_one]
    show (madeCells #[.int .i64 0] n).toList = _
    rw [toList_madeCells_one]
    simp
  rw [this]

theorem wear_q (p q k : Nat) (w : World) (F : Fl) (h : FlashAt w p q F) (hk : k < F.nb) :
    Calls Try.prog 12 #[.pointer (some ⟨p, 0, none⟩), .int .i64 k] w fun e w' => e = .returned (.int .i64 (F.blk k).wear) ∧ w' = w := by
  refine (wear_any p q k w F h).mono ?_
  rintro e w' ⟨rfl, rfl⟩
  rw [if_neg (by omega), Int.toNat_natCast]
  exact ⟨rfl, rfl⟩

theorem cell_x {w : World} {x : Nat} {v0 v1 v2 v3 v4 v5 : Value} (h : w.heap[x]? = some (.cells #[v0, v1, v2, v3, v4, v5] 31 (0, 0))) :
    w.cell? ⟨x, 0, none⟩ = some v0 ∧ w.cell? ⟨x, 1, none⟩ = some v1 := ⟨by rw [cell_of_block h]; rfl, by rw [cell_of_block h]; rfl⟩

theorem two_le {B p q : Nat} (h1 : B ≤ p) (h2 : B ≤ q) : ∀ k, k = p ∨ k = q → B ≤ k := by
  rintro k (rfl | rfl) <;> assumption

theorem wear_0 (p q : Nat) (w : World) (F : Fl) (h : FlashAt w p q F) :
    Calls Try.prog 12 #[.pointer (some ⟨p, 0, none⟩), .int .i64 0] w fun e w' => e = .returned (.int .i64 (F.blk 0).wear) ∧ w = w' := by
  refine (wear_any p q 0 w F h).mono ?_
  rintro e w' ⟨rfl, rfl⟩
  have := h.ok.nb.1
  rw [if_neg (by omega)]
  exact ⟨rfl, rfl⟩

theorem erase_calm (p q : Nat) (w : World) (F : Fl) (h : FlashAt w p q F) (c : Calm F) (hw : (F.blk 0).wear < 1000) :
    Calls Try.prog 16 #[.pointer (some ⟨p, 0, none⟩), .int .i64 0] w fun e w' => e = .returned (.int .i64 0) ∧ FlashAt w' p q ((F.clear 0 0).worn 0) ∧ Upd (fun k => k = p ∨ k = q) w w' := by
  refine (erase_any p q 0 w F h).mono ?_
  rintro e w' ⟨rfl, f, u⟩
  have e1 : F.erase 0 = ((F.clear 0 0).worn 0, 0) := c.erase h.ok (n := 0) (by have := h.ok.nb.1; omega) hw
  rw [e1] at f ⊢
  exact ⟨rfl, f, u⟩

theorem Calm.next {F : Fl} (c : Calm F) : Calm ((F.clear 0 0).worn 0) := ⟨c.down, c.left, c.lost⟩
theorem Calm.wear_next (F : Fl) : ((((F.clear 0 0).worn 0).blk 0).wear : Int) = (F.blk 0).wear + 1 := by
  rw [Fl.worn_wear, Fl.clear_wear, if_pos rfl]; rfl

structure LoopInv (w : World) (p q b B : Nat) (w0 : World) (F : Fl) : Prop where
  fl : FlashAt w p q F
  calm : Calm F
  nb : F.nb = b
  np : F.np = 4
  top : (F.blk 0).wear ≤ 1000
  pages : (F.blk 0).wear ≤ 40 ∨ ∀ k, (F.blk 0).page k = none
  old : Below B w0 w
  size : B ≤ p ∧ B ≤ q ∧ B ≤ w.heap.size

set_option maxRecDepth 100000 in
set_option maxHeartbeats 4000000 in
theorem wears_walk (x0 : Int) (v : Value) (l : List OpM) (x2 : Int) (w : World) (hx0 : (Lit.int .u8 x0).wf = true) (hl : (kSlice kOp).rep (· < w.heap.size) w [v] l) (hx2 : (Lit.int .u8 x2).wf = true) :
    Calls Try.prog 3 #[.int .u8 x0, v, .int .u8 x2] w fun e w' => e = .returned (.bool true) ∧ Below w.heap.size w w' := by
  have h0 := bounds_u8 hx0
  have h2 := bounds_u8 hx2
  clear hx0 hx2
  have HL := hid hl
  obtain ⟨a, cap, rfl, hl1, hl2, hl3⟩ := slice_open hl
  have hl2 : cap ≤ 9223372036854775807 := hl2
  have HE := hid hl3
  clear hl hl3
  obtain ⟨b, hb⟩ := Int.eq_ofNat_of_zero_le (by omega : 0 ≤ 1 + x0 % 4)
  obtain ⟨pg, hpg⟩ := Int.eq_ofNat_of_zero_le (by omega : 0 ≤ x2 % 4)
  have hb4 : 1 ≤ b ∧ b ≤ 4 := by omega
  have hp4 : pg < 4 := by omega
  go_enter Try.func3, Try.ntmps3
  go_wp2_with fail
  refine (small_any _).mono ?_
  rintro e w1 ⟨rfl, b1⟩
  have B1 := hid b1; clear b1
  go_wp2_with fail
  refine (new_any _ _ _ (by omega) (by decide)).mono ?_
  rintro e w2 ⟨p, q, hp, hq, rfl, f2, u2⟩
  have f2 : FlashAt w2 p q (Fl.new b 4) := f2
  have B2 := hid (B1.out.trans (u2.below B1.out.size (fun _ h => h.elim)))
  have hp : w.heap.size ≤ p := Nat.le_trans B1.out.size hp
  have hq : w.heap.size ≤ q := Nat.le_trans B1.out.size hq
  have F2 := hid f2; clear f2 u2 B1
  go_wp2_with fail
  refine (few_any _ (· < w.heap.size) l 40 _ ((kSlice kOp).keep HL.out (Same.of_below B2.out fun _ h => h)) (by decide)).mono ?_
  rintro e w3 ⟨rfl, rfl⟩
  cases hf : few l 40
  · go_wp2_with fail
    go_ret
    exact ⟨rfl, B2.out⟩
  · obtain ⟨w3, hrun, hrow, u3⟩ := make_ints w2 b (by omega)
    have hlen : l.length ≤ 40 := by
      unfold few at hf; rw [Bool.and_eq_true] at hf; simpa using hf.1
    have hgp : w2.heap.size ≠ p := by obtain ⟨cap, hh⟩ := F2.out.head; have := heap_lt hh; omega
    have hgq : w2.heap.size ≠ q := by obtain ⟨cs, hh, _⟩ := F2.out.rows; have := heap_lt hh; omega
    have inv : WearInv w3 p q w2.heap.size b w.heap.size w (Fl.new b 4) 0 :=
      ⟨F2.out.upd u3 id id (fun _ h => h.elim), ⟨_, hrow, fun k hk => by rw [Array.getElem?_replicate, if_pos hk]; rfl⟩, rfl, rfl, fun j _ => Nat.le_refl _, B2.out.trans (u3.below B2.out.size fun _ h => h.elim),
        by obtain ⟨cap, hh⟩ := F2.out.head; have h1 := heap_lt hh; obtain ⟨cs, hh, _⟩ := F2.out.rows; have h2 := heap_lt hh; have h3 := heap_lt hrow; have := u3.size; omega⟩
    have hgB : w.heap.size ≤ w2.heap.size := B2.out.size
    have INV := hid inv
    clear inv hrow u3 F2 B2
    generalize w2.heap.size = g at *
    go_wp2_with fail
    go_loopg [12] l.length (fun n i wr => ∃ k F, k ≤ l.length ∧ n = l.length - k ∧ i = .int .i64 k ∧ WearInv wr p q g b w.heap.size w F k)
    case atStart => exact ⟨0, _, Nat.zero_le _, by omega, rfl, INV.out⟩
    case round =>
      clear INV
      obtain ⟨k, F, hk, hn, rfl, inv⟩ := hrel
      have INV := hid inv; clear inv
      have HN := hid hn; clear hn
      by_cases hlt : k < l.length
      · obtain ⟨b0, o0, rfl, hb0, hel⟩ := HE.out (by omega)
        have hel := hel.keep (Same.of_below INV.out.old fun _ h => h) hb0
        obtain ⟨⟨e0, e1, e2, e3, e4, e5⟩, hok⟩ := op_cells hel hlt
        have OK := hid hok; clear hok hel HE
        go_wp2_with fail
        have hsz0 := INV.out.size
        have ia := INV.out.upd ((Upd.refl (fun _ => False) wr).alloc (.cells #[.int .i64 l[k].kind, .int .i64 l[k].block, .int .i64 l[k].page, .string l[k].s, .int .i64 l[k].n, .int .i64 l[k].keep] 31 (0, 0))) id id id (fun _ h => h.elim) (fun _ h => h.elim) (by have := INV.out.size; omega)
        have IA := hid ia; clear ia
        refine (down_any p q _ F IA.out.fl).mono ?_
        rintro e wd ⟨rfl, rfl⟩
        go_wp2_with fail
        refine (do_any p q l[k] _ F IA.out.fl OK.out).mono ?_
        rintro e w4 ⟨he, f4, u4⟩
        subst he
        have hx : w4.heap[wr.heap.size]? = some (.cells #[.int .i64 l[k].kind, .int .i64 l[k].block, .int .i64 l[k].page, .string l[k].s, .int .i64 l[k].n, .int .i64 l[k].keep] 31 (0, 0)) := by
          rw [u4.block _ (by simp) (by omega)]; exact heap_alloc_new
        obtain ⟨x0c, x1c⟩ := cell_x hx
        have hrow := IA.out.row.upd u4 (by omega)
        have hwear := F.act_wear l[k]
        have hsize := F.act_size l[k]
        have hold : Below w.heap.size w w4 := IA.out.old.trans (u4.below (by simp; omega) (by rintro j (rfl | rfl) <;> omega))
        have hsz4 : p < w4.heap.size ∧ q < w4.heap.size ∧ g < w4.heap.size := by have := u4.size; simp at this; omega
        have hnb := INV.out.nb
        have hnp := INV.out.np
        have hfew := INV.out.few
        have hfew0 := INV.out.few
        clear e0 e1 e2 e3 e4 e5 OK u4 hx IA INV hsz0
        generalize F.act l[k] = res at *
        obtain ⟨G, er⟩ := res
        generalize l[k] = o at *
        obtain ⟨kind, block, page, s, n, keep⟩ := o
        dsimp only at x0c x1c hwear hsize f4 ⊢
        unfold counted at hwear
        dsimp only at hwear
        rw [hnb] at hwear
        have hG : ∀ (w5 : World) (h1 : FlashAt w5 p q G) (h2 : WearRow w5 g b G) (h3 : Below w.heap.size w w5) (h4 : p < w5.heap.size ∧ q < w5.heap.size ∧ g < w5.heap.size), WearInv w5 p q g b w.heap.size w G (k + 1) :=
          fun w5 h1 h2 h3 h4 => ⟨h1, h2, hsize.1.trans hnb, hsize.2.trans hnp, fun j hj => by
            rw [hwear j]; have := hfew j hj; split <;> omega, h3, h4⟩
        have HG := hid hG; clear hG
        have HF := hid f4; clear f4
        have HO := hid hold; clear hold
        have HS := hid hsz4; clear hsz4
        have HR := hid hrow; clear hrow
        have HW := hid hwear; clear hwear
        have HSZ := hid hsize; clear hsize hfew hnb hnp
        have HFEW := hid hfew0; clear hfew0
        cases hfd : F.down <;> cases hgd : G.down <;> rw [hfd, hgd] at HW
        · by_cases hk1 : kind = 1
          · have hk1b : (kind == 1) = true := beq_iff_eq.2 hk1
            by_cases hb1 : 0 ≤ block
            · by_cases hb2 : block < b
              · obtain ⟨m, rfl⟩ := Int.eq_ofNat_of_zero_le hb1
                have hmb : m < b := by omega
                obtain ⟨hrc, hrz⟩ := HR.out.cell hmb
                by_cases her : er = 0
                · subst her
                  have inv5 : WearInv (w4.setCell ⟨g, m, none⟩ (.int .i64 ((F.blk m).wear + 1))) p q g b w.heap.size w G (k + 1) := by
                    refine HG.out _ (HF.out.upd (S := (· = g)) ((Upd.refl _ _).at_ _ _) (fun e => hgp e.symm) (fun e => hgq e.symm) (fun j hj => hj ▸ HR.out.noStr)) (HR.out.step (n := m) (fun j hj => ?_) hmb) (HO.out.setCell hgB _) (by simpa using HS.out)
                    rw [HW.out j]
                    congr 1
                    simp [hb1, hb2, hk1]
                  have hwm : (F.blk m).wear ≤ 100 := by have := HFEW.out m hmb; omega
                  go_wp2_with fail
                  have I5 := hid inv5
                  clear inv5 HR HW HF HO HS HG x0c x1c
                  go_loopg [16] b (fun n i wx => ∃ k2 : Nat, k2 ≤ b ∧ n = b - k2 ∧ i = .int .i64 k2 ∧ WearInv wx p q g b w.heap.size w G (k + 1))
                  case atStart => exact ⟨0, Nat.zero_le _, rfl, rfl, I5.out⟩
                  case round =>
                    obtain ⟨k2, hk2, hn2, rfl, inv6⟩ := hrel
                    have I6 := hid inv6
                    have HN2 := hid hn2
                    clear inv6 hn2 I5
                    by_cases hlt2 : k2 < b
                    · obtain ⟨hrc2, hrz2⟩ := I6.out.row.cell hlt2
                      have hfl : ∀ m, FlashAt (wr.drewN m) p q G := fun m => (I6.out.upd ((Upd.refl (fun _ => False) wr).drewN m) id id id (fun _ h => h.elim) (fun _ h => h.elim) (by have := I6.out.size; omega)).fl
                      have HFL := hid hfl; clear hfl
                      have hk2n : k2 < G.nb := by rw [I6.out.nb]; exact hlt2
                      go_wp2_with fail
                      go_quiet ((go_at_call 12; exact Calls.quiet_of_same (wear_q p q k2 _ G (HFL.out _) hk2n)))
                      have I7 := hid (I6.out.upd ((Upd.refl (fun _ => False) wr).drewN nq) id id id (fun _ h => h.elim) (fun _ h => h.elim) (by have := I6.out.size; omega))
                      go_wp2_with fail
                      go_roundg (b - (k2 + 1))
                      case measure => have := HN2.out; omega
                      case rel => exact ⟨k2 + 1, by omega, rfl, by go_num, I7.out⟩
                    · go_wp2_with fail
                      go_roundg (l.length - (k + 1))
                      case measure => have := HN.out; omega
                      case rel => exact ⟨k + 1, G, by omega, rfl, by go_num, I6.out⟩
                · have herb : (er == 0) = false := beq_eq_false_iff_ne.2 her
                  have inv5 : WearInv w4 p q g b w.heap.size w G (k + 1) := HG.out w4 HF.out (HR.out.same fun j hj => by
                    rw [HW.out j, if_neg (by simp [her])]; rfl) HO.out HS.out
                  go_wp2_with fail
                  refine (down_any p q _ G HF.out).mono ?_
                  rintro e wd ⟨rfl, rfl⟩
                  go_wp2_with fail
                  have I5 := hid inv5
                  clear inv5 HR HW HF HO HS HG x0c x1c
                  go_loopg [16] b (fun n i wx => ∃ k2 : Nat, k2 ≤ b ∧ n = b - k2 ∧ i = .int .i64 k2 ∧ WearInv wx p q g b w.heap.size w G (k + 1))
                  case atStart => exact ⟨0, Nat.zero_le _, rfl, rfl, I5.out⟩
                  case round =>
                    obtain ⟨k2, hk2, hn2, rfl, inv6⟩ := hrel
                    have I6 := hid inv6
                    have HN2 := hid hn2
                    clear inv6 hn2 I5
                    by_cases hlt2 : k2 < b
                    · obtain ⟨hrc2, hrz2⟩ := I6.out.row.cell hlt2
                      have hfl : ∀ m, FlashAt (wr.drewN m) p q G := fun m => (I6.out.upd ((Upd.refl (fun _ => False) wr).drewN m) id id id (fun _ h => h.elim) (fun _ h => h.elim) (by have := I6.out.size; omega)).fl
                      have HFL := hid hfl; clear hfl
                      have hk2n : k2 < G.nb := by rw [I6.out.nb]; exact hlt2
                      go_wp2_with fail
                      go_quiet ((go_at_call 12; exact Calls.quiet_of_same (wear_q p q k2 _ G (HFL.out _) hk2n)))
                      have I7 := hid (I6.out.upd ((Upd.refl (fun _ => False) wr).drewN nq) id id id (fun _ h => h.elim) (fun _ h => h.elim) (by have := I6.out.size; omega))
                      go_wp2_with fail
                      go_roundg (b - (k2 + 1))
                      case measure => have := HN2.out; omega
                      case rel => exact ⟨k2 + 1, by omega, rfl, by go_num, I7.out⟩
                    · go_wp2_with fail
                      go_roundg (l.length - (k + 1))
                      case measure => have := HN.out; omega
                      case rel => exact ⟨k + 1, G, by omega, rfl, by go_num, I6.out⟩
              · have hb2' : ((b : Int) ≤ block) := by omega
                have inv5 : WearInv w4 p q g b w.heap.size w G (k + 1) := HG.out w4 HF.out (HR.out.same fun j hj => by
                  rw [HW.out j, if_neg (by simp [hb2])]; rfl) HO.out HS.out
                go_wp2_with fail
                have I5 := hid inv5
                clear inv5 HR HW HF HO HS HG x0c x1c
                go_loopg [16] b (fun n i wx => ∃ k2 : Nat, k2 ≤ b ∧ n = b - k2 ∧ i = .int .i64 k2 ∧ WearInv wx p q g b w.heap.size w G (k + 1))
                case atStart => exact ⟨0, Nat.zero_le _, rfl, rfl, I5.out⟩
                case round =>
                  obtain ⟨k2, hk2, hn2, rfl, inv6⟩ := hrel
                  have I6 := hid inv6
                  have HN2 := hid hn2
                  clear inv6 hn2 I5
                  by_cases hlt2 : k2 < b
                  · obtain ⟨hrc2, hrz2⟩ := I6.out.row.cell hlt2
                    have hfl : ∀ m, FlashAt (wr.drewN m) p q G := fun m => (I6.out.upd ((Upd.refl (fun _ => False) wr).drewN m) id id id (fun _ h => h.elim) (fun _ h => h.elim) (by have := I6.out.size; omega)).fl
                    have HFL := hid hfl; clear hfl
                    have hk2n : k2 < G.nb := by rw [I6.out.nb]; exact hlt2
                    go_wp2_with fail
                    go_quiet ((go_at_call 12; exact Calls.quiet_of_same (wear_q p q k2 _ G (HFL.out _) hk2n)))
                    have I7 := hid (I6.out.upd ((Upd.refl (fun _ => False) wr).drewN nq) id id id (fun _ h => h.elim) (fun _ h => h.elim) (by have := I6.out.size; omega))
                    go_wp2_with fail
                    go_roundg (b - (k2 + 1))
                    case measure => have := HN2.out; omega
                    case rel => exact ⟨k2 + 1, by omega, rfl, by go_num, I7.out⟩
                  · go_wp2_with fail
                    go_roundg (l.length - (k + 1))
                    case measure => have := HN.out; omega
                    case rel => exact ⟨k + 1, G, by omega, rfl, by go_num, I6.out⟩
            · have hb1' : block < 0 := by omega
              have inv5 : WearInv w4 p q g b w.heap.size w G (k + 1) := HG.out w4 HF.out (HR.out.same fun j hj => by
                rw [HW.out j, if_neg (by simp [hb1])]; rfl) HO.out HS.out
              go_wp2_with fail
              have I5 := hid inv5
              clear inv5 HR HW HF HO HS HG x0c x1c
              go_loopg [16] b (fun n i wx => ∃ k2 : Nat, k2 ≤ b ∧ n = b - k2 ∧ i = .int .i64 k2 ∧ WearInv wx p q g b w.heap.size w G (k + 1))
              case atStart => exact ⟨0, Nat.zero_le _, rfl, rfl, I5.out⟩
              case round =>
                obtain ⟨k2, hk2, hn2, rfl, inv6⟩ := hrel
                have I6 := hid inv6
                have HN2 := hid hn2
                clear inv6 hn2 I5
                by_cases hlt2 : k2 < b
                · obtain ⟨hrc2, hrz2⟩ := I6.out.row.cell hlt2
                  have hfl : ∀ m, FlashAt (wr.drewN m) p q G := fun m => (I6.out.upd ((Upd.refl (fun _ => False) wr).drewN m) id id id (fun _ h => h.elim) (fun _ h => h.elim) (by have := I6.out.size; omega)).fl
                  have HFL := hid hfl; clear hfl
                  have hk2n : k2 < G.nb := by rw [I6.out.nb]; exact hlt2
                  go_wp2_with fail
                  go_quiet ((go_at_call 12; exact Calls.quiet_of_same (wear_q p q k2 _ G (HFL.out _) hk2n)))
                  have I7 := hid (I6.out.upd ((Upd.refl (fun _ => False) wr).drewN nq) id id id (fun _ h => h.elim) (fun _ h => h.elim) (by have := I6.out.size; omega))
                  go_wp2_with fail
                  go_roundg (b - (k2 + 1))
                  case measure => have := HN2.out; omega
                  case rel => exact ⟨k2 + 1, by omega, rfl, by go_num, I7.out⟩
                · go_wp2_with fail
                  go_roundg (l.length - (k + 1))
                  case measure => have := HN.out; omega
                  case rel => exact ⟨k + 1, G, by omega, rfl, by go_num, I6.out⟩
          · have hk1b : (kind == 1) = false := beq_eq_false_iff_ne.2 hk1
            have inv5 : WearInv w4 p q g b w.heap.size w G (k + 1) := HG.out w4 HF.out (HR.out.same fun j hj => by
              rw [HW.out j, if_neg (by simp [hk1])]; rfl) HO.out HS.out
            go_wp2_with fail
            have I5 := hid inv5
            clear inv5 HR HW HF HO HS HG x0c x1c
            go_loopg [16] b (fun n i wx => ∃ k2 : Nat, k2 ≤ b ∧ n = b - k2 ∧ i = .int .i64 k2 ∧ WearInv wx p q g b w.heap.size w G (k + 1))
            case atStart => exact ⟨0, Nat.zero_le _, rfl, rfl, I5.out⟩
            case round =>
              obtain ⟨k2, hk2, hn2, rfl, inv6⟩ := hrel
              have I6 := hid inv6
              have HN2 := hid hn2
              clear inv6 hn2 I5
              by_cases hlt2 : k2 < b
              · obtain ⟨hrc2, hrz2⟩ := I6.out.row.cell hlt2
                have hfl : ∀ m, FlashAt (wr.drewN m) p q G := fun m => (I6.out.upd ((Upd.refl (fun _ => False) wr).drewN m) id id id (fun _ h => h.elim) (fun _ h => h.elim) (by have := I6.out.size; omega)).fl
                have HFL := hid hfl; clear hfl
                have hk2n : k2 < G.nb := by rw [I6.out.nb]; exact hlt2
                go_wp2_with fail
                go_quiet ((go_at_call 12; exact Calls.quiet_of_same (wear_q p q k2 _ G (HFL.out _) hk2n)))
                have I7 := hid (I6.out.upd ((Upd.refl (fun _ => False) wr).drewN nq) id id id (fun _ h => h.elim) (fun _ h => h.elim) (by have := I6.out.size; omega))
                go_wp2_with fail
                go_roundg (b - (k2 + 1))
                case measure => have := HN2.out; omega
                case rel => exact ⟨k2 + 1, by omega, rfl, by go_num, I7.out⟩
              · go_wp2_with fail
                go_roundg (l.length - (k + 1))
                case measure => have := HN.out; omega
                case rel => exact ⟨k + 1, G, by omega, rfl, by go_num, I6.out⟩
        · by_cases hk1 : kind = 1
          · have hk1b : (kind == 1) = true := beq_iff_eq.2 hk1
            by_cases hb1 : 0 ≤ block
            · by_cases hb2 : block < b
              · obtain ⟨m, rfl⟩ := Int.eq_ofNat_of_zero_le hb1
                have hmb : m < b := by omega
                obtain ⟨hrc, hrz⟩ := HR.out.cell hmb
                by_cases her : er = 0
                · subst her
                  have inv5 : WearInv (w4.setCell ⟨g, m, none⟩ (.int .i64 ((F.blk m).wear + 1))) p q g b w.heap.size w G (k + 1) := by
                    refine HG.out _ (HF.out.upd (S := (· = g)) ((Upd.refl _ _).at_ _ _) (fun e => hgp e.symm) (fun e => hgq e.symm) (fun j hj => hj ▸ HR.out.noStr)) (HR.out.step (n := m) (fun j hj => ?_) hmb) (HO.out.setCell hgB _) (by simpa using HS.out)
                    rw [HW.out j]
                    congr 1
                    simp [hb1, hb2, hk1]
                  have hwm : (F.blk m).wear ≤ 100 := by have := HFEW.out m hmb; omega
                  go_wp2_with fail
                  have I5 := hid inv5
                  clear inv5 HR HW HF HO HS HG x0c x1c
                  go_loopg [16] b (fun n i wx => ∃ k2 : Nat, k2 ≤ b ∧ n = b - k2 ∧ i = .int .i64 k2 ∧ WearInv wx p q g b w.heap.size w G (k + 1))
                  case atStart => exact ⟨0, Nat.zero_le _, rfl, rfl, I5.out⟩
                  case round =>
                    obtain ⟨k2, hk2, hn2, rfl, inv6⟩ := hrel
                    have I6 := hid inv6
                    have HN2 := hid hn2
                    clear inv6 hn2 I5
                    by_cases hlt2 : k2 < b
                    · obtain ⟨hrc2, hrz2⟩ := I6.out.row.cell hlt2
                      have hfl : ∀ m, FlashAt (wr.drewN m) p q G := fun m => (I6.out.upd ((Upd.refl (fun _ => False) wr).drewN m) id id id (fun _ h => h.elim) (fun _ h => h.elim) (by have := I6.out.size; omega)).fl
                      have HFL := hid hfl; clear hfl
                      have hk2n : k2 < G.nb := by rw [I6.out.nb]; exact hlt2
                      go_wp2_with fail
                      go_quiet ((go_at_call 12; exact Calls.quiet_of_same (wear_q p q k2 _ G (HFL.out _) hk2n)))
                      have I7 := hid (I6.out.upd ((Upd.refl (fun _ => False) wr).drewN nq) id id id (fun _ h => h.elim) (fun _ h => h.elim) (by have := I6.out.size; omega))
                      go_wp2_with fail
                      go_roundg (b - (k2 + 1))
                      case measure => have := HN2.out; omega
                      case rel => exact ⟨k2 + 1, by omega, rfl, by go_num, I7.out⟩
                    · go_wp2_with fail
                      go_roundg (l.length - (k + 1))
                      case measure => have := HN.out; omega
                      case rel => exact ⟨k + 1, G, by omega, rfl, by go_num, I6.out⟩
                · have herb : (er == 0) = false := beq_eq_false_iff_ne.2 her
                  have inv5 : WearInv (w4.setCell ⟨g, m, none⟩ (.int .i64 ((F.blk m).wear + 1))) p q g b w.heap.size w G (k + 1) := by
                    refine HG.out _ (HF.out.upd (S := (· = g)) ((Upd.refl _ _).at_ _ _) (fun e => hgp e.symm) (fun e => hgq e.symm) (fun j hj => hj ▸ HR.out.noStr)) (HR.out.step (n := m) (fun j hj => ?_) hmb) (HO.out.setCell hgB _) (by simpa using HS.out)
                    rw [HW.out j]
                    congr 1
                    simp [hb1, hb2, hk1, her]
                  have hwm : (F.blk m).wear ≤ 100 := by have := HFEW.out m hmb; omega
                  go_wp2_with fail
                  refine (down_any p q _ G HF.out).mono ?_
                  rintro e wd ⟨rfl, rfl⟩
                  go_wp2_with fail
                  have I5 := hid inv5
                  clear inv5 HR HW HF HO HS HG x0c x1c
                  go_loopg [16] b (fun n i wx => ∃ k2 : Nat, k2 ≤ b ∧ n = b - k2 ∧ i = .int .i64 k2 ∧ WearInv wx p q g b w.heap.size w G (k + 1))
                  case atStart => exact ⟨0, Nat.zero_le _, rfl, rfl, I5.out⟩
                  case round =>
                    obtain ⟨k2, hk2, hn2, rfl, inv6⟩ := hrel
                    have I6 := hid inv6
                    have HN2 := hid hn2
                    clear inv6 hn2 I5
                    by_cases hlt2 : k2 < b
                    · obtain ⟨hrc2, hrz2⟩ := I6.out.row.cell hlt2
                      have hfl : ∀ m, FlashAt (wr.drewN m) p q G := fun m => (I6.out.upd ((Upd.refl (fun _ => False) wr).drewN m) id id id (fun _ h => h.elim) (fun _ h => h.elim) (by have := I6.out.size; omega)).fl
                      have HFL := hid hfl; clear hfl
                      have hk2n : k2 < G.nb := by rw [I6.out.nb]; exact hlt2
                      go_wp2_with fail
                      go_quiet ((go_at_call 12; exact Calls.quiet_of_same (wear_q p q k2 _ G (HFL.out _) hk2n)))
                      have I7 := hid (I6.out.upd ((Upd.refl (fun _ => False) wr).drewN nq) id id id (fun _ h => h.elim) (fun _ h => h.elim) (by have := I6.out.size; omega))
                      go_wp2_with fail
                      go_roundg (b - (k2 + 1))
                      case measure => have := HN2.out; omega
                      case rel => exact ⟨k2 + 1, by omega, rfl, by go_num, I7.out⟩
                    · go_wp2_with fail
                      go_roundg (l.length - (k + 1))
                      case measure => have := HN.out; omega
                      case rel => exact ⟨k + 1, G, by omega, rfl, by go_num, I6.out⟩
              · have hb2' : ((b : Int) ≤ block) := by omega
                have inv5 : WearInv w4 p q g b w.heap.size w G (k + 1) := HG.out w4 HF.out (HR.out.same fun j hj => by
                  rw [HW.out j, if_neg (by simp [hb2])]; rfl) HO.out HS.out
                go_wp2_with fail
                have I5 := hid inv5
                clear inv5 HR HW HF HO HS HG x0c x1c
                go_loopg [16] b (fun n i wx => ∃ k2 : Nat, k2 ≤ b ∧ n = b - k2 ∧ i = .int .i64 k2 ∧ WearInv wx p q g b w.heap.size w G (k + 1))
                case atStart => exact ⟨0, Nat.zero_le _, rfl, rfl, I5.out⟩
                case round =>
                  obtain ⟨k2, hk2, hn2, rfl, inv6⟩ := hrel
                  have I6 := hid inv6
                  have HN2 := hid hn2
                  clear inv6 hn2 I5
                  by_cases hlt2 : k2 < b
                  · obtain ⟨hrc2, hrz2⟩ := I6.out.row.cell hlt2
                    have hfl : ∀ m, FlashAt (wr.drewN m) p q G := fun m => (I6.out.upd ((Upd.refl (fun _ => False) wr).drewN m) id id id (fun _ h => h.elim) (fun _ h => h.elim) (by have := I6.out.size; omega)).fl
                    have HFL := hid hfl; clear hfl
                    have hk2n : k2 < G.nb := by rw [I6.out.nb]; exact hlt2
                    go_wp2_with fail
                    go_quiet ((go_at_call 12; exact Calls.quiet_of_same (wear_q p q k2 _ G (HFL.out _) hk2n)))
                    have I7 := hid (I6.out.upd ((Upd.refl (fun _ => False) wr).drewN nq) id id id (fun _ h => h.elim) (fun _ h => h.elim) (by have := I6.out.size; omega))
                    go_wp2_with fail
                    go_roundg (b - (k2 + 1))
                    case measure => have := HN2.out; omega
                    case rel => exact ⟨k2 + 1, by omega, rfl, by go_num, I7.out⟩
                  · go_wp2_with fail
                    go_roundg (l.length - (k + 1))
                    case measure => have := HN.out; omega
                    case rel => exact ⟨k + 1, G, by omega, rfl, by go_num, I6.out⟩
            · have hb1' : block < 0 := by omega
              have inv5 : WearInv w4 p q g b w.heap.size w G (k + 1) := HG.out w4 HF.out (HR.out.same fun j hj => by
                rw [HW.out j, if_neg (by simp [hb1])]; rfl) HO.out HS.out
              go_wp2_with fail
              have I5 := hid inv5
              clear inv5 HR HW HF HO HS HG x0c x1c
              go_loopg [16] b (fun n i wx => ∃ k2 : Nat, k2 ≤ b ∧ n = b - k2 ∧ i = .int .i64 k2 ∧ WearInv wx p q g b w.heap.size w G (k + 1))
              case atStart => exact ⟨0, Nat.zero_le _, rfl, rfl, I5.out⟩
              case round =>
                obtain ⟨k2, hk2, hn2, rfl, inv6⟩ := hrel
                have I6 := hid inv6
                have HN2 := hid hn2
                clear inv6 hn2 I5
                by_cases hlt2 : k2 < b
                · obtain ⟨hrc2, hrz2⟩ := I6.out.row.cell hlt2
                  have hfl : ∀ m, FlashAt (wr.drewN m) p q G := fun m => (I6.out.upd ((Upd.refl (fun _ => False) wr).drewN m) id id id (fun _ h => h.elim) (fun _ h => h.elim) (by have := I6.out.size; omega)).fl
                  have HFL := hid hfl; clear hfl
                  have hk2n : k2 < G.nb := by rw [I6.out.nb]; exact hlt2
                  go_wp2_with fail
                  go_quiet ((go_at_call 12; exact Calls.quiet_of_same (wear_q p q k2 _ G (HFL.out _) hk2n)))
                  have I7 := hid (I6.out.upd ((Upd.refl (fun _ => False) wr).drewN nq) id id id (fun _ h => h.elim) (fun _ h => h.elim) (by have := I6.out.size; omega))
                  go_wp2_with fail
                  go_roundg (b - (k2 + 1))
                  case measure => have := HN2.out; omega
                  case rel => exact ⟨k2 + 1, by omega, rfl, by go_num, I7.out⟩
                · go_wp2_with fail
                  go_roundg (l.length - (k + 1))
                  case measure => have := HN.out; omega
                  case rel => exact ⟨k + 1, G, by omega, rfl, by go_num, I6.out⟩
          · have hk1b : (kind == 1) = false := beq_eq_false_iff_ne.2 hk1
            have inv5 : WearInv w4 p q g b w.heap.size w G (k + 1) := HG.out w4 HF.out (HR.out.same fun j hj => by
              rw [HW.out j, if_neg (by simp [hk1])]; rfl) HO.out HS.out
            go_wp2_with fail
            have I5 := hid inv5
            clear inv5 HR HW HF HO HS HG x0c x1c
            go_loopg [16] b (fun n i wx => ∃ k2 : Nat, k2 ≤ b ∧ n = b - k2 ∧ i = .int .i64 k2 ∧ WearInv wx p q g b w.heap.size w G (k + 1))
            case atStart => exact ⟨0, Nat.zero_le _, rfl, rfl, I5.out⟩
            case round =>
              obtain ⟨k2, hk2, hn2, rfl, inv6⟩ := hrel
              have I6 := hid inv6
              have HN2 := hid hn2
              clear inv6 hn2 I5
              by_cases hlt2 : k2 < b
              · obtain ⟨hrc2, hrz2⟩ := I6.out.row.cell hlt2
                have hfl : ∀ m, FlashAt (wr.drewN m) p q G := fun m => (I6.out.upd ((Upd.refl (fun _ => False) wr).drewN m) id id id (fun _ h => h.elim) (fun _ h => h.elim) (by have := I6.out.size; omega)).fl
                have HFL := hid hfl; clear hfl
                have hk2n : k2 < G.nb := by rw [I6.out.nb]; exact hlt2
                go_wp2_with fail
                go_quiet ((go_at_call 12; exact Calls.quiet_of_same (wear_q p q k2 _ G (HFL.out _) hk2n)))
                have I7 := hid (I6.out.upd ((Upd.refl (fun _ => False) wr).drewN nq) id id id (fun _ h => h.elim) (fun _ h => h.elim) (by have := I6.out.size; omega))
                go_wp2_with fail
                go_roundg (b - (k2 + 1))
                case measure => have := HN2.out; omega
                case rel => exact ⟨k2 + 1, by omega, rfl, by go_num, I7.out⟩
              · go_wp2_with fail
                go_roundg (l.length - (k + 1))
                case measure => have := HN.out; omega
                case rel => exact ⟨k + 1, G, by omega, rfl, by go_num, I6.out⟩
        · by_cases hk1 : kind = 1
          · have hk1b : (kind == 1) = true := beq_iff_eq.2 hk1
            by_cases hb1 : 0 ≤ block
            · by_cases hb2 : block < b
              · obtain ⟨m, rfl⟩ := Int.eq_ofNat_of_zero_le hb1
                have hmb : m < b := by omega
                obtain ⟨hrc, hrz⟩ := HR.out.cell hmb
                by_cases her : er = 0
                · subst her
                  have inv5 : WearInv (w4.setCell ⟨g, m, none⟩ (.int .i64 ((F.blk m).wear + 1))) p q g b w.heap.size w G (k + 1) := by
                    refine HG.out _ (HF.out.upd (S := (· = g)) ((Upd.refl _ _).at_ _ _) (fun e => hgp e.symm) (fun e => hgq e.symm) (fun j hj => hj ▸ HR.out.noStr)) (HR.out.step (n := m) (fun j hj => ?_) hmb) (HO.out.setCell hgB _) (by simpa using HS.out)
                    rw [HW.out j]
                    congr 1
                    simp [hb1, hb2, hk1]
                  have hwm : (F.blk m).wear ≤ 100 := by have := HFEW.out m hmb; omega
                  go_wp2_with fail
                  have I5 := hid inv5
                  clear inv5 HR HW HF HO HS HG x0c x1c
                  go_loopg [16] b (fun n i wx => ∃ k2 : Nat, k2 ≤ b ∧ n = b - k2 ∧ i = .int .i64 k2 ∧ WearInv wx p q g b w.heap.size w G (k + 1))
                  case atStart => exact ⟨0, Nat.zero_le _, rfl, rfl, I5.out⟩
                  case round =>
                    obtain ⟨k2, hk2, hn2, rfl, inv6⟩ := hrel
                    have I6 := hid inv6
                    have HN2 := hid hn2
                    clear inv6 hn2 I5
                    by_cases hlt2 : k2 < b
                    · obtain ⟨hrc2, hrz2⟩ := I6.out.row.cell hlt2
                      have hfl : ∀ m, FlashAt (wr.drewN m) p q G := fun m => (I6.out.upd ((Upd.refl (fun _ => False) wr).drewN m) id id id (fun _ h => h.elim) (fun _ h => h.elim) (by have := I6.out.size; omega)).fl
                      have HFL := hid hfl; clear hfl
                      have hk2n : k2 < G.nb := by rw [I6.out.nb]; exact hlt2
                      go_wp2_with fail
                      go_quiet ((go_at_call 12; exact Calls.quiet_of_same (wear_q p q k2 _ G (HFL.out _) hk2n)))
                      have I7 := hid (I6.out.upd ((Upd.refl (fun _ => False) wr).drewN nq) id id id (fun _ h => h.elim) (fun _ h => h.elim) (by have := I6.out.size; omega))
                      go_wp2_with fail
                      go_roundg (b - (k2 + 1))
                      case measure => have := HN2.out; omega
                      case rel => exact ⟨k2 + 1, by omega, rfl, by go_num, I7.out⟩
                    · go_wp2_with fail
                      go_roundg (l.length - (k + 1))
                      case measure => have := HN.out; omega
                      case rel => exact ⟨k + 1, G, by omega, rfl, by go_num, I6.out⟩
                · have herb : (er == 0) = false := beq_eq_false_iff_ne.2 her
                  have inv5 : WearInv w4 p q g b w.heap.size w G (k + 1) := HG.out w4 HF.out (HR.out.same fun j hj => by
                    rw [HW.out j, if_neg (by simp [her])]; rfl) HO.out HS.out
                  go_wp2_with fail
                  have I5 := hid inv5
                  clear inv5 HR HW HF HO HS HG x0c x1c
                  go_loopg [16] b (fun n i wx => ∃ k2 : Nat, k2 ≤ b ∧ n = b - k2 ∧ i = .int .i64 k2 ∧ WearInv wx p q g b w.heap.size w G (k + 1))
                  case atStart => exact ⟨0, Nat.zero_le _, rfl, rfl, I5.out⟩
                  case round =>
                    obtain ⟨k2, hk2, hn2, rfl, inv6⟩ := hrel
                    have I6 := hid inv6
                    have HN2 := hid hn2
                    clear inv6 hn2 I5
                    by_cases hlt2 : k2 < b
                    · obtain ⟨hrc2, hrz2⟩ := I6.out.row.cell hlt2
                      have hfl : ∀ m, FlashAt (wr.drewN m) p q G := fun m => (I6.out.upd ((Upd.refl (fun _ => False) wr).drewN m) id id id (fun _ h => h.elim) (fun _ h => h.elim) (by have := I6.out.size; omega)).fl
                      have HFL := hid hfl; clear hfl
                      have hk2n : k2 < G.nb := by rw [I6.out.nb]; exact hlt2
                      go_wp2_with fail
                      go_quiet ((go_at_call 12; exact Calls.quiet_of_same (wear_q p q k2 _ G (HFL.out _) hk2n)))
                      have I7 := hid (I6.out.upd ((Upd.refl (fun _ => False) wr).drewN nq) id id id (fun _ h => h.elim) (fun _ h => h.elim) (by have := I6.out.size; omega))
                      go_wp2_with fail
                      go_roundg (b - (k2 + 1))
                      case measure => have := HN2.out; omega
                      case rel => exact ⟨k2 + 1, by omega, rfl, by go_num, I7.out⟩
                    · go_wp2_with fail
                      go_roundg (l.length - (k + 1))
                      case measure => have := HN.out; omega
                      case rel => exact ⟨k + 1, G, by omega, rfl, by go_num, I6.out⟩
              · have hb2' : ((b : Int) ≤ block) := by omega
                have inv5 : WearInv w4 p q g b w.heap.size w G (k + 1) := HG.out w4 HF.out (HR.out.same fun j hj => by
                  rw [HW.out j, if_neg (by simp [hb2])]; rfl) HO.out HS.out
                go_wp2_with fail
                have I5 := hid inv5
                clear inv5 HR HW HF HO HS HG x0c x1c
                go_loopg [16] b (fun n i wx => ∃ k2 : Nat, k2 ≤ b ∧ n = b - k2 ∧ i = .int .i64 k2 ∧ WearInv wx p q g b w.heap.size w G (k + 1))
                case atStart => exact ⟨0, Nat.zero_le _, rfl, rfl, I5.out⟩
                case round =>
                  obtain ⟨k2, hk2, hn2, rfl, inv6⟩ := hrel
                  have I6 := hid inv6
                  have HN2 := hid hn2
                  clear inv6 hn2 I5
                  by_cases hlt2 : k2 < b
                  · obtain ⟨hrc2, hrz2⟩ := I6.out.row.cell hlt2
                    have hfl : ∀ m, FlashAt (wr.drewN m) p q G := fun m => (I6.out.upd ((Upd.refl (fun _ => False) wr).drewN m) id id id (fun _ h => h.elim) (fun _ h => h.elim) (by have := I6.out.size; omega)).fl
                    have HFL := hid hfl; clear hfl
                    have hk2n : k2 < G.nb := by rw [I6.out.nb]; exact hlt2
                    go_wp2_with fail
                    go_quiet ((go_at_call 12; exact Calls.quiet_of_same (wear_q p q k2 _ G (HFL.out _) hk2n)))
                    have I7 := hid (I6.out.upd ((Upd.refl (fun _ => False) wr).drewN nq) id id id (fun _ h => h.elim) (fun _ h => h.elim) (by have := I6.out.size; omega))
                    go_wp2_with fail
                    go_roundg (b - (k2 + 1))
                    case measure => have := HN2.out; omega
                    case rel => exact ⟨k2 + 1, by omega, rfl, by go_num, I7.out⟩
                  · go_wp2_with fail
                    go_roundg (l.length - (k + 1))
                    case measure => have := HN.out; omega
                    case rel => exact ⟨k + 1, G, by omega, rfl, by go_num, I6.out⟩
            · have hb1' : block < 0 := by omega
              have inv5 : WearInv w4 p q g b w.heap.size w G (k + 1) := HG.out w4 HF.out (HR.out.same fun j hj => by
                rw [HW.out j, if_neg (by simp [hb1])]; rfl) HO.out HS.out
              go_wp2_with fail
              have I5 := hid inv5
              clear inv5 HR HW HF HO HS HG x0c x1c
              go_loopg [16] b (fun n i wx => ∃ k2 : Nat, k2 ≤ b ∧ n = b - k2 ∧ i = .int .i64 k2 ∧ WearInv wx p q g b w.heap.size w G (k + 1))
              case atStart => exact ⟨0, Nat.zero_le _, rfl, rfl, I5.out⟩
              case round =>
                obtain ⟨k2, hk2, hn2, rfl, inv6⟩ := hrel
                have I6 := hid inv6
                have HN2 := hid hn2
                clear inv6 hn2 I5
                by_cases hlt2 : k2 < b
                · obtain ⟨hrc2, hrz2⟩ := I6.out.row.cell hlt2
                  have hfl : ∀ m, FlashAt (wr.drewN m) p q G := fun m => (I6.out.upd ((Upd.refl (fun _ => False) wr).drewN m) id id id (fun _ h => h.elim) (fun _ h => h.elim) (by have := I6.out.size; omega)).fl
                  have HFL := hid hfl; clear hfl
                  have hk2n : k2 < G.nb := by rw [I6.out.nb]; exact hlt2
                  go_wp2_with fail
                  go_quiet ((go_at_call 12; exact Calls.quiet_of_same (wear_q p q k2 _ G (HFL.out _) hk2n)))
                  have I7 := hid (I6.out.upd ((Upd.refl (fun _ => False) wr).drewN nq) id id id (fun _ h => h.elim) (fun _ h => h.elim) (by have := I6.out.size; omega))
                  go_wp2_with fail
                  go_roundg (b - (k2 + 1))
                  case measure => have := HN2.out; omega
                  case rel => exact ⟨k2 + 1, by omega, rfl, by go_num, I7.out⟩
                · go_wp2_with fail
                  go_roundg (l.length - (k + 1))
                  case measure => have := HN.out; omega
                  case rel => exact ⟨k + 1, G, by omega, rfl, by go_num, I6.out⟩
          · have hk1b : (kind == 1) = false := beq_eq_false_iff_ne.2 hk1
            have inv5 : WearInv w4 p q g b w.heap.size w G (k + 1) := HG.out w4 HF.out (HR.out.same fun j hj => by
              rw [HW.out j, if_neg (by simp [hk1])]; rfl) HO.out HS.out
            go_wp2_with fail
            have I5 := hid inv5
            clear inv5 HR HW HF HO HS HG x0c x1c
            go_loopg [16] b (fun n i wx => ∃ k2 : Nat, k2 ≤ b ∧ n = b - k2 ∧ i = .int .i64 k2 ∧ WearInv wx p q g b w.heap.size w G (k + 1))
            case atStart => exact ⟨0, Nat.zero_le _, rfl, rfl, I5.out⟩
            case round =>
              obtain ⟨k2, hk2, hn2, rfl, inv6⟩ := hrel
              have I6 := hid inv6
              have HN2 := hid hn2
              clear inv6 hn2 I5
              by_cases hlt2 : k2 < b
              · obtain ⟨hrc2, hrz2⟩ := I6.out.row.cell hlt2
                have hfl : ∀ m, FlashAt (wr.drewN m) p q G := fun m => (I6.out.upd ((Upd.refl (fun _ => False) wr).drewN m) id id id (fun _ h => h.elim) (fun _ h => h.elim) (by have := I6.out.size; omega)).fl
                have HFL := hid hfl; clear hfl
                have hk2n : k2 < G.nb := by rw [I6.out.nb]; exact hlt2
                go_wp2_with fail
                go_quiet ((go_at_call 12; exact Calls.quiet_of_same (wear_q p q k2 _ G (HFL.out _) hk2n)))
                have I7 := hid (I6.out.upd ((Upd.refl (fun _ => False) wr).drewN nq) id id id (fun _ h => h.elim) (fun _ h => h.elim) (by have := I6.out.size; omega))
                go_wp2_with fail
                go_roundg (b - (k2 + 1))
                case measure => have := HN2.out; omega
                case rel => exact ⟨k2 + 1, by omega, rfl, by go_num, I7.out⟩
              · go_wp2_with fail
                go_roundg (l.length - (k + 1))
                case measure => have := HN.out; omega
                case rel => exact ⟨k + 1, G, by omega, rfl, by go_num, I6.out⟩
        · by_cases hk1 : kind = 1
          · have hk1b : (kind == 1) = true := beq_iff_eq.2 hk1
            by_cases hb1 : 0 ≤ block
            · by_cases hb2 : block < b
              · obtain ⟨m, rfl⟩ := Int.eq_ofNat_of_zero_le hb1
                have hmb : m < b := by omega
                obtain ⟨hrc, hrz⟩ := HR.out.cell hmb
                by_cases her : er = 0
                · subst her
                  have inv5 : WearInv (w4.setCell ⟨g, m, none⟩ (.int .i64 ((F.blk m).wear + 1))) p q g b w.heap.size w G (k + 1) := by
                    refine HG.out _ (HF.out.upd (S := (· = g)) ((Upd.refl _ _).at_ _ _) (fun e => hgp e.symm) (fun e => hgq e.symm) (fun j hj => hj ▸ HR.out.noStr)) (HR.out.step (n := m) (fun j hj => ?_) hmb) (HO.out.setCell hgB _) (by simpa using HS.out)
                    rw [HW.out j]
                    congr 1
                    simp [hb1, hb2, hk1]
                  have hwm : (F.blk m).wear ≤ 100 := by have := HFEW.out m hmb; omega
                  go_wp2_with fail
                  have I5 := hid inv5
                  clear inv5 HR HW HF HO HS HG x0c x1c
                  go_loopg [16] b (fun n i wx => ∃ k2 : Nat, k2 ≤ b ∧ n = b - k2 ∧ i = .int .i64 k2 ∧ WearInv wx p q g b w.heap.size w G (k + 1))
                  case atStart => exact ⟨0, Nat.zero_le _, rfl, rfl, I5.out⟩
                  case round =>
                    obtain ⟨k2, hk2, hn2, rfl, inv6⟩ := hrel
                    have I6 := hid inv6
                    have HN2 := hid hn2
                    clear inv6 hn2 I5
                    by_cases hlt2 : k2 < b
                    · obtain ⟨hrc2, hrz2⟩ := I6.out.row.cell hlt2
                      have hfl : ∀ m, FlashAt (wr.drewN m) p q G := fun m => (I6.out.upd ((Upd.refl (fun _ => False) wr).drewN m) id id id (fun _ h => h.elim) (fun _ h => h.elim) (by have := I6.out.size; omega)).fl
                      have HFL := hid hfl; clear hfl
                      have hk2n : k2 < G.nb := by rw [I6.out.nb]; exact hlt2
                      go_wp2_with fail
                      go_quiet ((go_at_call 12; exact Calls.quiet_of_same (wear_q p q k2 _ G (HFL.out _) hk2n)))
                      have I7 := hid (I6.out.upd ((Upd.refl (fun _ => False) wr).drewN nq) id id id (fun _ h => h.elim) (fun _ h => h.elim) (by have := I6.out.size; omega))
                      go_wp2_with fail
                      go_roundg (b - (k2 + 1))
                      case measure => have := HN2.out; omega
                      case rel => exact ⟨k2 + 1, by omega, rfl, by go_num, I7.out⟩
                    · go_wp2_with fail
                      go_roundg (l.length - (k + 1))
                      case measure => have := HN.out; omega
                      case rel => exact ⟨k + 1, G, by omega, rfl, by go_num, I6.out⟩
                · have herb : (er == 0) = false := beq_eq_false_iff_ne.2 her
                  have inv5 : WearInv w4 p q g b w.heap.size w G (k + 1) := HG.out w4 HF.out (HR.out.same fun j hj => by
                    rw [HW.out j, if_neg (by simp [her])]; rfl) HO.out HS.out
                  go_wp2_with fail
                  have I5 := hid inv5
                  clear inv5 HR HW HF HO HS HG x0c x1c
                  go_loopg [16] b (fun n i wx => ∃ k2 : Nat, k2 ≤ b ∧ n = b - k2 ∧ i = .int .i64 k2 ∧ WearInv wx p q g b w.heap.size w G (k + 1))
                  case atStart => exact ⟨0, Nat.zero_le _, rfl, rfl, I5.out⟩
                  case round =>
                    obtain ⟨k2, hk2, hn2, rfl, inv6⟩ := hrel
                    have I6 := hid inv6
                    have HN2 := hid hn2
                    clear inv6 hn2 I5
                    by_cases hlt2 : k2 < b
                    · obtain ⟨hrc2, hrz2⟩ := I6.out.row.cell hlt2
                      have hfl : ∀ m, FlashAt (wr.drewN m) p q G := fun m => (I6.out.upd ((Upd.refl (fun _ => False) wr).drewN m) id id id (fun _ h => h.elim) (fun _ h => h.elim) (by have := I6.out.size; omega)).fl
                      have HFL := hid hfl; clear hfl
                      have hk2n : k2 < G.nb := by rw [I6.out.nb]; exact hlt2
                      go_wp2_with fail
                      go_quiet ((go_at_call 12; exact Calls.quiet_of_same (wear_q p q k2 _ G (HFL.out _) hk2n)))
                      have I7 := hid (I6.out.upd ((Upd.refl (fun _ => False) wr).drewN nq) id id id (fun _ h => h.elim) (fun _ h => h.elim) (by have := I6.out.size; omega))
                      go_wp2_with fail
                      go_roundg (b - (k2 + 1))
                      case measure => have := HN2.out; omega
                      case rel => exact ⟨k2 + 1, by omega, rfl, by go_num, I7.out⟩
                    · go_wp2_with fail
                      go_roundg (l.length - (k + 1))
                      case measure => have := HN.out; omega
                      case rel => exact ⟨k + 1, G, by omega, rfl, by go_num, I6.out⟩
              · have hb2' : ((b : Int) ≤ block) := by omega
                have inv5 : WearInv w4 p q g b w.heap.size w G (k + 1) := HG.out w4 HF.out (HR.out.same fun j hj => by
                  rw [HW.out j, if_neg (by simp [hb2])]; rfl) HO.out HS.out
                go_wp2_with fail
                have I5 := hid inv5
                clear inv5 HR HW HF HO HS HG x0c x1c
                go_loopg [16] b (fun n i wx => ∃ k2 : Nat, k2 ≤ b ∧ n = b - k2 ∧ i = .int .i64 k2 ∧ WearInv wx p q g b w.heap.size w G (k + 1))
                case atStart => exact ⟨0, Nat.zero_le _, rfl, rfl, I5.out⟩
                case round =>
                  obtain ⟨k2, hk2, hn2, rfl, inv6⟩ := hrel
                  have I6 := hid inv6
                  have HN2 := hid hn2
                  clear inv6 hn2 I5
                  by_cases hlt2 : k2 < b
                  · obtain ⟨hrc2, hrz2⟩ := I6.out.row.cell hlt2
                    have hfl : ∀ m, FlashAt (wr.drewN m) p q G := fun m => (I6.out.upd ((Upd.refl (fun _ => False) wr).drewN m) id id id (fun _ h => h.elim) (fun _ h => h.elim) (by have := I6.out.size; omega)).fl
                    have HFL := hid hfl; clear hfl
                    have hk2n : k2 < G.nb := by rw [I6.out.nb]; exact hlt2
                    go_wp2_with fail
                    go_quiet ((go_at_call 12; exact Calls.quiet_of_same (wear_q p q k2 _ G (HFL.out _) hk2n)))
                    have I7 := hid (I6.out.upd ((Upd.refl (fun _ => False) wr).drewN nq) id id id (fun _ h => h.elim) (fun _ h => h.elim) (by have := I6.out.size; omega))
                    go_wp2_with fail
                    go_roundg (b - (k2 + 1))
                    case measure => have := HN2.out; omega
                    case rel => exact ⟨k2 + 1, by omega, rfl, by go_num, I7.out⟩
                  · go_wp2_with fail
                    go_roundg (l.length - (k + 1))
                    case measure => have := HN.out; omega
                    case rel => exact ⟨k + 1, G, by omega, rfl, by go_num, I6.out⟩
            · have hb1' : block < 0 := by omega
              have inv5 : WearInv w4 p q g b w.heap.size w G (k + 1) := HG.out w4 HF.out (HR.out.same fun j hj => by
                rw [HW.out j, if_neg (by simp [hb1])]; rfl) HO.out HS.out
              go_wp2_with fail
              have I5 := hid inv5
              clear inv5 HR HW HF HO HS HG x0c x1c
              go_loopg [16] b (fun n i wx => ∃ k2 : Nat, k2 ≤ b ∧ n = b - k2 ∧ i = .int .i64 k2 ∧ WearInv wx p q g b w.heap.size w G (k + 1))
              case atStart => exact ⟨0, Nat.zero_le _, rfl, rfl, I5.out⟩
              case round =>
                obtain ⟨k2, hk2, hn2, rfl, inv6⟩ := hrel
                have I6 := hid inv6
                have HN2 := hid hn2
                clear inv6 hn2 I5
                by_cases hlt2 : k2 < b
                · obtain ⟨hrc2, hrz2⟩ := I6.out.row.cell hlt2
                  have hfl : ∀ m, FlashAt (wr.drewN m) p q G := fun m => (I6.out.upd ((Upd.refl (fun _ => False) wr).drewN m) id id id (fun _ h => h.elim) (fun _ h => h.elim) (by have := I6.out.size; omega)).fl
                  have HFL := hid hfl; clear hfl
                  have hk2n : k2 < G.nb := by rw [I6.out.nb]; exact hlt2
                  go_wp2_with fail
                  go_quiet ((go_at_call 12; exact Calls.quiet_of_same (wear_q p q k2 _ G (HFL.out _) hk2n)))
                  have I7 := hid (I6.out.upd ((Upd.refl (fun _ => False) wr).drewN nq) id id id (fun _ h => h.elim) (fun _ h => h.elim) (by have := I6.out.size; omega))
                  go_wp2_with fail
                  go_roundg (b - (k2 + 1))
                  case measure => have := HN2.out; omega
                  case rel => exact ⟨k2 + 1, by omega, rfl, by go_num, I7.out⟩
                · go_wp2_with fail
                  go_roundg (l.length - (k + 1))
                  case measure => have := HN.out; omega
                  case rel => exact ⟨k + 1, G, by omega, rfl, by go_num, I6.out⟩
          · have hk1b : (kind == 1) = false := beq_eq_false_iff_ne.2 hk1
            have inv5 : WearInv w4 p q g b w.heap.size w G (k + 1) := HG.out w4 HF.out (HR.out.same fun j hj => by
              rw [HW.out j, if_neg (by simp [hk1])]; rfl) HO.out HS.out
            go_wp2_with fail
            have I5 := hid inv5
            clear inv5 HR HW HF HO HS HG x0c x1c
            go_loopg [16] b (fun n i wx => ∃ k2 : Nat, k2 ≤ b ∧ n = b - k2 ∧ i = .int .i64 k2 ∧ WearInv wx p q g b w.heap.size w G (k + 1))
            case atStart => exact ⟨0, Nat.zero_le _, rfl, rfl, I5.out⟩
            case round =>
              obtain ⟨k2, hk2, hn2, rfl, inv6⟩ := hrel
              have I6 := hid inv6
              have HN2 := hid hn2
              clear inv6 hn2 I5
              by_cases hlt2 : k2 < b
              · obtain ⟨hrc2, hrz2⟩ := I6.out.row.cell hlt2
                have hfl : ∀ m, FlashAt (wr.drewN m) p q G := fun m => (I6.out.upd ((Upd.refl (fun _ => False) wr).drewN m) id id id (fun _ h => h.elim) (fun _ h => h.elim) (by have := I6.out.size; omega)).fl
                have HFL := hid hfl; clear hfl
                have hk2n : k2 < G.nb := by rw [I6.out.nb]; exact hlt2
                go_wp2_with fail
                go_quiet ((go_at_call 12; exact Calls.quiet_of_same (wear_q p q k2 _ G (HFL.out _) hk2n)))
                have I7 := hid (I6.out.upd ((Upd.refl (fun _ => False) wr).drewN nq) id id id (fun _ h => h.elim) (fun _ h => h.elim) (by have := I6.out.size; omega))
                go_wp2_with fail
                go_roundg (b - (k2 + 1))
                case measure => have := HN2.out; omega
                case rel => exact ⟨k2 + 1, by omega, rfl, by go_num, I7.out⟩
              · go_wp2_with fail
                go_roundg (l.length - (k + 1))
                case measure => have := HN.out; omega
                case rel => exact ⟨k + 1, G, by omega, rfl, by go_num, I6.out⟩
      · skip
        clear HE hrun HL
        have hko : k ≤ 40 := by omega
        have f0 := INV.out.fl
        have hw0 := INV.out.few 0 (by omega)
        go_wp2_with fail
        refine (start_any p q _ F INV.out.fl).mono ?_
        rintro e v1 ⟨rfl, f1, u1⟩
        go_wp2_with fail
        refine (arm_any p q 0 0 _ _ f1 (by decide)).mono ?_
        rintro e v2 ⟨rfl, f2, u2⟩
        go_wp2_with fail
        refine (lose_any p q 0 _ _ f2 (by decide)).mono ?_
        rintro e v3 ⟨rfl, f3, u3⟩
        have hBw := INV.out.old.size
        have li : LoopInv v3 p q b w.heap.size w (((F.start).arm 0 0).lose 0) :=
          ⟨f3, ⟨rfl, rfl, rfl⟩, INV.out.nb, INV.out.np, by show (F.blk 0).wear ≤ 1000; omega, .inl (by show (F.blk 0).wear ≤ 40; omega),
            INV.out.old.trans (((u1.trans u2).trans u3).below hBw (by rintro j rfl; exact hp)), hp, hq, by have := ((u1.trans u2).trans u3).size; omega⟩
        have LI := hid li
        clear li f0 f1 f2 f3 u1 u2 u3 hw0 hBw INV HN
        generalize (((F.start).arm 0 0).lose 0) = F3 at *
        go_wp2_with fail
        go_loopg [17] (1000 - (F3.blk 0).wear) (fun n _ wx => ∃ G, n = 1000 - (G.blk 0).wear ∧ LoopInv wx p q b w.heap.size w G)
        case atStart => exact ⟨F3, rfl, LI.out⟩
        case round =>
          obtain ⟨G, hn, li⟩ := hrel
          have LJ := hid li
          have HN := hid hn
          clear li hn LI
          by_cases hw : (G.blk 0).wear < 1000
          · have hwi : ((G.blk 0).wear : Int) < 1000 := by omega
            have HW := hid hw; clear hw
            go_wp2_with fail
            refine (wear_0 p q _ G LJ.out.fl).mono ?_
            rintro e x1 ⟨rfl, rfl⟩
            go_wp2_with fail
            refine (wear_0 p q _ G LJ.out.fl).mono ?_
            rintro e x1 ⟨rfl, rfl⟩
            go_wp2_with fail
            refine (erase_calm p q _ G LJ.out.fl LJ.out.calm HW.out).mono ?_
            rintro e x2w ⟨rfl, f5, u5⟩
            go_wp2_with fail
            refine (wear_0 p q _ _ f5).mono ?_
            rintro e x3 ⟨he, rfl⟩
            rw [Calm.wear_next] at he
            subst he
            have l2 : LoopInv x2w p q b w.heap.size w ((G.clear 0 0).worn 0) := by
              have h1 := LJ.out
              refine ⟨f5, h1.calm.next, h1.nb, h1.np, ?_, .inr fun k => ?_, h1.old.trans (u5.below h1.size.2.2 (two_le h1.size.1 h1.size.2.1)), h1.size.1, h1.size.2.1, by have := u5.size; have := h1.size; omega⟩
              · have := Calm.wear_next G; have := HW.out; omega
              · rw [Fl.worn_page, Fl.clear_page]
            have L2 := hid l2
            clear l2 f5 u5
            go_wp2_with fail
            go_roundg (1000 - (((G.clear 0 0).worn 0).blk 0).wear)
            case measure => have := Calm.wear_next G; have := HN.out; have := HW.out; omega
            case rel => exact ⟨_, rfl, L2.out⟩
          · have hwi : 1000 ≤ ((G.blk 0).wear : Int) := by omega
            have hwe : (G.blk 0).wear = 1000 := by have := LJ.out.top; omega
            have hpn : ∀ k, (G.blk 0).page k = none := by
              rcases LJ.out.pages with h | h
              · omega
              · exact h
            have HWE := hid hwe
            have HPN := hid hpn
            clear hw hwe hpn HN
            go_wp2_with fail
            refine (wear_0 p q _ G LJ.out.fl).mono ?_
            rintro e x1 ⟨rfl, rfl⟩
            go_wp2_with fail
            have ep : G.program 0 pg ⟨#[108, 97, 115, 116]⟩ = (G.setPage 0 pg ⟨#[108, 97, 115, 116]⟩, 0) :=
              LJ.out.calm.program (n := 0) (by rw [LJ.out.nb]; omega) (by rw [LJ.out.np]; omega) (fun k _ _ => HPN.out k) (by decide)
            refine (program_any p q 0 pg ⟨#[108, 97, 115, 116]⟩ _ G LJ.out.fl (by decide)).mono ?_
            rintro e y1 ⟨he, f6, u6⟩
            rw [ep] at he f6
            subst he
            dsimp only at f6
            have hcal : Calm (G.setPage 0 pg ⟨#[108, 97, 115, 116]⟩) := ⟨LJ.out.calm.down, LJ.out.calm.left, LJ.out.calm.lost⟩
            have hww : ((G.setPage 0 pg ⟨#[108, 97, 115, 116]⟩).blk 0).wear = 1000 := by rw [Fl.setPage_wear]; exact HWE.out
            have ee : (G.setPage 0 pg ⟨#[108, 97, 115, 116]⟩).erase 0 = (G.setPage 0 pg ⟨#[108, 97, 115, 116]⟩, 10) := hcal.worn f6.ok (n := 0) (by have := f6.ok.nb.1; omega) (by omega)
            have er : (G.setPage 0 pg ⟨#[108, 97, 115, 116]⟩).reads 0 pg ⟨#[108, 97, 115, 116]⟩ = true := by
              unfold Fl.reads
              have : (G.setPage 0 pg ⟨#[108, 97, 115, 116]⟩).read 0 pg = (⟨#[108, 97, 115, 116]⟩, 0) :=
                Fl.read_some hcal.down (n := 0) (by have := f6.ok.nb.1; omega) (by show pg < G.np; rw [LJ.out.np]; exact hp4) (G.setPage_page 0 pg _)
              rw [this]; simp
            have hu := u6.below LJ.out.size.2.2 (two_le LJ.out.size.1 LJ.out.size.2.1)
            have hB1 := hid (LJ.out.old.trans hu)
            have hB2 : w.heap.size ≤ y1.heap.size := by have := u6.size; have := LJ.out.size; omega
            have EE := hid ee; have ER := hid er; have WW := hid hww; have F6 := hid f6
            clear ee er hww f6 ep hcal u6 hu
            generalize (G.setPage 0 pg ⟨#[108, 97, 115, 116]⟩) = G2 at *
            go_wp2_with fail
            refine (erase_any p q 0 _ G2 F6.out).mono ?_
            rintro e y2 ⟨he, f7, u7⟩
            rw [EE.out] at he f7
            subst he
            have F7 := hid f7
            have B7 := hid (hB1.out.trans (u7.below hB2 (by rintro j (rfl | rfl) <;> assumption)))
            clear f7 u7
            go_wp2_with fail
            refine (wear_0 p q _ G2 F7.out).mono ?_
            rintro e x1 ⟨he, rfl⟩
            rw [WW.out] at he
            subst he
            go_wp2_with fail
            refine (reads_any p q 0 pg ⟨#[108, 97, 115, 116]⟩ _ G2 F7.out).mono ?_
            rintro e x1 ⟨he, rfl⟩
            rw [ER.out] at he
            subst he
            go_wp2_with fail
            go_ret
            exact ⟨rfl, B7.out⟩
end Go.Proofs.Ytajmhiacmjgffaa
