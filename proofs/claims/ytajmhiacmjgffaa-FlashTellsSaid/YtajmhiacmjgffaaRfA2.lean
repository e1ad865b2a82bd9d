/- The walks of Erase and Do of the reference's flash. -/
import Derived.Test.YtajmhiacmjgffaaRfA1
namespace Go.Proofs.Ytajmhiacmjgffaa
open Go.RowKit

def Fl.dropPage (F : Fl) (n k : Nat) : Fl :=
  { F with blk := fun i => if i = n then { F.blk n with page := fun j => if j = k then none else (F.blk n).page j } else F.blk i }
theorem Fl.dropPage_wear (F : Fl) (n k i : Nat) : ((F.dropPage n k).blk i).wear = (F.blk i).wear := by
  unfold Fl.dropPage; dsimp only; split
  · rename_i e; subst e; rfl
  · rfl

theorem RefAt.dropPage {w : World} {p q n k : Nat} {g : Nat → Nat} {F : Fl} (h : RefAt w p q g F) (hn : n < F.nb) (hk : k < F.np) :
    RefAt ((w.setCell ⟨g n, k * 2, none⟩ (.bool false)).setCell ⟨g n, k * 2 + 1, none⟩ (.string ByteArray.empty)) p q g (F.dropPage n k) := by
  obtain ⟨cap, h1⟩ := h.head
  obtain ⟨cs, h2, h3⟩ := h.rows
  have hne := h.ne
  obtain ⟨ps, h4, h5⟩ := h.pages n hn
  have hps : ∀ j, j < F.np → j * 2 + 1 < ps.size := fun j hj => by
    rcases Nat.lt_or_ge (j * 2 + 1) ps.size with g1 | g1
    · exact g1
    · have := (h5 j hj).2; rw [Array.getElem?_eq_none g1] at this; cases this
  refine ⟨⟨cap, by simp only [heap_setCell, if_neg ((hne.2 n hn).1.symm)]; exact h1⟩, ⟨cs, by simp only [heap_setCell, if_neg ((hne.2 n hn).2.symm)]; exact h2, fun i hi => ?_⟩, fun i hi => ?_, h.inj,
    ⟨h.ok.nb, h.ok.np, h.ok.lost, h.ok.left, fun i hi => by rw [Fl.dropPage_wear]; exact h.ok.wear i hi⟩⟩
  · rw [Fl.dropPage_wear]; exact h3 i hi
  · by_cases e : i = n
    · subst e
      refine ⟨(ps.setIfInBounds (k * 2) (.bool false)).setIfInBounds (k * 2 + 1) (.string ByteArray.empty), ?_, fun j hj => ?_⟩
      · simp [heap_setCell, Obj.setAt, h4]
      · have hpg : ((F.dropPage i k).blk i).page j = if j = k then none else (F.blk i).page j := by
          unfold Fl.dropPage; dsimp only; rw [if_pos rfl]
        rw [hpg]
        by_cases ej : j = k
        · subst ej
          rw [if_pos rfl]
          have := hps j hj
          refine ⟨?_, ?_⟩
          · rw [Array.getElem?_setIfInBounds_ne (by omega), Array.getElem?_setIfInBounds_self_of_lt (by omega)]; rfl
          · rw [Array.getElem?_setIfInBounds_self_of_lt (by simp; omega)]; rfl
        · rw [if_neg ej]
          refine ⟨?_, ?_⟩
          · rw [Array.getElem?_setIfInBounds_ne (by omega), Array.getElem?_setIfInBounds_ne (by omega)]; exact (h5 j hj).1
          · rw [Array.getElem?_setIfInBounds_ne (by omega), Array.getElem?_setIfInBounds_ne (by omega)]; exact (h5 j hj).2
    · obtain ⟨ps', h6, h7⟩ := h.pages i hi
      have hgi : g n ≠ g i := fun e1 => e (h.inj i n hi hn e1.symm)
      refine ⟨ps', by simp only [heap_setCell, if_neg hgi]; exact h6, fun j hj => ?_⟩
      have hpg : ((F.dropPage n k).blk i).page j = (F.blk i).page j := by
        unfold Fl.dropPage; dsimp only; rw [if_neg e]
      rw [hpg]; exact h7 j hj

/-- Pages below j are cleared where C says so. -/
def Fl.clearTo (F : Fl) (n : Nat) (C : Nat → Bool) (j : Nat) : Fl :=
  { F with blk := fun i => if i = n then { F.blk n with page := fun k => if k < j ∧ C k = true then none else (F.blk n).page k } else F.blk i }

/-- Only what lies within the sizes matters. -/
theorem RefAt.congr {w : World} {p q : Nat} {g : Nat → Nat} {F G : Fl} (h : RefAt w p q g F) (h1 : G.nb = F.nb) (h2 : G.np = F.np) (h3 : G.down = F.down) (h4 : G.lost = F.lost) (h5 : G.left = F.left) (h6 : G.keep = F.keep)
    (hw : ∀ i, i < F.nb → (G.blk i).wear = (F.blk i).wear) (hp : ∀ i k, i < F.nb → k < F.np → (G.blk i).page k = (F.blk i).page k) : RefAt w p q g G := by
  obtain ⟨cap, a1⟩ := h.head
  obtain ⟨cs, a2, a3⟩ := h.rows
  refine ⟨⟨cap, by rw [h1, h2, h3, h4, h5, h6]; exact a1⟩, ⟨cs, a2, fun i hi => ?_⟩, fun i hi => ?_, by rw [h1]; exact h.inj, ⟨by rw [h1]; exact h.ok.nb, by rw [h2]; exact h.ok.np, by rw [h4]; exact h.ok.lost, by rw [h5]; exact h.ok.left, fun i hi => by rw [h1] at hi; rw [hw i hi]; exact h.ok.wear i hi⟩⟩
  · rw [h1] at hi
    rw [h2, hw i hi]; exact a3 i hi
  · rw [h1] at hi
    obtain ⟨ps, b1, b2⟩ := h.pages i hi
    exact ⟨ps, b1, fun k hk => by rw [h2] at hk; rw [hp i k hi hk]; exact b2 k hk⟩

theorem RefAt.worn {w : World} {p q n : Nat} {g : Nat → Nat} {F : Fl} (h : RefAt w p q g F) (hn : n < F.nb) (hw : (F.blk n).wear < 1000) :
    RefAt (w.setCell ⟨q, n * 2 + 1, none⟩ (.int .i64 ((F.blk n).wear + 1))) p q g (F.worn n) := by
  obtain ⟨cap, h1⟩ := h.head
  obtain ⟨cs, h2, h3⟩ := h.rows
  have hne := h.ne
  refine ⟨⟨cap, by rw [heap_setCell_other hne.1]; exact h1⟩, ⟨cs.setIfInBounds (n * 2 + 1) (.int .i64 ((F.blk n).wear + 1)), heap_setCell_same rfl h2, fun i hi => ?_⟩, fun i hi => ?_, h.inj, ⟨h.ok.nb, h.ok.np, h.ok.lost, h.ok.left, fun i hi => ?_⟩⟩
  · obtain ⟨a1, a2⟩ := h3 i hi
    have hlt : i * 2 + 1 < cs.size := by
      rcases Nat.lt_or_ge (i * 2 + 1) cs.size with g1 | g1
      · exact g1
      · rw [Array.getElem?_eq_none g1] at a2; cases a2
    rw [Fl.worn_wear]
    refine ⟨by rw [Array.getElem?_setIfInBounds_ne (by omega)]; exact a1, ?_⟩
    by_cases e : i = n
    · subst e
      rw [Array.getElem?_setIfInBounds_self_of_lt hlt, if_pos rfl]; rfl
    · rw [Array.getElem?_setIfInBounds_ne (by omega), if_neg e]; exact a2
  · obtain ⟨ps, b1, b2⟩ := h.pages i hi
    exact ⟨ps, by rw [heap_setCell_other (hne.2 i hi).2.symm]; exact b1, fun k hk => by rw [Fl.worn_page]; exact b2 k hk⟩
  · rw [Fl.worn_wear]
    split
    · rename_i e; subst e; omega
    · exact h.ok.wear i hi

def REraPost (p q : Nat) (g : Nat → Nat) (F : Fl) (b : Int) (w : World) (e : Ending) (w' : World) : Prop :=
  e = .returned (.int .i64 (F.erase b).2) ∧ RefAt w' p q g (F.erase b).1 ∧ Upd (Foot p q g F.nb) w w'

set_option maxRecDepth 100000 in
set_option maxHeartbeats 2000000 in
theorem rerase_any (p q : Nat) (g : Nat → Nat) (b : Int) (w : World) (F : Fl) (h : RefAt w p q g F) :
    Calls Try.prog 30 #[.pointer (some ⟨p, 0, none⟩), .int .i64 b] w (REraPost p q g F b w) := by
  obtain ⟨cap, ⟨c0, c1, c2, c3, c4, c5⟩, hz⟩ := h.cells
  have hnb := h.ok.nb.2
  have hnp := h.ok.np
  have ROW := hid fun i (hi : i < F.nb) => h.row hi
  have H := hid h; clear h
  cases hd : F.down
  case true =>
    have ha : F.atErr b 0 = 8 := by unfold Fl.atErr; rw [hd, if_pos rfl]
    have E := hid (show F.erase b = (F, 8) by rw [Fl.erase, if_pos (by rw [ha]; decide), ha])
    clear ROW ha
    go_enter Try.func30, Try.ntmps30
    go_wp2_with fail
    go_ret
    unfold REraPost
    rw [E.out]
    exact ⟨rfl, H.out, Upd.refl _ _⟩
  case false =>
    by_cases hb : 0 ≤ b ∧ b < F.nb
    case neg =>
      have HB := hid (show F.hasB b = false from decide_eq_false hb)
      have ha : F.atErr b 0 = 1 := by unfold Fl.atErr; rw [hd, if_neg (by decide), if_pos (by omega)]
      have E := hid (show F.erase b = (F, 1) by rw [Fl.erase, if_pos (by rw [ha]; decide), ha])
      clear ROW ha hb
      go_enter Try.func30, Try.ntmps30
      go_wp2_with fail
      refine (rhas_any p q g b w F H.out).mono ?_
      rintro e w' ⟨he, rfl⟩
      rw [HB.out] at he
      subst he
      go_wp2_with fail
      go_ret
      unfold REraPost
      rw [E.out]
      exact ⟨rfl, H.out, Upd.refl _ _⟩
    case pos =>
      have HB := hid (show F.hasB b = true from decide_eq_true hb)
      have ha : F.atErr b 0 = 0 := Fl.atErr_ok hd hb.1 hb.2 (by omega) (by omega)
      obtain ⟨n, rfl⟩ := Int.eq_ofNat_of_zero_le hb.1
      have hn2 : n < F.nb := by omega
      obtain ⟨⟨cp, hcp, r1⟩, r2, r3⟩ := ROW.out n hn2
      have hnp1 := hnp.1
      have hnp2 := hnp.2
      have E0 : F.erase n = if 1000 ≤ (F.blk n).wear then (F, 10) else
          if F.tick.down then ((F.tick.clear n (min (max F.keep 0) F.np).toNat).worn n, 8) else ((F.tick.clear n 0).worn n, 0) := by
        unfold Fl.erase
        rw [if_neg (by rw [ha]; exact fun h => h rfl)]
        rfl
      have E := hid E0
      clear ROW hb ha E0 hnp
      by_cases hw : 1000 ≤ (F.blk n).wear
      · have hwi : (1000 : Int) ≤ (F.blk n).wear := by omega
        have E1 := hid (show F.erase n = (F, 10) by rw [E.out, if_pos hw])
        clear hw
        go_enter Try.func30, Try.ntmps30
        go_wp2_with fail
        refine (rhas_any p q g n w F H.out).mono ?_
        rintro e w' ⟨he, rfl⟩
        rw [HB.out] at he
        subst he
        go_wp2_with fail
        go_ret
        unfold REraPost
        rw [E1.out]
        exact ⟨rfl, H.out, Upd.refl _ _⟩
      · have hwi : ((F.blk n).wear : Int) < 1000 := by omega
        have HW := hid hw; clear hw
        go_enter Try.func30, Try.ntmps30
        go_wp2_with fail
        refine (rhas_any p q g n w F H.out).mono ?_
        rintro e w' ⟨he, rfl⟩
        rw [HB.out] at he
        subst he
        go_wp2_with fail
        refine (rcomes_any p q g _ F H.out hd).mono ?_
        rintro e w2 ⟨rfl, f2, u2⟩
        obtain ⟨cap2, ⟨d0, d1, d2, d3, d4, d5⟩, hz2⟩ := f2.cells
        have tn : F.tick.nb = F.nb := F.tick_blk.2.1
        have tp : F.tick.np = F.np := F.tick_blk.2.2.1
        have tk : F.tick.keep = F.keep := F.tick_blk.2.2.2.2
        have hn3 : n < F.tick.nb := by rw [tn]; exact hn2
        obtain ⟨⟨cp2, hcp2, q1⟩, q2, q3⟩ := f2.row hn3
        rw [tp] at q1
        rw [F.tick_wear] at q2
        rw [tk] at d5
        have H2 := hid f2; have U2 := hid u2
        have hwt := F.tick_wear n
        have TB := hid F.tick_blk
        clear f2 u2 tn tp tk c0 c1 c2 c3 c4 c5 r1 r2 r3 hwt
        cases ht : F.tick.down
        · have E1 := hid (show F.erase n = ((F.tick.clear n 0).worn n, 0) by rw [E.out, if_neg HW.out, if_neg (by rw [ht]; decide)])
          obtain ⟨C, hC⟩ : ∃ C : Nat → Bool, C = fun (_ : Nat) => true := ⟨_, rfl⟩
          have HC := hid hC
          clear hC
          have i0 : RefAt w2 p q g (F.tick.clearTo n C 0) := H2.out.congr rfl rfl rfl rfl rfl rfl (fun i _ => by unfold Fl.clearTo; dsimp only; split; (rename_i e; subst e; rfl); rfl)
            (fun i k _ _ => by unfold Fl.clearTo; dsimp only; split; (rename_i e; subst e; simp); rfl)
          have I0 := hid i0
          clear i0
          go_wp2_with fail
          go_loopg [7] F.np (fun gn i wx => ∃ j : Nat, j ≤ F.np ∧ gn = F.np - j ∧ i = .int .i64 j ∧ RefAt wx p q g (F.tick.clearTo n C j) ∧ Upd (Foot p q g F.nb) w2 wx)
          case atStart => exact ⟨0, Nat.zero_le _, rfl, rfl, I0.out, Upd.refl _ _⟩
          case round =>
            clear I0
            obtain ⟨j, hj, hgn, rfl, rj, uj⟩ := hrel
            have RJ := hid rj; have UJ := hid uj; have HGN := hid hgn
            obtain ⟨capx, ⟨x0, x1, x2, x3, x4, x5⟩, xz⟩ := rj.cells
            have xk : (F.tick.clearTo n C j).keep = F.keep := TB.out.2.2.2.2
            rw [xk] at x5
            obtain ⟨⟨cpx, hcpx, y1⟩, y2, y3⟩ := rj.row (i := n) (by show n < F.tick.nb; exact hn3)
            have yw : ((F.tick.clearTo n C j).blk n).wear = (F.blk n).wear := by
              unfold Fl.clearTo; dsimp only; rw [if_pos rfl]; exact F.tick_wear n
            rw [yw] at y2
            clear rj uj hgn xk yw d0 d1 d2 d3 d4 d5 q1 q2 q3
            by_cases hlt : j < F.np
            · obtain ⟨p1, p2, pz⟩ := RJ.out.page (i := n) (k := j) (by show n < F.tick.nb; exact hn3) (by show j < F.tick.np; rw [TB.out.2.2.1]; exact hlt)
              have hstep : C j = true → RefAt ((wr.setCell ⟨g n, j * 2, none⟩ (.bool false)).setCell ⟨g n, j * 2 + 1, none⟩ (.string ByteArray.empty)) p q g (F.tick.clearTo n C (j + 1)) := fun hc => by
                refine (RJ.out.dropPage (n := n) (k := j) (by show n < F.tick.nb; exact hn3) (by show j < F.tick.np; rw [TB.out.2.2.1]; exact hlt)).congr rfl rfl rfl rfl rfl rfl (fun i _ => ?_) (fun i k _ _ => ?_)
                · rw [Fl.dropPage_wear]
                  unfold Fl.clearTo; dsimp only; split <;> rfl
                · unfold Fl.dropPage Fl.clearTo
                  dsimp only
                  by_cases e : i = n
                  · subst e
                    simp only [if_pos]
                    by_cases ek : k = j
                    · subst ek
                      rw [if_pos ⟨by omega, hc⟩, if_pos rfl]
                    · rw [if_neg ek]
                      by_cases e2 : k < j + 1 ∧ C k = true
                      · rw [if_pos e2, if_pos ⟨by omega, e2.2⟩]
                      · rw [if_neg e2, if_neg fun e3 => e2 ⟨by omega, e3.2⟩]
                  · simp only [if_neg e]
              have hskip : C j = false → RefAt wr p q g (F.tick.clearTo n C (j + 1)) := fun hc => by
                refine RJ.out.congr rfl rfl rfl rfl rfl rfl (fun i _ => ?_) (fun i k _ _ => ?_)
                · unfold Fl.clearTo; dsimp only; split <;> rfl
                · unfold Fl.clearTo
                  dsimp only
                  by_cases e : i = n
                  · subst e
                    simp only [if_pos]
                    by_cases e2 : k < j ∧ C k = true
                    · rw [if_pos e2, if_pos ⟨by omega, e2.2⟩]
                    · rw [if_neg e2, if_neg fun e3 => e2 ⟨by
                        rcases Nat.lt_or_ge k j with h1 | h1
                        · exact h1
                        · obtain rfl : k = j := by omega
                          rw [hc] at e3; exact absurd e3.2 (by decide), e3.2⟩]
                  · simp only [if_neg e]
              have HST := hid hstep; have HSK := hid hskip
              clear hstep hskip
              go_wp2_with fail
              go_roundg (F.np - (j + 1))
              case measure => have := HGN.out; omega
              case rel => exact ⟨j + 1, by omega, rfl, by go_num, HST.out (by rw [HC.out]), (UJ.out.setCell _ _ (.inl (.inr (.inr ⟨n, hn2, rfl⟩)))).setCell _ _ (.inl (.inr (.inr ⟨n, hn2, rfl⟩)))⟩
            · have hje : j = F.np := by omega
              have RK := hid (hje ▸ RJ.out)
              have hwk : ((F.tick.clearTo n C F.np).blk n).wear = (F.blk n).wear := by
                unfold Fl.clearTo; dsimp only; rw [if_pos rfl]; exact F.tick_wear n
              have hfin := RK.out.worn (n := n) (by show n < F.tick.nb; exact hn3) (by rw [hwk]; have := HW.out; omega)
              rw [hwk] at hfin
              have HFIN := hid hfin
              clear hje RJ hwk hfin
              go_wp2_with fail
              go_ret
              unfold REraPost
              rw [E1.out]
              refine ⟨rfl, HFIN.out.congr rfl rfl rfl rfl rfl rfl (fun i _ => ?_) (fun i k _ hk => ?_), ((U2.out.mono fun x hx => .inl hx).trans UJ.out).setCell _ _ (.inl (.inr (.inl rfl)))⟩
              · rw [Fl.worn_wear, Fl.worn_wear, Fl.clear_wear]
                congr 1
                unfold Fl.clearTo; dsimp only; split
                · rename_i e; subst e; rfl
                · rfl
              · rw [Fl.worn_page, Fl.worn_page]
                unfold Fl.clear Fl.clearTo
                dsimp only
                have hk : k < F.np := by have : k < F.tick.np := hk; rwa [TB.out.2.2.1] at this
                by_cases e : i = n
                · simp only [if_pos e]
                  rw [HC.out]
                  by_cases e2 : 0 ≤ k
                  · rw [if_pos e2, if_pos ⟨hk, by rfl⟩]
                  · rw [if_neg e2, if_neg fun e3 => e2 (by have := e3.2; exact Nat.zero_le _)]
                · simp only [if_neg e]
        · have E1 := hid (show F.erase n = ((F.tick.clear n (min (max F.keep 0) F.np).toNat).worn n, 8) by rw [E.out, if_neg HW.out, if_pos ht])
          obtain ⟨C, hC⟩ : ∃ C : Nat → Bool, C = fun (k : Nat) => decide (F.keep ≤ (k : Int)) := ⟨_, rfl⟩
          have HC := hid hC
          clear hC
          have i0 : RefAt w2 p q g (F.tick.clearTo n C 0) := H2.out.congr rfl rfl rfl rfl rfl rfl (fun i _ => by unfold Fl.clearTo; dsimp only; split; (rename_i e; subst e; rfl); rfl)
            (fun i k _ _ => by unfold Fl.clearTo; dsimp only; split; (rename_i e; subst e; simp); rfl)
          have I0 := hid i0
          clear i0
          go_wp2_with fail
          go_loopg [7] F.np (fun gn i wx => ∃ j : Nat, j ≤ F.np ∧ gn = F.np - j ∧ i = .int .i64 j ∧ RefAt wx p q g (F.tick.clearTo n C j) ∧ Upd (Foot p q g F.nb) w2 wx)
          case atStart => exact ⟨0, Nat.zero_le _, rfl, rfl, I0.out, Upd.refl _ _⟩
          case round =>
            clear I0
            obtain ⟨j, hj, hgn, rfl, rj, uj⟩ := hrel
            have RJ := hid rj; have UJ := hid uj; have HGN := hid hgn
            obtain ⟨capx, ⟨x0, x1, x2, x3, x4, x5⟩, xz⟩ := rj.cells
            have xk : (F.tick.clearTo n C j).keep = F.keep := TB.out.2.2.2.2
            rw [xk] at x5
            obtain ⟨⟨cpx, hcpx, y1⟩, y2, y3⟩ := rj.row (i := n) (by show n < F.tick.nb; exact hn3)
            have yw : ((F.tick.clearTo n C j).blk n).wear = (F.blk n).wear := by
              unfold Fl.clearTo; dsimp only; rw [if_pos rfl]; exact F.tick_wear n
            rw [yw] at y2
            clear rj uj hgn xk yw d0 d1 d2 d3 d4 d5 q1 q2 q3
            by_cases hlt : j < F.np
            · obtain ⟨p1, p2, pz⟩ := RJ.out.page (i := n) (k := j) (by show n < F.tick.nb; exact hn3) (by show j < F.tick.np; rw [TB.out.2.2.1]; exact hlt)
              have hstep : C j = true → RefAt ((wr.setCell ⟨g n, j * 2, none⟩ (.bool false)).setCell ⟨g n, j * 2 + 1, none⟩ (.string ByteArray.empty)) p q g (F.tick.clearTo n C (j + 1)) := fun hc => by
                refine (RJ.out.dropPage (n := n) (k := j) (by show n < F.tick.nb; exact hn3) (by show j < F.tick.np; rw [TB.out.2.2.1]; exact hlt)).congr rfl rfl rfl rfl rfl rfl (fun i _ => ?_) (fun i k _ _ => ?_)
                · rw [Fl.dropPage_wear]
                  unfold Fl.clearTo; dsimp only; split <;> rfl
                · unfold Fl.dropPage Fl.clearTo
                  dsimp only
                  by_cases e : i = n
                  · subst e
                    simp only [if_pos]
                    by_cases ek : k = j
                    · subst ek
                      rw [if_pos ⟨by omega, hc⟩, if_pos rfl]
                    · rw [if_neg ek]
                      by_cases e2 : k < j + 1 ∧ C k = true
                      · rw [if_pos e2, if_pos ⟨by omega, e2.2⟩]
                      · rw [if_neg e2, if_neg fun e3 => e2 ⟨by omega, e3.2⟩]
                  · simp only [if_neg e]
              have hskip : C j = false → RefAt wr p q g (F.tick.clearTo n C (j + 1)) := fun hc => by
                refine RJ.out.congr rfl rfl rfl rfl rfl rfl (fun i _ => ?_) (fun i k _ _ => ?_)
                · unfold Fl.clearTo; dsimp only; split <;> rfl
                · unfold Fl.clearTo
                  dsimp only
                  by_cases e : i = n
                  · subst e
                    simp only [if_pos]
                    by_cases e2 : k < j ∧ C k = true
                    · rw [if_pos e2, if_pos ⟨by omega, e2.2⟩]
                    · rw [if_neg e2, if_neg fun e3 => e2 ⟨by
                        rcases Nat.lt_or_ge k j with h1 | h1
                        · exact h1
                        · obtain rfl : k = j := by omega
                          rw [hc] at e3; exact absurd e3.2 (by decide), e3.2⟩]
                  · simp only [if_neg e]
              have HST := hid hstep; have HSK := hid hskip
              clear hstep hskip
              by_cases hkp : F.keep ≤ j
              · have hcj := HST.out (by rw [HC.out]; exact decide_eq_true hkp)
                have HCJ := hid hcj; clear hcj
                go_wp2_with fail
                go_roundg (F.np - (j + 1))
                case measure => have := HGN.out; omega
                case rel => exact ⟨j + 1, by omega, rfl, by go_num, HCJ.out, (UJ.out.setCell _ _ (.inl (.inr (.inr ⟨n, hn2, rfl⟩)))).setCell _ _ (.inl (.inr (.inr ⟨n, hn2, rfl⟩)))⟩
              · have hcj := HSK.out (by rw [HC.out]; exact decide_eq_false hkp)
                have HCJ := hid hcj; clear hcj
                go_wp2_with fail
                go_roundg (F.np - (j + 1))
                case measure => have := HGN.out; omega
                case rel => exact ⟨j + 1, by omega, rfl, by go_num, HCJ.out, UJ.out⟩
            · have hje : j = F.np := by omega
              have RK := hid (hje ▸ RJ.out)
              have hwk : ((F.tick.clearTo n C F.np).blk n).wear = (F.blk n).wear := by
                unfold Fl.clearTo; dsimp only; rw [if_pos rfl]; exact F.tick_wear n
              have hfin := RK.out.worn (n := n) (by show n < F.tick.nb; exact hn3) (by rw [hwk]; have := HW.out; omega)
              rw [hwk] at hfin
              have HFIN := hid hfin
              clear hje RJ hwk hfin
              go_wp2_with fail
              go_ret
              unfold REraPost
              rw [E1.out]
              refine ⟨rfl, HFIN.out.congr rfl rfl rfl rfl rfl rfl (fun i _ => ?_) (fun i k _ hk => ?_), ((U2.out.mono fun x hx => .inl hx).trans UJ.out).setCell _ _ (.inl (.inr (.inl rfl)))⟩
              · rw [Fl.worn_wear, Fl.worn_wear, Fl.clear_wear]
                congr 1
                unfold Fl.clearTo; dsimp only; split
                · rename_i e; subst e; rfl
                · rfl
              · rw [Fl.worn_page, Fl.worn_page]
                unfold Fl.clear Fl.clearTo
                dsimp only
                have hk : k < F.np := by have : k < F.tick.np := hk; rwa [TB.out.2.2.1] at this
                by_cases e : i = n
                · simp only [if_pos e]
                  rw [HC.out]
                  by_cases e2 : (min (max F.keep 0) (F.np : Int)).toNat ≤ k
                  · rw [if_pos e2, if_pos ⟨hk, by rw [decide_eq_true_eq]; omega⟩]
                  · rw [if_neg e2, if_neg fun e3 => e2 (by have := e3.2; rw [decide_eq_true_eq] at this; omega)]
                · simp only [if_neg e]

def RActPost (p q : Nat) (g : Nat → Nat) (F : Fl) (o : OpM) (w : World) (e : Ending) (w' : World) : Prop :=
  e = .returned (.int .i64 (F.act o).2) ∧ RefAt w' p q g (F.act o).1 ∧ Upd (Foot p q g F.nb) w w'

set_option maxRecDepth 100000 in
set_option maxHeartbeats 2000000 in
theorem rdo_any (p q : Nat) (g : Nat → Nat) (o : OpM) (w : World) (F : Fl) (h : RefAt w p q g F) (ok : o.Ok) :
    Calls Try.prog 20 #[.pointer (some ⟨p, 0, none⟩), o.val] w (RActPost p q g F o w) := by
  obtain ⟨kind, block, page, s, n, keep⟩ := o
  obtain ⟨hn, hs⟩ := ok
  dsimp only at hn hs
  have HS := hid hs; have HN := hid hn; clear hs hn
  unfold OpM.val
  dsimp only
  have u1 := (Upd.refl (fun _ => False) w).alloc (.cells #[.int .i64 kind, .int .i64 block, .int .i64 page, .string s, .int .i64 n, .int .i64 keep] 31 (0, 0))
  have f1 := h.upd u1 (fun _ _ h => h)
  have U1 := hid (u1.mono (T := Foot p q g F.nb) fun _ h => h.elim); clear u1
  have H1 := hid f1; clear f1 h
  have hw : ∀ k, 5 < k ∨ k < 0 → F.act ⟨k, block, page, s, n, keep⟩ = (F, 0) := fun k hk => by
    unfold Fl.act; dsimp only
    rw [if_neg (by omega), if_neg (by omega), if_neg (by omega), if_neg (by omega), if_neg (by omega), if_neg (by omega)]
  have hk : kind = 0 ∨ kind = 1 ∨ kind = 2 ∨ kind = 3 ∨ kind = 4 ∨ kind = 5 ∨ kind < 0 ∨ 5 < kind := by omega
  rcases hk with rfl | rfl | rfl | rfl | rfl | rfl | hk | hk
  · have E := hid (show F.act ⟨0, block, page, s, n, keep⟩ = F.program block page s from rfl)
    clear hw
    go_enter Try.func20, Try.ntmps20
    go_wp2_with fail
    refine (rprogram_any p q g block page s _ F H1.out HS.out).mono ?_
    rintro e w' ⟨rfl, f2, u2⟩
    have H2 := hid f2; clear f2
    have U2 := hid (U1.out.trans u2); clear u2
    go_wp2_with fail
    go_ret
    unfold RActPost
    rw [E.out]
    exact ⟨rfl, H2.out, U2.out⟩
  · have E := hid (show F.act ⟨1, block, page, s, n, keep⟩ = F.erase block from rfl)
    clear hw
    go_enter Try.func20, Try.ntmps20
    go_wp2_with fail
    refine (rerase_any p q g block _ F H1.out).mono ?_
    rintro e w' ⟨rfl, f2, u2⟩
    have H2 := hid f2; clear f2
    have U2 := hid (U1.out.trans u2); clear u2
    go_wp2_with fail
    go_ret
    unfold RActPost
    rw [E.out]
    exact ⟨rfl, H2.out, U2.out⟩
  · have E := hid (show F.act ⟨2, block, page, s, n, keep⟩ = (F.lose n, 0) from rfl)
    clear hw
    go_enter Try.func20, Try.ntmps20
    go_wp2_with fail
    refine (rlose_any p q g n _ F H1.out HN.out).mono ?_
    rintro e w' ⟨rfl, f2, u2⟩
    have H2 := hid f2; clear f2
    have U2 := hid (U1.out.trans (u2.mono fun x hx => Or.inl hx)); clear u2
    go_wp2_with fail
    go_ret
    unfold RActPost
    rw [E.out]
    exact ⟨rfl, H2.out, U2.out⟩
  · have E := hid (show F.act ⟨3, block, page, s, n, keep⟩ = (F.arm n keep, 0) from rfl)
    clear hw
    go_enter Try.func20, Try.ntmps20
    go_wp2_with fail
    refine (rarm_any p q g n keep _ F H1.out HN.out).mono ?_
    rintro e w' ⟨rfl, f2, u2⟩
    have H2 := hid f2; clear f2
    have U2 := hid (U1.out.trans (u2.mono fun x hx => Or.inl hx)); clear u2
    go_wp2_with fail
    go_ret
    unfold RActPost
    rw [E.out]
    exact ⟨rfl, H2.out, U2.out⟩
  · have E := hid (show F.act ⟨4, block, page, s, n, keep⟩ = (F.crash, 0) from rfl)
    clear hw
    go_enter Try.func20, Try.ntmps20
    go_wp2_with fail
    refine (rcrash_any p q g _ F H1.out).mono ?_
    rintro e w' ⟨rfl, f2, u2⟩
    have H2 := hid f2; clear f2
    have U2 := hid (U1.out.trans (u2.mono fun x hx => Or.inl hx)); clear u2
    go_wp2_with fail
    go_ret
    unfold RActPost
    rw [E.out]
    exact ⟨rfl, H2.out, U2.out⟩
  · have E := hid (show F.act ⟨5, block, page, s, n, keep⟩ = (F.start, 0) from rfl)
    clear hw
    go_enter Try.func20, Try.ntmps20
    go_wp2_with fail
    refine (rstart_any p q g _ F H1.out).mono ?_
    rintro e w' ⟨rfl, f2, u2⟩
    have H2 := hid f2; clear f2
    have U2 := hid (U1.out.trans (u2.mono fun x hx => Or.inl hx)); clear u2
    go_wp2_with fail
    go_ret
    unfold RActPost
    rw [E.out]
    exact ⟨rfl, H2.out, U2.out⟩
  all_goals
    have E := hid (hw kind (by omega))
    clear hw
    go_enter Try.func20, Try.ntmps20
    go_wp2_with fail
    go_ret
    unfold RActPost
    rw [E.out]
    exact ⟨rfl, H1.out, U1.out⟩
end Go.Proofs.Ytajmhiacmjgffaa
