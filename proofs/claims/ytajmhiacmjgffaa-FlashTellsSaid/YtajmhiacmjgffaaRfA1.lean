/- The walks of Read, Program, Erase and Do of the reference's flash. -/
import Derived.Test.YtajmhiacmjgffaaRfBase
namespace Go.Proofs.Ytajmhiacmjgffaa
open Go.RowKit

set_option maxHeartbeats 1000000 in
theorem rread_any (p q : Nat) (g : Nat → Nat) (b k : Int) (w : World) (F : Fl) (h : RefAt w p q g F) :
    Calls Try.prog 37 #[.pointer (some ⟨p, 0, none⟩), .int .i64 b, .int .i64 k] w fun e w' => e = .returned (.tuple #[.string (F.read b k).1, .int .i64 (F.read b k).2]) ∧ Upd (fun _ => False) w w' := by
  obtain ⟨cap, ⟨c0, c1, c2, c3, c4, c5⟩, hz⟩ := h.cells
  have hnb := h.ok.nb.2
  have hnp := h.ok.np.2
  have hnb1 := h.ok.nb.1
  have ROW := hid fun i (hi : i < F.nb) => h.row hi
  have PG := hid fun i k (hi : i < F.nb) (hk : k < F.np) => h.page hi hk
  have H := hid h; clear h
  cases hd : F.down
  · by_cases hb : 0 ≤ b ∧ b < F.nb
    · have HB := hid (show F.hasB b = true from decide_eq_true hb)
      by_cases hk : 0 ≤ k ∧ k < F.np
      · have ha : F.atErr b k = 0 := Fl.atErr_ok hd hb.1 hb.2 hk.1 hk.2
        obtain ⟨n, rfl⟩ := Int.eq_ofNat_of_zero_le hb.1
        obtain ⟨m, rfl⟩ := Int.eq_ofNat_of_zero_le hk.1
        have hn2 : n < F.nb := by omega
        have hm2 : m < F.np := by omega
        obtain ⟨⟨cp, hcp, r1⟩, _, _⟩ := ROW.out n hn2
        obtain ⟨p1, p2, _⟩ := PG.out n m hn2 hm2
        have e1 : F.read n m = match (F.blk n).page m with | some s => (s, 0) | none => (ByteArray.empty, 4) := by rw [Fl.read, if_pos ha]; rfl
        clear ROW PG hb hk ha
        cases ho : (F.blk n).page m with
        | none =>
          rw [ho] at p1 p2 e1
          have E := hid e1; clear e1 ho
          have p1 : _ = some (Value.bool false) := p1
          go_enter Try.func37, Try.ntmps37
          go_wp2_with fail
          refine (rhas_any p q g n w F H.out).mono ?_
          rintro e w' ⟨he, rfl⟩
          rw [HB.out] at he
          subst he
          go_wp2_with fail
          go_ret2
          rw [E.out]
          exact ⟨rfl, (Upd.refl _ _).alloc _⟩
        | some s =>
          rw [ho] at p1 p2 e1
          have E := hid e1; clear e1 ho
          have p1 : _ = some (Value.bool true) := p1
          have p2 : _ = some (Value.string s) := p2
          go_enter Try.func37, Try.ntmps37
          go_wp2_with fail
          refine (rhas_any p q g n w F H.out).mono ?_
          rintro e w' ⟨he, rfl⟩
          rw [HB.out] at he
          subst he
          go_wp2_with fail
          go_ret2
          rw [E.out]
          exact ⟨rfl, (Upd.refl _ _).alloc _⟩
      · have ha : F.atErr b k = 1 := by unfold Fl.atErr; rw [hd, if_neg (by decide), if_pos (by omega)]
        have E := hid (show F.read b k = (ByteArray.empty, 1) by rw [Fl.read, if_neg (by rw [ha]; decide), ha])
        clear ROW PG ha
        have hk' : k < 0 ∨ 0 ≤ k ∧ (F.np : Int) ≤ k := by omega
        clear hk hb
        rcases hk' with hk | ⟨hk1, hk2⟩
        all_goals
          go_enter Try.func37, Try.ntmps37
          go_wp2_with fail
          refine (rhas_any p q g b w F H.out).mono ?_
          rintro e w' ⟨he, rfl⟩
          rw [HB.out] at he
          subst he
          go_wp2_with fail
          go_ret2
          rw [E.out]
          exact ⟨rfl, Upd.refl _ _⟩
    · have HB := hid (show F.hasB b = false from decide_eq_false hb)
      have ha : F.atErr b k = 1 := by unfold Fl.atErr; rw [hd, if_neg (by decide), if_pos (by omega)]
      have E := hid (show F.read b k = (ByteArray.empty, 1) by rw [Fl.read, if_neg (by rw [ha]; decide), ha])
      clear ROW PG ha hb
      go_enter Try.func37, Try.ntmps37
      go_wp2_with fail
      refine (rhas_any p q g b w F H.out).mono ?_
      rintro e w' ⟨he, rfl⟩
      rw [HB.out] at he
      subst he
      go_wp2_with fail
      go_ret2
      rw [E.out]
      exact ⟨rfl, Upd.refl _ _⟩
  · have ha : F.atErr b k = 8 := by unfold Fl.atErr; rw [hd, if_pos rfl]
    have E := hid (show F.read b k = (ByteArray.empty, 8) by rw [Fl.read, if_neg (by rw [ha]; decide), ha])
    clear ROW PG ha
    go_enter Try.func37, Try.ntmps37
    go_wp2_with fail
    go_ret2
    rw [E.out]
    exact ⟨rfl, Upd.refl _ _⟩

theorem RefAt.setPage {w : World} {p q n k : Nat} {g : Nat → Nat} {F : Fl} {s : ByteArray} (h : RefAt w p q g F) (hn : n < F.nb) (hk : k < F.np) :
    RefAt ((w.setCell ⟨g n, k * 2, none⟩ (.bool true)).setCell ⟨g n, k * 2 + 1, none⟩ (.string s)) p q g (F.setPage n k s) := by
  obtain ⟨cap, h1⟩ := h.head
  obtain ⟨cs, h2, h3⟩ := h.rows
  have hne := h.ne
  obtain ⟨ps, h4, h5⟩ := h.pages n hn
  have hps : ∀ j, j < F.np → j * 2 + 1 < ps.size := fun j hj => by
    rcases Nat.lt_or_ge (j * 2 + 1) ps.size with g1 | g1
    · exact g1
    · have := (h5 j hj).2; rw [Array.getElem?_eq_none g1] at this; cases this
  refine ⟨⟨cap, by simp only [heap_setCell, if_neg ((hne.2 n hn).1.symm)]; exact h1⟩, ⟨cs, by simp only [heap_setCell, if_neg ((hne.2 n hn).2.symm)]; exact h2, fun i hi => ?_⟩, fun i hi => ?_, h.inj, Fl.setPage_ok h.ok n k s⟩
  · rw [Fl.setPage_wear]; exact h3 i hi
  · by_cases e : i = n
    · subst e
      refine ⟨(ps.setIfInBounds (k * 2) (.bool true)).setIfInBounds (k * 2 + 1) (.string s), ?_, fun j hj => ?_⟩
      · simp [heap_setCell, Obj.setAt, h4]
      · have hpg : ((F.setPage i k s).blk i).page j = if j = k then some s else (F.blk i).page j := by
          unfold Fl.setPage; dsimp only; rw [if_pos rfl]
        rw [hpg]
        by_cases ej : j = k
        · subst ej
          rw [if_pos rfl]
          have := hps j hj
          refine ⟨?_, ?_⟩
          · rw [Array.getElem?_setIfInBounds_ne (by omega), Array.getElem?_setIfInBounds_self_of_lt (by omega)]; rfl
          · rw [Array.getElem?_setIfInBounds_self_of_lt (by simp; omega)]; rfl
        · rw [if_neg ej]
          refine ⟨?_, ?_⟩
          · rw [Array.getElem?_setIfInBounds_ne (by omega), Array.getElem?_setIfInBounds_ne (by omega)]; exact (h5 j hj).1
          · rw [Array.getElem?_setIfInBounds_ne (by omega), Array.getElem?_setIfInBounds_ne (by omega)]; exact (h5 j hj).2
    · obtain ⟨ps', h6, h7⟩ := h.pages i hi
      have hgi : g n ≠ g i := fun e1 => e (h.inj i n hi hn e1.symm)
      refine ⟨ps', by simp only [heap_setCell, if_neg hgi]; exact h6, fun j hj => ?_⟩
      have hpg : ((F.setPage n k s).blk i).page j = (F.blk i).page j := by
        unfold Fl.setPage; dsimp only; rw [if_neg e]
      rw [hpg]; exact h7 j hj

def RProgPost (p q : Nat) (g : Nat → Nat) (F : Fl) (b k : Int) (s : ByteArray) (w : World) (e : Ending) (w' : World) : Prop :=
  e = .returned (.int .i64 (F.program b k s).2) ∧ RefAt w' p q g (F.program b k s).1 ∧ Upd (Foot p q g F.nb) w w'

set_option maxRecDepth 100000 in
set_option maxHeartbeats 2000000 in
theorem rprogram_any (p q : Nat) (g : Nat → Nat) (b k : Int) (s : ByteArray) (w : World) (F : Fl) (h : RefAt w p q g F) (hsz : s.size ≤ maxLen) :
    Calls Try.prog 29 #[.pointer (some ⟨p, 0, none⟩), .int .i64 b, .int .i64 k, .string s] w (RProgPost p q g F b k s w) := by
  unfold maxLen at hsz
  obtain ⟨cap, ⟨c0, c1, c2, c3, c4, c5⟩, hz⟩ := h.cells
  have hnb := h.ok.nb.2
  have hnp := h.ok.np.2
  have hlo := h.ok.lost
  have ROW := hid fun i (hi : i < F.nb) => h.row hi
  have PG := hid fun i k (hi : i < F.nb) (hk : k < F.np) => h.page hi hk
  have H := hid h; clear h
  cases hd : F.down
  case true =>
    have ha : F.atErr b k = 8 := by unfold Fl.atErr; rw [hd, if_pos rfl]
    have E := hid (show F.program b k s = (F, 8) by rw [Fl.program, if_pos (by rw [ha]; decide), ha])
    clear ROW PG ha
    go_enter Try.func29, Try.ntmps29
    go_wp2_with fail
    go_ret
    unfold RProgPost
    rw [E.out]
    exact ⟨rfl, H.out, Upd.refl _ _⟩
  case false =>
    by_cases hb : 0 ≤ b ∧ b < F.nb
    case neg =>
      have HB := hid (show F.hasB b = false from decide_eq_false hb)
      have ha : F.atErr b k = 1 := by unfold Fl.atErr; rw [hd, if_neg (by decide), if_pos (by omega)]
      have E := hid (show F.program b k s = (F, 1) by rw [Fl.program, if_pos (by rw [ha]; decide), ha])
      clear ROW PG ha hb
      go_enter Try.func29, Try.ntmps29
      go_wp2_with fail
      refine (rhas_any p q g b w F H.out).mono ?_
      rintro e w' ⟨he, rfl⟩
      rw [HB.out] at he
      subst he
      go_wp2_with fail
      go_ret
      unfold RProgPost
      rw [E.out]
      exact ⟨rfl, H.out, Upd.refl _ _⟩
    case pos =>
      have HB := hid (show F.hasB b = true from decide_eq_true hb)
      by_cases hk : 0 ≤ k ∧ k < F.np ∧ s.size ≤ 64
      case neg =>
        have E : F.program b k s = (F, 1) := by
          by_cases hk2 : 0 ≤ k ∧ k < F.np
          · have ha : F.atErr b k = 0 := Fl.atErr_ok hd hb.1 hb.2 hk2.1 hk2.2
            rw [Fl.program, if_neg (by rw [ha]; exact fun h => h rfl), if_pos (by omega)]
          · have ha : F.atErr b k = 1 := by unfold Fl.atErr; rw [hd, if_neg (by decide), if_pos (by omega)]
            rw [Fl.program, if_pos (by rw [ha]; decide), ha]
        have E := hid E
        have hk' : k < 0 ∨ 0 ≤ k ∧ (F.np : Int) ≤ k ∨ 0 ≤ k ∧ k < F.np ∧ 64 < (s.size : Int) := by omega
        clear ROW PG hk hb
        rcases hk' with hk | ⟨hk1, hk2⟩ | ⟨hk1, hk2, hk3⟩
        all_goals
          go_enter Try.func29, Try.ntmps29
          go_wp2_with fail
          refine (rhas_any p q g b w F H.out).mono ?_
          rintro e w' ⟨he, rfl⟩
          rw [HB.out] at he
          subst he
          go_wp2_with fail
          go_ret
          unfold RProgPost
          rw [E.out]
          exact ⟨rfl, H.out, Upd.refl _ _⟩
      case pos =>
        have ha : F.atErr b k = 0 := Fl.atErr_ok hd hb.1 hb.2 hk.1 hk.2.1
        obtain ⟨n, rfl⟩ := Int.eq_ofNat_of_zero_le hb.1
        obtain ⟨m, rfl⟩ := Int.eq_ofNat_of_zero_le hk.1
        have hn2 : n < F.nb := by omega
        have hm2 : m < F.np := by omega
        have hs64 : (s.size : Int) ≤ 64 := by omega
        obtain ⟨⟨cp, hcp, r1⟩, _, _⟩ := ROW.out n hn2
        have E0 : F.program n m s = if F.later n m then (F, 7) else if F.tick.down then (F.tick.setPage n m (cut F s), 8) else
            if 0 < F.lost then ({ F.tick with lost := F.lost - 1 }, 9) else (F.tick.setPage n m s, 0) := by
          unfold Fl.program
          rw [if_neg (by rw [ha]; exact fun h => h rfl), if_neg (by omega)]
          rfl
        have E := hid E0
        clear ROW hb hk ha E0
        go_enter Try.func29, Try.ntmps29
        go_wp2_with fail
        refine (rhas_any p q g n w F H.out).mono ?_
        rintro e w' ⟨he, rfl⟩
        rw [HB.out] at he
        subst he
        go_wp2_with fail
        go_loop [10] (fun i => ∃ j : Nat, m ≤ j ∧ j ≤ F.np ∧ (∀ x, m ≤ x → x < j → (F.blk n).page x = none) ∧ i = .int .i64 j) (fun i => F.np - (intOf i).toNat)
        case atStart => exact ⟨m, Nat.le_refl _, by omega, fun x h1 h2 => by omega, rfl⟩
        case round =>
          obtain ⟨j, hj1, hj2, hpre, rfl⟩ := hrel
          have PRE := hid hpre; clear hpre
          by_cases hlt : j < F.np
          · obtain ⟨p1, _, _⟩ := PG.out n j hn2 hlt
            cases ho : (F.blk n).page j with
            | none =>
              rw [ho] at p1
              have p1 : _ = some (Value.bool false) := p1
              have HO := hid ho; clear ho
              go_wp2
              go_round
              case rel => exact ⟨j + 1, by omega, by omega, fun x h1 h2 => by
                rcases Nat.lt_or_ge x j with h' | h'
                · exact PRE.out x h1 h'
                · obtain rfl : x = j := by omega
                  exact HO.out, by go_num⟩
              case measure => simp [intOf]; omega
            | some s' =>
              rw [ho] at p1
              have p1 : _ = some (Value.bool true) := p1
              have hlat : F.later n m = true := later_true (j := j - m) (by omega) (by rw [show m + (j - m) = j by omega]; exact ho)
              have E7 := hid (show F.program n m s = (F, 7) by rw [E.out, if_pos hlat])
              clear ho hlat
              go_wp2
              go_ret
              unfold RProgPost
              rw [E7.out]
              exact ⟨rfl, H.out, Upd.refl _ _⟩
          · have hlat : F.later n m = false := later_false fun x hx => PRE.out _ (by omega) (by omega)
            have E1 := hid (show F.program n m s = if F.tick.down then (F.tick.setPage n m (cut F s), 8) else
              if 0 < F.lost then ({ F.tick with lost := F.lost - 1 }, 9) else (F.tick.setPage n m s, 0) by rw [E.out, hlat]; rfl)
            clear hlat
            go_wp2_with fail
            refine (rcomes_any p q g _ F H.out hd).mono ?_
            rintro e w2 ⟨rfl, f2, u2⟩
            obtain ⟨cap2, ⟨d0, d1, d2, d3, d4, d5⟩, hz2⟩ := f2.cells
            obtain ⟨p1, p2, pz⟩ := f2.page (i := n) (k := m) (by rw [F.tick_blk.2.1]; exact hn2) (by rw [F.tick_blk.2.2.1]; exact hm2)
            have ht3 := F.tick_blk.2.2.2.1
            have ht5 := F.tick_blk.2.2.2.2
            rw [ht3] at d3
            rw [ht5] at d5
            have hn3 : n < F.tick.nb := by rw [F.tick_blk.2.1]; exact hn2
            have hm3 : m < F.tick.np := by rw [F.tick_blk.2.2.1]; exact hm2
            have H2 := hid f2; have U2 := hid u2
            have hset : ∀ c, RefAt ((w2.setCell ⟨g n, m * 2, none⟩ (.bool true)).setCell ⟨g n, m * 2 + 1, none⟩ (.string c)) p q g (F.tick.setPage n m c) ∧ Upd (Foot p q g F.nb) w ((w2.setCell ⟨g n, m * 2, none⟩ (.bool true)).setCell ⟨g n, m * 2 + 1, none⟩ (.string c)) :=
              fun c => ⟨f2.setPage hn3 hm3, ((u2.mono fun x hx => .inl hx).setCell _ _ (.inl (.inr (.inr ⟨n, hn2, rfl⟩)))).setCell _ _ (.inl (.inr (.inr ⟨n, hn2, rfl⟩)))⟩
            have SET := hid hset
            clear f2 u2 hset ht3 ht5
            cases ht : F.tick.down
            · by_cases h0 : 0 < F.lost
              · have E9 := hid (show F.program n m s = ({ F.tick with lost := F.lost - 1 }, 9) by rw [E1.out, if_neg (by rw [ht]; decide), if_pos h0])
                go_wp2_with fail
                go_ret
                unfold RProgPost
                rw [E9.out]
                have u3 := (Upd.refl (· = p) w2).at_ 3 (.int .i64 (F.lost - 1))
                refine ⟨rfl, H2.out.newHead u3 rfl rfl rfl (Fl.lost_ok H.out.ok h0) ?_, (U2.out.trans u3).mono fun x hx => .inl hx⟩
                intro cap3 hcap
                simp [heap_setCell, Obj.setAt, hcap]
              · have E9 := hid (show F.program n m s = (F.tick.setPage n m s, 0) by rw [E1.out, if_neg (by rw [ht]; decide), if_neg h0])
                go_wp2_with fail
                go_ret
                unfold RProgPost
                rw [E9.out]
                exact ⟨rfl, SET.out s⟩
            · have E9 := hid (show F.program n m s = (F.tick.setPage n m (cut F s), 8) by rw [E1.out, if_pos ht])
              have hcut : ∀ x : Nat, (x : Int) = min (max F.keep 0) s.size → cut F s = s.extract 0 x := fun x hx => by
                unfold cut; rw [← hx]; rfl
              have HCUT := hid hcut; clear hcut
              by_cases hk0 : F.keep < 0
              · have C1 := hid (show cut F s = ByteArray.empty by rw [HCUT.out 0 (by omega)]; simp)
                go_wp2_with fail
                go_ret
                unfold RProgPost
                rw [E9.out, C1.out]
                exact ⟨rfl, SET.out _⟩
              · by_cases hk1 : F.keep ≤ s.size
                · obtain ⟨x, hx⟩ := Int.eq_ofNat_of_zero_le (by omega : 0 ≤ F.keep)
                  have C1 := hid (HCUT.out x (by omega))
                  rw [hx] at d5 hk0 hk1
                  clear hx
                  go_wp2_with fail
                  go_ret
                  unfold RProgPost
                  rw [E9.out, C1.out]
                  exact ⟨rfl, SET.out _⟩
                · have C1 := hid (show cut F s = s by rw [HCUT.out s.size (by omega)]; simp)
                  go_wp2_with fail
                  go_ret
                  unfold RProgPost
                  rw [E9.out, C1.out]
                  exact ⟨rfl, SET.out _⟩
end Go.Proofs.Ytajmhiacmjgffaa
