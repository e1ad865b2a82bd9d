/- Walk: the next position is found. -/
import Derived.Test.YtlefilfdomjkeaaGreatDoorStC
namespace Go.Proofs.YtlefilfdomjkeaaGreatDoor
open Go.RowKit Go.Deep
theorem store_next {w : World} {x p : Nat} {F : Fl} {S : St} {vr va : Value} {t : TypeId} (h : w.heap[x]? = some (.cells (stC p F S vr va) t (0, 0))) (n : Nat) :
    (w.setCell ⟨x, 4, none⟩ (.int .i64 n)).heap[x]? = some (.cells (stC p F { S with next := n } vr va) t (0, 0)) := by
  rw [heap_setCell_same (p := ⟨x, 4, none⟩) rfl h]; rfl
theorem seek_stop {F : Fl} {k q : Nat} (h : ¬ (q % F.np ≠ 0 ∧ emptyP F q = false)) : seekUp F k q = q := by
  cases k with
  | zero => rfl
  | succ k => rw [seekUp, if_neg h]
theorem seek_go {F : Fl} {k q : Nat} (h : q % F.np ≠ 0 ∧ emptyP F q = false) (hk : F.np - q % F.np ≤ k) (hp : 0 < F.np) : ∃ j, k = j + 1 ∧ seekUp F k q = seekUp F j (q + 1) ∧ ((q + 1) % F.np ≠ 0 → F.np - (q + 1) % F.np ≤ j) := by
  have := Nat.mod_lt q hp
  obtain ⟨j, rfl⟩ : ∃ j, k = j + 1 := ⟨k - 1, by omega⟩
  refine ⟨j, rfl, by rw [seekUp, if_pos h], fun h2 => ?_⟩
  rcases succ_divmod (M := q) hp with ⟨_, _, e⟩ | ⟨_, _, e⟩
  · omega
  · exact absurd e h2
theorem dn_stop {F : Fl} {k q s : Nat} (h : ¬ (q < s ∧ emptyP F (s - 1) = true)) : seekDn F q k s = s := by
  cases k with
  | zero => rfl
  | succ k => rw [seekDn, if_neg h]
theorem dn_go {F : Fl} {k q s : Nat} (h : q < s ∧ emptyP F (s - 1) = true) (hk : s ≤ q + k) : ∃ j, k = j + 1 ∧ seekDn F q k s = seekDn F q j (s - 1) := by
  obtain ⟨j, rfl⟩ : ∃ j, k = j + 1 := ⟨k - 1, by omega⟩
  exact ⟨j, rfl, by rw [seekDn, if_pos h]⟩
def SeekPost (O : Nat → Prop) (x p q : Nat) (F : Fl) (S : St) (vr va : Value) (r : Nat) (w : World) (e : Ending) (w' : World) : Prop :=
  e = .returned (.tuple #[]) ∧ StoreAt w' O x p q F { S with next := seekP F r } vr va ∧ Upd (· = x) w w'
section
variable {w : World} {O : Nat → Prop} {x p q : Nat} {F : Fl} {S : St} {vr va : Value}
set_option maxRecDepth 100000 in
set_option maxHeartbeats 2000000 in
theorem seek_any (h : StoreAt w O x p q F S vr va) (hd : F.down = false) (r : Nat) (hr : r ≤ 1000000) : Calls Tryz.prog 38 #[.pointer (some ⟨x, 0, none⟩), .int .i64 r] w (SeekPost O x p q F S vr va r w) := by
  obtain ⟨⟨c0, c1, c2, c3, c4, c5, c6⟩, hf⟩ := h.cells
  have hnb := h.flash.ok.nb
  have hnp := h.flash.ok.np
  have hp0 : 0 < F.np := by omega
  have hq0 : ¬ ((F.np : Int) = 0) := by omega
  have hq1 : ((F.np : Int) == 0) = false := beq_eq_false_iff_ne.2 hq0
  have H := hid h; have HD := hid hd
  obtain ⟨R, hR⟩ : ∃ R, seekUp F F.np r = R := ⟨_, rfl⟩
  have HR := hid hR
  clear h hR hd
  go_enter Tryz.func38, Tryz.ntmps38
  go_wp2_with fail
  go_loopg [1] F.np (fun gg s1 wr => ∃ cur : Nat, s1 = .int .i64 cur ∧ seekUp F gg cur = R ∧ (cur % F.np ≠ 0 → F.np - cur % F.np ≤ gg) ∧ cur + gg ≤ r + F.np ∧ Upd (fun _ => False) w wr)
  case atStart => exact ⟨r, rfl, HR.out, fun h => by have := Nat.mod_lt r hp0; omega, Nat.le_refl _, Upd.refl _ _⟩
  case round =>
    obtain ⟨cur, rfl, h1, h2, h3, u⟩ := hrel
    have U := hid u
    have st := H.out.upd0 u
    obtain ⟨⟨c0, c1, c2, c3, c4, c5, c6⟩, hf⟩ := st.cells
    have ST := hid st
    have b1 : cur % F.np ≤ 1000000000 := by have := Nat.mod_lt cur hp0; omega
    have b2 : cur ≤ 1001000 := by omega
    have e1 := tmod_nat cur F.np
    have H1 := hid h1; have H2 := hid h2; have H3 := hid h3
    clear u st h1 h2 h3
    have P1 := hid (fun h : seekUp F F.np r = cur => (show seekP F r = if cur % F.np = 0 ∧ emptyP F (cur + F.np - 1) = true then seekDn F cur F.np (cur + F.np - 1) else cur from by unfold seekP; rw [h]))
    have hsn := store_next ST.out.head cur
    have un : Upd (· = x) w (wr.setCell ⟨x, 4, none⟩ (.int .i64 cur)) := (U.out.mono fun _ h => h.elim).trans ((Upd.refl _ _).at_ _ _)
    have sn : StoreAt (wr.setCell ⟨x, 4, none⟩ (.int .i64 cur)) O x p q F { S with next := cur } vr va := ST.out.headed ((Upd.refl _ _).at_ _ _) hsn rfl rfl
    have SN := hid sn; have UN := hid un
    clear hsn un sn
    obtain ⟨l1, hl1⟩ : ∃ l1, cur + F.np = l1 := ⟨_, rfl⟩
    obtain ⟨l2, hl2⟩ : ∃ l2, cur + F.np - 1 = l2 := ⟨_, rfl⟩
    have f1 : (cur : Int) + F.np = l1 := by omega
    have f2 : (l1 : Int) - 1 = l2 := by omega
    have b3 : l1 ≤ 1000000000 := by omega
    have b4 : l2 ≤ 1000000000 := by omega
    have b5 : l2 ≤ 2000000 := by omega
    have L2 := hid hl2
    have BB := hid (show cur ≤ l2 ∧ l2 ≤ cur + F.np from by omega)
    obtain ⟨m, hm⟩ : ∃ m, cur % F.np = m := ⟨_, rfl⟩
    rw [hm] at b1 e1
    have B1 := hid b1
    have HM := hid hm
    clear hl1 hl2 hm
    obtain ⟨w1a, w1b⟩ := wrap_nat b1
    obtain ⟨w3a, w3b⟩ := wrap_nat b3
    obtain ⟨w4a, w4b⟩ := wrap_nat b4
    clear b1 b3 b4
    by_cases hz : m = 0
    · have e0 : Int.tmod (cur : Int) (F.np : Int) = 0 := by rw [e1, hz]; rfl
      have HZ := hid hz
      have RC := hid (show seekUp F F.np r = cur from HR.out.trans (H1.out.symm.trans (seek_stop (by rw [HM.out]; exact fun h => h.1 hz))))
      clear hz e1 w1a w1b
      go_wp2_with fail
      refine (empty_any SN.out HD.out l2 b5).mono ?_
      rintro e w2 ⟨rfl, u2⟩
      have SE := hid (SN.out.upd0 u2)
      have UE := hid (UN.out.trans (u2.mono (T := (· = x)) fun _ h => h.elim))
      clear u2
      obtain ⟨⟨c0, c1, c2, c3, c4, c5, c6⟩, hf⟩ := SE.out.cells
      dsimp only at c3 c4
      cases hE : emptyP F l2 with
      | false =>
        have PP := hid (show seekP F r = cur from by rw [P1.out RC.out, if_neg (fun h => by rw [L2.out, hE] at h; exact absurd h.2 (by decide))])
        clear hE
        go_wp2_with fail
        go_end0
        exact ⟨rfl, by rw [PP.out]; exact SE.out, UE.out⟩
      | true =>
        have PP := hid (show seekP F r = seekDn F cur F.np l2 from by rw [P1.out RC.out, L2.out, if_pos ⟨by rw [HM.out]; exact HZ.out, hE⟩])
        clear hE
        have hs2 := store_next SE.out.head l2
        have sn2 : StoreAt (w2.setCell ⟨x, 4, none⟩ (.int .i64 l2)) O x p q F { S with next := l2 } vr va := SE.out.headed ((Upd.refl _ _).at_ _ _) hs2 rfl rfl
        have SN2 := hid sn2; have UN2 := hid (UE.out.at_ 4 (.int .i64 l2))
        clear hs2 sn2
        go_wp2_with fail
        go_loopg [53] F.np (fun gg _ wy => ∃ s : Nat, StoreAt wy O x p q F { S with next := s } vr va ∧ Upd (· = x) w wy ∧ seekDn F cur gg s = seekP F r ∧ cur ≤ s ∧ s ≤ cur + gg ∧ s ≤ 2000000)
        case atStart => exact ⟨l2, SN2.out, UN2.out, PP.out.symm, BB.out.1, BB.out.2, b5⟩
        case round =>
          obtain ⟨s, st, u, h1, h2, h3, h4⟩ := hrel
          clear w3a w3b w4a w4b f1 f2 e0 b2 b5
          obtain ⟨⟨c0, c1, c2, c3, c4, c5, c6⟩, hf⟩ := st.cells
          dsimp only at c3 c4
          have ST2 := hid st; have U2 := hid u
          by_cases hlt : cur < s
          · obtain ⟨t, ht⟩ : ∃ t, s = t + 1 := ⟨s - 1, by omega⟩
            have f3 : (s : Int) - 1 = t := by omega
            have bt : t ≤ 1000000000 := by omega
            have bt2 : t ≤ 2000000 := by omega
            have hti : (cur : Int) < s := by omega
            have ht1 : s - 1 = t := by omega
            have hB := hid (show cur ≤ t ∧ t ≤ 2000000 ∧ s ≤ cur + gk from ⟨by omega, bt2, h3⟩)
            have H1 := hid h1
            clear st u h1 h2 h3 h4
            obtain ⟨w5a, w5b⟩ := wrap_nat bt
            cases hE : emptyP F t with
            | true =>
              have D1 := hid (dn_go (F := F) (k := gk) ⟨hlt, by rw [ht1]; exact hE⟩ hB.out.2.2)
              have EC := hid (show ∀ wq, StoreAt wq O x p q F { S with next := s } vr va → Calls Tryz.prog 65 #[.pointer (some ⟨x, 0, none⟩), .int .i64 t] wq fun e w' => e = .returned (.bool true) ∧ Upd (fun _ => False) wq w' from fun _ h => by rw [← hE]; exact empty_any h HD.out t bt2)
              have TT := hid ht1
              clear hE bt ht ht1
              go_wp2_with fail
              refine (EC.out _ ST2.out).mono ?_
              rintro e w3 ⟨rfl, u3⟩
              have ST3 := hid (ST2.out.upd0 u3)
              have UE3 := hid (U2.out.trans (u3.mono (T := (· = x)) fun _ h => h.elim))
              clear u3
              obtain ⟨⟨c0, c1, c2, c3, c4, c5, c6⟩, hf⟩ := ST3.out.cells
              dsimp only at c3 c4
              have hs3 := hid (store_next ST3.out.head t)
              go_wp2_with fail
              obtain ⟨j, hj, hd1⟩ := D1.out
              rw [TT.out] at hd1
              go_roundg j
              case measure => clear w5a w5b; omega
              case rel => exact ⟨t, ST3.out.headed ((Upd.refl _ _).at_ _ _) hs3.out rfl rfl, UE3.out.at_ _ _, hd1.symm.trans H1.out, hB.out.1, by clear w5a w5b; have := hB.out.2.2; have := TT.out; omega, hB.out.2.1⟩
            | false =>
              have D1 := hid (show s = seekP F r from (dn_stop (k := gk) (fun h => by rw [ht1, hE] at h; exact absurd h.2 (by decide))).symm.trans H1.out)
              have EC := hid (show ∀ wq, StoreAt wq O x p q F { S with next := s } vr va → Calls Tryz.prog 65 #[.pointer (some ⟨x, 0, none⟩), .int .i64 t] wq fun e w' => e = .returned (.bool false) ∧ Upd (fun _ => False) wq w' from fun _ h => by rw [← hE]; exact empty_any h HD.out t bt2)
              clear hE bt ht ht1
              go_wp2_with fail
              refine (EC.out _ ST2.out).mono ?_
              rintro e w3 ⟨rfl, u3⟩
              have ST3 := hid (ST2.out.upd0 u3)
              have UE3 := hid (U2.out.trans (u3.mono (T := (· = x)) fun _ h => h.elim))
              clear u3
              go_wp2_with fail
              go_end0
              exact ⟨rfl, by rw [← D1.out]; exact ST3.out, UE3.out⟩
          · have D1 := hid (show s = seekP F r from (dn_stop (k := gk) (fun h => hlt h.1)).symm.trans h1)
            have hti : ¬ (cur : Int) < s := by omega
            clear st u h1 h2 h3 h4
            go_wp2_with fail
            go_end0
            exact ⟨rfl, by rw [← D1.out]; exact ST2.out, U2.out⟩
    · have hzi : ¬ (m : Int) = 0 := by clear w1a w1b w3a w3b w4a w4b; omega
      obtain ⟨mi, hmi⟩ : ∃ mi : Int, (m : Int) = mi := ⟨_, rfl⟩
      have hm0 : 0 ≤ mi := by clear w1a w1b w3a w3b w4a w4b; omega
      have hm1 : mi ≤ 1000000000 := by have := B1.out; clear w1a w1b w3a w3b w4a w4b; omega
      rw [hmi] at hzi e1
      clear hmi w1a w1b
      have g1 : (mi == 0) = false := beq_eq_false_iff_ne.2 hzi
      have g2 : (mi != 0) = true := by rw [bne_iff_ne]; exact hzi
      have EC := hid (show ∀ wq (b : Bool), emptyP F cur = b → StoreAt wq O x p q F S vr va → Calls Tryz.prog 65 #[.pointer (some ⟨x, 0, none⟩), .int .i64 cur] wq fun e w' => e = .returned (.bool b) ∧ Upd (fun _ => False) wq w' from fun _ b hb h => by rw [← hb]; exact empty_any h HD.out cur (Nat.le_trans b2 (by decide)))
      cases hE : emptyP F cur with
      | false =>
        have D1 := hid (seek_go ⟨by rw [HM.out]; exact hz, hE⟩ (H2.out (by rw [HM.out]; exact hz)) hp0)
        have E1 := hid (fun wq h => EC.out wq false hE h)
        obtain ⟨n1, hn1⟩ : ∃ n1, cur + 1 = n1 := ⟨_, rfl⟩
        have f3 : (cur : Int) + 1 = n1 := by clear w3a w3b w4a w4b; omega
        have b6 : n1 ≤ 1000000000 := by clear w3a w3b w4a w4b; omega
        have N1 := hid hn1
        have b6 : (cur : Int) + 1 ≤ 1000000000 := by clear w3a w3b w4a w4b; omega
        clear hE hn1 w3a w3b w4a w4b
        go_wp2_with fail
        refine (E1.out _ ST.out).mono ?_
        rintro e w3 ⟨rfl, u3⟩
        have UE3 := hid (U.out.trans u3)
        clear u3
        go_wp2_with fail
        obtain ⟨j, hj, hd1, hd2⟩ := D1.out
        rw [N1.out] at hd1 hd2
        go_roundg j
        case measure => skip; omega
        case rel => exact ⟨n1, rfl, hd1.symm.trans H1.out, hd2, by skip; have := H3.out; have := N1.out; omega, UE3.out⟩
      | true =>
        have RC := hid (show seekUp F F.np r = cur from HR.out.trans (H1.out.symm.trans (seek_stop (fun h => by rw [hE] at h; exact absurd h.2 (by decide)))))
        have PP := hid (show seekP F r = cur from by rw [P1.out RC.out, if_neg (fun h => hz (by rw [← HM.out]; exact h.1))])
        have E1 := hid (fun wq h => EC.out wq true hE h)
        clear hE
        go_wp2_with fail
        refine (E1.out _ ST.out).mono ?_
        rintro e w3 ⟨rfl, u3⟩
        have ST3 := hid (ST.out.upd0 u3)
        have UE3 := hid (U.out.trans u3)
        clear u3
        obtain ⟨⟨c0, c1, c2, c3, c4, c5, c6⟩, hf⟩ := ST3.out.cells
        have hs3 := hid (store_next ST3.out.head cur)
        go_wp2_with fail
        go_end0
        exact ⟨rfl, by rw [PP.out]; exact ST3.out.headed ((Upd.refl _ _).at_ _ _) hs3.out rfl rfl, (UE3.out.mono (T := (· = x)) fun _ h => h.elim).at_ _ _⟩
end
end Go.Proofs.YtlefilfdomjkeaaGreatDoor
