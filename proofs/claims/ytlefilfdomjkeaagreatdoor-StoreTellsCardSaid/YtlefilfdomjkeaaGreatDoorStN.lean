/- A store that a call has made, as the calls on it leave it. -/
/- The small example of a store, computed. -/
/- Walks: what a page was programmed with; the small example. -/
import Derived.Test.YtlefilfdomjkeaaGreatDoorStL
import Derived.Test.YtlefilfdomjkeaaGreatDoorStCalm
import Derived.Test.YtlefilfdomjkeaaGreatDoorFlA5
import Derived.Test.YtlefilfdomjkeaaGreatDoorStLive
namespace Go.Proofs.YtlefilfdomjkeaaGreatDoor
open Go.RowKit Go.Deep
/-- A store in block x, all of whose memory (O) is newer than w0, and nothing older has changed. -/
def Shop (w0 w : World) (O : Nat → Prop) (p q : Nat) (F : Fl) (x : Nat) (S : St) : Prop := (∃ vr va, StoreAt w O x p q F S vr va) ∧ (∀ k, O k → w0.heap.size ≤ k) ∧ Upd (fun _ => False) w0 w
/-- What a call on it leads to. -/
def Moved (w0 : World) (O : Nat → Prop) (w w' : World) (p q : Nat) (G : Fl) (x : Nat) (T : St) : Prop := ∃ O', Shop w0 w' O' p q G x T ∧ Sto O w w' ∧ ∀ k, O' k → O k ∨ w.heap.size ≤ k
section
variable {w0 w : World} {O : Nat → Prop} {p q x : Nat} {F : Fl} {S : St}
theorem Shop.upd {w' : World} (h : Shop w0 w O p q F x S) (u : Upd (fun _ => False) w w') : Shop w0 w' O p q F x S :=
  let ⟨⟨vr, va, st⟩, ho, uu⟩ := h
  ⟨⟨vr, va, st.upd0 u⟩, ho, uu.trans u⟩
theorem Shop.env (h : Shop w0 w O p q F x S) (E : Env w0) : Env w := E.keep0 h.2.2
theorem Shop.six (h : Shop w0 w O p q F x S) (hz : 6 ≤ w0.heap.size) : ∀ k, O k → 6 ≤ k := fun k hk => Nat.le_trans hz (h.2.1 k hk)
theorem Shop.moved {w' : World} {O' : Nat → Prop} {G : Fl} {T : St} {vr va : Value} (h : Shop w0 w O p q F x S) (st : StoreAt w' O' x p q G T vr va) (s : Sto O w w') (ho : ∀ k, O' k → O k ∨ w.heap.size ≤ k) : Moved w0 O w w' p q G x T :=
  ⟨O', ⟨⟨vr, va, st⟩, fun k hk => (ho k hk).elim (h.2.1 k) fun hs => Nat.le_trans h.2.2.size hs, h.2.2.comp s fun i hi e => by have := h.2.1 i e.1; omega⟩, s, ho⟩
theorem shop_append (h : Shop w0 w O p q F x S) (ok : StOk S) (E : Env w0) (hz : 6 ≤ w0.heap.size) (hd : F.down = false) (r : List UInt8) (hr : r.length ≤ 1000000) {R : Fl × St × Int} (hR : appendP F S r = R) :
    Calls Tryz.prog 12 #[.pointer (some ⟨x, 0, none⟩), .string ⟨r.toArray⟩] w fun e w' => e = .returned (.int .i64 R.2.2) ∧ Moved w0 O w w' p q R.1 x R.2.1 := by
  subst hR
  obtain ⟨vr, va, st⟩ := h.1
  refine (append_any st ok (h.six hz) (h.env E) hd r hr).mono ?_
  rintro e w' ⟨rfl, O', vr', va', st', s, ho⟩
  exact ⟨rfl, h.moved st' s ho⟩
theorem shop_drop (h : Shop w0 w O p q F x S) (ok : StOk S) (E : Env w0) (hz : 6 ≤ w0.heap.size) (hd : F.down = false) (n : Int) (hn : I64 n) {R : Fl × St × Int} (hR : dropP F S n = R) :
    Calls Tryz.prog 14 #[.pointer (some ⟨x, 0, none⟩), .int .i64 n] w fun e w' => e = .returned (.int .i64 R.2.2) ∧ Moved w0 O w w' p q R.1 x R.2.1 := by
  subst hR
  obtain ⟨vr, va, st⟩ := h.1
  refine (drop_any st ok (h.six hz) (h.env E) hd n hn).mono ?_
  rintro e w' ⟨rfl, O', vr', va', st', s, ho⟩
  exact ⟨rfl, h.moved st' s ho⟩
theorem shop_all (h : Shop w0 w O p q F x S) (ok : StOk S) : Calls Tryz.prog 24 #[.pointer (some ⟨x, 0, none⟩)] w fun e w' => (∃ a c, e = .returned (.slice a S.recs.length c) ∧ OwnS w' (.slice a S.recs.length c) S.recs ∧ ∀ g, (Value.slice a S.recs.length c).ownBlock = some g → w.heap.size ≤ g) ∧ Upd (fun _ => False) w w' := by
  obtain ⟨vr, va, st⟩ := h.1
  refine (all_any st ok).mono ?_
  rintro e w' ⟨v', rfl, h1, h2, h3⟩
  obtain ⟨a, c, rfl, _, _⟩ := h1.fits
  exact ⟨⟨a, c, rfl, h1, h2⟩, h3⟩
theorem shop_len (h : Shop w0 w O p q F x S) (ok : StOk S) : Calls Tryz.prog 21 #[.pointer (some ⟨x, 0, none⟩)] w fun e w' => e = .returned (.int .i64 S.len) ∧ Upd (fun _ => False) w w' := by
  obtain ⟨vr, va, st⟩ := h.1
  exact len_any st ok
theorem shop_first (h : Shop w0 w O p q F x S) : Calls Tryz.prog 20 #[.pointer (some ⟨x, 0, none⟩)] w fun e w' => e = .returned (.int .i64 S.first) ∧ w = w' := by
  obtain ⟨vr, va, st⟩ := h.1
  exact first_any st
theorem shop_get (h : Shop w0 w O p q F x S) (ok : StOk S) (i : Int) (hi : I64 i) {R : List UInt8 × Bool} (hR : getP S i = R) : Calls Tryz.prog 18 #[.pointer (some ⟨x, 0, none⟩), .int .i64 i] w fun e w' => e = .returned (.tuple #[.string ⟨R.1.toArray⟩, .bool R.2]) ∧ Upd (fun _ => False) w w' := by
  subst hR
  obtain ⟨vr, va, st⟩ := h.1
  exact get_any st ok i hi
theorem shop_flash (h : Shop w0 w O p q F x S) : FlashAt w p q F ∧ w0.heap.size ≤ p ∧ w0.heap.size ≤ q ∧ p < w.heap.size ∧ q < w.heap.size := by
  obtain ⟨⟨vr, va, st⟩, ho, _⟩ := h
  exact ⟨st.flash, ho p st.op, ho q st.oq, st.lt p st.op, st.lt q st.oq⟩
theorem shop_wear (h : Shop w0 w O p q F x S) (b : Nat) (hb : b < F.nb) : Calls Tryz.prog 29 #[.pointer (some ⟨p, 0, none⟩), .int .i64 b] w fun e w' => e = .returned (.int .i64 ((F.blk b).wear : Nat)) ∧ w = w' := by
  have := wear_any p q b w F (shop_flash h).1
  rw [if_neg (by omega), Int.toNat_natCast] at this
  exact this
/-- A store is opened on a flash that is newer than w0. -/
theorem shop_open {w0 w : World} {p q : Nat} {F : Fl} (f : FlashAt w p q F) (hp : w0.heap.size ≤ p) (hq : w0.heap.size ≤ q) (u : Upd (fun _ => False) w0 w) (hb : 2 ≤ F.nb) (hd : F.down = false) (hi : PgInv F) (hps : ∀ p ∈ pagesP F, p.pos < 1000000) (E : Env w0) (hz : 6 ≤ w0.heap.size) {T : St} (hT : openP F = T) :
    Calls Tryz.prog 9 #[.pointer (some ⟨p, 0, none⟩)] w fun e w' => ∃ x, e = .returned (.tuple #[.pointer (some ⟨x, 0, none⟩), .int .i64 0]) ∧ (∃ O', Shop w0 w' O' p q F x T ∧ ∀ k, O' k → k = p ∨ k = q ∨ w.heap.size ≤ k) ∧ Sto (fun k => k = p ∨ k = q) w w' := by
  subst hT
  refine (sopen_any f hb hd hi hps (E.keep0 u) (Nat.le_trans hz u.size)).mono ?_
  rintro e w' ⟨x, O', vr, va, rfl, st, s, ho⟩
  refine ⟨x, rfl, ⟨O', ⟨⟨vr, va, st⟩, fun k hk => ?_, u.comp s fun i hi e => ?_⟩, ho⟩, s⟩
  · rcases ho k hk with rfl | rfl | h
    · exact hp
    · exact hq
    · exact Nat.le_trans u.size h
  · rcases e.1 with rfl | rfl <;> omega
/-- Another store was opened on the same flash. -/
theorem Shop.other {w' : World} (h : Shop w0 w O p q F x S) (s : Sto (fun k => k = p ∨ k = q) w w') (f : FlashAt w' p q F) (u : Upd (fun _ => False) w0 w') : Shop w0 w' O p q F x S := by
  obtain ⟨⟨vr, va, st⟩, ho, _⟩ := h
  exact ⟨⟨vr, va, st.flashed (s.mono fun _ h => h.1) f rfl rfl⟩, ho, u⟩
end
end Go.Proofs.YtlefilfdomjkeaaGreatDoor
namespace Go.Proofs.YtlefilfdomjkeaaGreatDoor
open Go
def sm0 : Fl × St × Int := (Fl.new 2 2, ⟨0, 0, [], []⟩, 0)
def smA : Fl × St × Int := appendP sm0.1 sm0.2.1 [97, 98]
def smB : Fl × St × Int := appendP smA.1 smA.2.1 []
def smC : Fl × St × Int := appendP smB.1 smB.2.1 []
def smD : Fl × St × Int := dropP smC.1 smC.2.1 1
def smE : Fl × St × Int := appendP smD.1 smD.2.1 []
def smF : Fl × St × Int := dropP smE.1 smE.2.1 1
def smG : Fl × St × Int := appendP smF.1 smF.2.1 []
theorem sm_errs : smA.2.2 = 0 ∧ smB.2.2 = 0 ∧ smC.2.2 = 6 ∧ smD.2.2 = 0 ∧ smE.2.2 = 6 ∧ smF.2.2 = 0 ∧ smG.2.2 = 0 := by decide +kernel
theorem sm_up : sm0.1.down = false ∧ smA.1.down = false ∧ smB.1.down = false ∧ smC.1.down = false ∧ smD.1.down = false ∧ smE.1.down = false ∧ smF.1.down = false ∧ smG.1.down = false := by decide +kernel
def pageP (F : Fl) (b g : Int) : List UInt8 := if (F.read b g).2 = 0 then (F.read b g).1.data.toList else [45]
theorem sm_pages : pageP smB.1 0 0 = [48, 59, 48, 59, 48, 59, 48, 59, 48, 59, 50, 59, 97, 98] ∧ pageP smB.1 0 1 = [48, 59, 49, 59, 49, 59, 49, 59, 48, 59, 48, 59] ∧ pageP smD.1 1 0 = [49, 59, 50, 59, 50, 59, 49, 59, 48, 59, 48, 59] ∧
    pageP smF.1 1 1 = [49, 59, 51, 59, 50, 59, 48, 59, 48, 59, 48, 59] ∧ pageP smG.1 0 0 = [48, 59, 52, 59, 50, 59, 48, 59, 48, 59, 48, 59] ∧ pageP smG.1 0 1 = [45] := by decide +kernel
theorem sm_wear : (smG.1.blk 0).wear = 1 ∧ (smG.1.blk 1).wear = 0 ∧ smG.1.nb = 2 := by decide +kernel
def smT : St := openP smG.1
theorem sm_end : smG.2.1.first = 2 ∧ smG.2.1.len = 3 ∧ smT.first = 2 ∧ smT.len = 3 := by decide +kernel
structure SmOk (S : St) : Prop where
  next : S.next ≤ 900000
  len : S.len ≤ 900000
  ats : ∀ a ∈ S.ats, a ≤ 900000
  same : S.ats.length = S.recs.length
  txt : ∀ r ∈ S.recs, r.length ≤ 1000000
theorem sm_ok0 : SmOk sm0.2.1 := ⟨by decide +kernel, by decide +kernel, by decide +kernel, by decide +kernel, by decide +kernel⟩
theorem sm_okA : SmOk smA.2.1 := ⟨by decide +kernel, by decide +kernel, by decide +kernel, by decide +kernel, by decide +kernel⟩
theorem sm_okB : SmOk smB.2.1 := ⟨by decide +kernel, by decide +kernel, by decide +kernel, by decide +kernel, by decide +kernel⟩
theorem sm_okC : SmOk smC.2.1 := ⟨by decide +kernel, by decide +kernel, by decide +kernel, by decide +kernel, by decide +kernel⟩
theorem sm_okD : SmOk smD.2.1 := ⟨by decide +kernel, by decide +kernel, by decide +kernel, by decide +kernel, by decide +kernel⟩
theorem sm_okE : SmOk smE.2.1 := ⟨by decide +kernel, by decide +kernel, by decide +kernel, by decide +kernel, by decide +kernel⟩
theorem sm_okF : SmOk smF.2.1 := ⟨by decide +kernel, by decide +kernel, by decide +kernel, by decide +kernel, by decide +kernel⟩
theorem sm_okG : SmOk smG.2.1 := ⟨by decide +kernel, by decide +kernel, by decide +kernel, by decide +kernel, by decide +kernel⟩
theorem sm_okT : SmOk smT := ⟨by decide +kernel, by decide +kernel, by decide +kernel, by decide +kernel, by decide +kernel⟩
theorem sm_open : openP sm0.1 = sm0.2.1 := new_open (by decide) (by decide)
theorem live_zero : Live sm0.1 sm0.2.1 := by
  have h := (open_law (kept_new (nb := 2) (np := 2) (by decide) (by decide)) rfl).1
  rw [new_open (by decide) (by decide)] at h
  exact h
theorem live_app {F : Fl} {S : St} {r : List UInt8} {R : Fl × St × Int} (h : Live F S) (hs : S.Small r) (hR : appendP F S r = R) (he : R.2.2 ≠ 8) : Live R.1 R.2.1 := by
  subst hR
  have L := append_law h hs
  by_cases h0 : (appendP F S r).2.2 = 0
  · exact (L.good h0).1
  · exact (L.bad h0).2.1 he
theorem live_drop {F : Fl} {S : St} {n : Nat} {R : Fl × St × Int} (h : Live F S) (hs : S.Small []) (h0 : 0 < n) (hn : n ≤ S.recs.length) (hR : dropP F S n = R) (he : R.2.2 ≠ 8) : Live R.1 R.2.1 := by
  subst hR
  have L := drop_law h hs h0 hn
  by_cases h0 : (dropP F S n).2.2 = 0
  · exact (L.good h0).1
  · exact (L.bad h0).2.1 he
theorem sm_live : Live smG.1 smG.2.1 := by
  have lA : Live smA.1 smA.2.1 := live_app live_zero ⟨by decide +kernel, by decide +kernel⟩ rfl (by rw [sm_errs.1]; decide)
  have lB : Live smB.1 smB.2.1 := live_app lA ⟨by decide +kernel, by decide +kernel⟩ rfl (by rw [sm_errs.2.1]; decide)
  have lC : Live smC.1 smC.2.1 := live_app lB ⟨by decide +kernel, by decide +kernel⟩ rfl (by rw [sm_errs.2.2.1]; decide)
  have lD : Live smD.1 smD.2.1 := live_drop (n := 1) lC ⟨by decide +kernel, by decide +kernel⟩ (by decide) (by decide +kernel) rfl (by rw [sm_errs.2.2.2.1]; decide)
  have lE : Live smE.1 smE.2.1 := live_app lD ⟨by decide +kernel, by decide +kernel⟩ rfl (by rw [sm_errs.2.2.2.2.1]; decide)
  have lF : Live smF.1 smF.2.1 := live_drop (n := 1) lE ⟨by decide +kernel, by decide +kernel⟩ (by decide) (by decide +kernel) rfl (by rw [sm_errs.2.2.2.2.2.1]; decide)
  exact live_app lF ⟨by decide +kernel, by decide +kernel⟩ rfl (by rw [sm_errs.2.2.2.2.2.2]; decide)
theorem sm_pos : ∀ p ∈ pagesP smG.1, p.pos < 1000000 := fun p hp => by
  have := sm_live.lt p hp
  have h : smG.2.1.next = 5 := by decide +kernel
  omega
theorem sm_inv : PgInv smG.1 := sm_live.inv
theorem sm_pos0 : ∀ p ∈ pagesP sm0.1, p.pos < 1000000 := fun p hp => by
  have := live_zero.lt p hp
  have h : sm0.2.1.next = 0 := rfl
  omega
end Go.Proofs.YtlefilfdomjkeaaGreatDoor
namespace Go.Proofs.YtlefilfdomjkeaaGreatDoor
open Go.RowKit Go.Deep
theorem SmOk.ok {S : St} (h : SmOk S) : StOk S := ⟨h.next, h.len, h.ats, h.same, h.txt⟩
theorem page_any {w : World} {p q : Nat} {F : Fl} (f : FlashAt w p q F) (b g : Int) {s : List UInt8} (hs : pageP F b g = s) : Calls Tryz.prog 32 #[.pointer (some ⟨p, 0, none⟩), .int .i64 b, .int .i64 g] w fun e w' => e = .returned (.string ⟨s.toArray⟩) ∧ w = w' := by
  have RC := hid (read_any p q b g w F f)
  unfold pageP at hs
  generalize F.read b g = R at *
  obtain ⟨t, c⟩ := R
  dsimp only at hs RC
  by_cases hc : c = 0
  · subst hc
    rw [if_pos rfl] at hs
    obtain ⟨l, rfl⟩ : ∃ l : List UInt8, t = ⟨l.toArray⟩ := ⟨t.data.toList, by cases t; rfl⟩
    have hs : l = s := hs
    subst hs
    clear f
    go_enter Tryz.func32, Tryz.ntmps32
    go_wp2_with fail
    refine RC.out.mono ?_
    rintro e w2 ⟨rfl, rfl⟩
    go_wp2_with fail
    go_ret
    exact ⟨rfl, rfl⟩
  · rw [if_neg hc] at hs
    subst hs
    have g1 : (c == 0) = false := beq_eq_false_iff_ne.2 hc
    clear f
    go_enter Tryz.func32, Tryz.ntmps32
    go_wp2_with fail
    refine RC.out.mono ?_
    rintro e w2 ⟨rfl, rfl⟩
    go_wp2_with fail
    go_ret
    exact ⟨rfl, rfl⟩
set_option maxRecDepth 100000 in
set_option maxHeartbeats 2000000 in
theorem small_any (w : World) (E : Env w) (hz : 6 ≤ w.heap.size) : Calls Tryz.prog 5 #[] w fun e w' => e = .returned (.bool true) ∧ Upd (fun _ => False) w w' := by
  have HE := hid E; have HZ := hid hz
  clear E hz
  go_enter Tryz.func5, Tryz.ntmps5
  go_wp2_with fail
  refine (new_ok 2 2 _ (by decide) (by decide)).mono ?_
  rintro e w1 ⟨p, q, hp, hq, rfl, f1, u1⟩
  have F1 := hid f1; have U1 := hid u1; have PQ := hid (And.intro hp hq)
  clear f1 u1 hp hq
  go_wp2_with fail
  refine (shop_open (F := sm0.1) F1.out PQ.out.1 PQ.out.2 U1.out (by decide) rfl live_zero.inv sm_pos0 HE.out HZ.out sm_open).mono ?_
  rintro e w2 ⟨x, rfl, ⟨O2, hs2, _⟩, _⟩
  have H := hid hs2
  clear hs2
  go_wp2_with fail
  refine (shop_append H.out sm_ok0.ok HE.out HZ.out rfl [97, 98] (by decide) (show _ = smA from rfl)).mono ?_
  rintro e w2 ⟨rfl, O2, hs2, _, _⟩
  rw [sm_errs.1]
  have H := hid hs2
  clear hs2
  go_wp2_with fail
  refine (shop_append H.out sm_okA.ok HE.out HZ.out sm_up.2.1 [] (by decide) (show _ = smB from rfl)).mono ?_
  rintro e w2 ⟨rfl, O2, hs2, _, _⟩
  rw [sm_errs.2.1]
  have H := hid hs2
  clear hs2
  go_wp2_with fail
  refine (page_any (shop_flash H.out).1 0 0 sm_pages.1).mono ?_
  rintro e w2 ⟨rfl, rfl⟩
  go_wp2_with fail
  refine (page_any (shop_flash H.out).1 0 1 sm_pages.2.1).mono ?_
  rintro e w2 ⟨rfl, rfl⟩
  go_wp2_with fail
  refine (shop_append H.out sm_okB.ok HE.out HZ.out sm_up.2.2.1 [] (by decide) (show _ = smC from rfl)).mono ?_
  rintro e w2 ⟨rfl, O2, hs2, _, _⟩
  rw [sm_errs.2.2.1]
  have H := hid hs2
  clear hs2
  go_wp2_with fail
  refine (shop_drop H.out sm_okC.ok HE.out HZ.out sm_up.2.2.2.1 1 (by unfold I64; omega) (show _ = smD from rfl)).mono ?_
  rintro e w2 ⟨rfl, O2, hs2, _, _⟩
  rw [sm_errs.2.2.2.1]
  have H := hid hs2
  clear hs2
  go_wp2_with fail
  refine (page_any (shop_flash H.out).1 1 0 sm_pages.2.2.1).mono ?_
  rintro e w2 ⟨rfl, rfl⟩
  go_wp2_with fail
  refine (shop_append H.out sm_okD.ok HE.out HZ.out sm_up.2.2.2.2.1 [] (by decide) (show _ = smE from rfl)).mono ?_
  rintro e w2 ⟨rfl, O2, hs2, _, _⟩
  rw [sm_errs.2.2.2.2.1]
  have H := hid hs2
  clear hs2
  go_wp2_with fail
  refine (shop_drop H.out sm_okE.ok HE.out HZ.out sm_up.2.2.2.2.2.1 1 (by unfold I64; omega) (show _ = smF from rfl)).mono ?_
  rintro e w2 ⟨rfl, O2, hs2, _, _⟩
  rw [sm_errs.2.2.2.2.2.1]
  have H := hid hs2
  clear hs2
  go_wp2_with fail
  refine (page_any (shop_flash H.out).1 1 1 sm_pages.2.2.2.1).mono ?_
  rintro e w2 ⟨rfl, rfl⟩
  go_wp2_with fail
  refine (shop_append H.out sm_okF.ok HE.out HZ.out sm_up.2.2.2.2.2.2.1 [] (by decide) (show _ = smG from rfl)).mono ?_
  rintro e w2 ⟨rfl, O2, hs2, _, _⟩
  rw [sm_errs.2.2.2.2.2.2]
  have H := hid hs2
  clear hs2
  go_wp2_with fail
  refine (page_any (shop_flash H.out).1 0 0 sm_pages.2.2.2.2.1).mono ?_
  rintro e w2 ⟨rfl, rfl⟩
  go_wp2_with fail
  refine (page_any (shop_flash H.out).1 0 1 sm_pages.2.2.2.2.2).mono ?_
  rintro e w2 ⟨rfl, rfl⟩
  go_wp2_with fail
  refine (shop_wear H.out 0 (by rw [sm_wear.2.2]; decide)).mono ?_
  rintro e w2 ⟨rfl, rfl⟩
  rw [sm_wear.1]
  go_wp2_with fail
  refine (shop_wear H.out 1 (by rw [sm_wear.2.2]; decide)).mono ?_
  rintro e w2 ⟨rfl, rfl⟩
  rw [sm_wear.2.1]
  go_wp2_with fail
  refine (shop_open (shop_flash H.out).1 (shop_flash H.out).2.1 (shop_flash H.out).2.2.1 H.out.2.2 (by rw [sm_wear.2.2]; decide) (sm_up.2.2.2.2.2.2.2) sm_inv sm_pos HE.out HZ.out (show _ = smT from rfl)).mono ?_
  rintro e w2 ⟨y, rfl, ⟨O3, hs3, _⟩, so3⟩
  have T := hid hs3
  have H := hid (H.out.other so3 (shop_flash hs3).1 hs3.2.2)
  clear hs3 so3
  go_wp2_with fail
  refine (shop_get T.out sm_okT.ok 2 (by unfold I64; omega) (show _ = ([], true) by decide +kernel)).mono ?_
  rintro e w2 ⟨rfl, u2⟩
  have T := hid (T.out.upd u2); have H := hid (H.out.upd u2)
  clear u2
  go_wp2_with fail
  refine (shop_get T.out sm_okT.ok 1 (by unfold I64; omega) (show _ = ([], false) by decide +kernel)).mono ?_
  rintro e w2 ⟨rfl, u2⟩
  have T := hid (T.out.upd u2); have H := hid (H.out.upd u2)
  clear u2
  go_wp2_with fail
  refine (sopen_nil _).mono ?_
  rintro e w2 ⟨rfl, rfl⟩
  go_wp2_with fail
  refine (shop_first H.out).mono ?_
  rintro e w2 ⟨rfl, rfl⟩
  rw [sm_end.1]
  go_wp2_with fail
  refine (shop_len H.out sm_okG.ok).mono ?_
  rintro e w2 ⟨rfl, u2⟩
  rw [sm_end.2.1]
  have T := hid (T.out.upd u2); have H := hid (H.out.upd u2)
  clear u2
  go_wp2_with fail
  refine (shop_first T.out).mono ?_
  rintro e w2 ⟨rfl, rfl⟩
  rw [sm_end.2.2.1]
  go_wp2_with fail
  refine (shop_len T.out sm_okT.ok).mono ?_
  rintro e w2 ⟨rfl, u2⟩
  rw [sm_end.2.2.2]
  have T := hid (T.out.upd u2); have H := hid (H.out.upd u2)
  clear u2
  go_wp2_with fail
  go_ret
  exact ⟨rfl, H.out.2.2⟩
end Go.Proofs.YtlefilfdomjkeaaGreatDoor
