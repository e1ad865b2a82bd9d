/- The walk of FlashCopies. -/
import Derived.Test.YtajmhiacmjgffaaFlWears
import Derived.Test.YtajmhiacmjgffaaFlSnap
import Derived.Deep.RegionWith
namespace Go.Proofs.Ytajmhiacmjgffaa
open Go.RowKit

/-- The flash after the first k operations, and what operation k answers. -/
def st (F : Fl) (l : List OpM) : Nat → Fl
  | 0 => F
  | k + 1 => match l[k]? with
    | some o => ((st F l k).act o).1
    | none => st F l k
def er (F : Fl) (l : List OpM) (k : Nat) : Int := match l[k]? with
  | some o => ((st F l k).act o).2
  | none => 0
theorem st_succ (F : Fl) (l : List OpM) (k : Nat) (h : k < l.length) : st F l (k + 1) = ((st F l k).act l[k]).1 := by
  rw [st, List.getElem?_eq_getElem h]
theorem er_at (F : Fl) (l : List OpM) (k : Nat) (h : k < l.length) : er F l k = ((st F l k).act l[k]).2 := by
  rw [er, List.getElem?_eq_getElem h]
theorem st_size (F : Fl) (l : List OpM) (k : Nat) : (st F l k).nb = F.nb ∧ (st F l k).np = F.np := by
  induction k with
  | zero => exact ⟨rfl, rfl⟩
  | succ k ih =>
    rw [st]
    split
    · have := Fl.act_size (st F l k) ‹OpM›
      exact ⟨this.1.trans ih.1, this.2.trans ih.2⟩
    · exact ih
def ers (F : Fl) (l : List OpM) (k : Nat) : List Int := (List.range k).map (er F l)
theorem ers_succ (F : Fl) (l : List OpM) (k : Nat) : ers F l (k + 1) = ers F l k ++ [er F l k] := by unfold ers; rw [List.range_succ, List.map_append]; rfl
theorem ers_len (F : Fl) (l : List OpM) (k : Nat) : (ers F l k).length = k := by simp [ers]

theorem elemErr : ElemTy Try.prog 52 25 1 8 := .mk' Try.underlying52 (z := .int .i64 0) (by kernel_rfl) (by rfl) (by decide)

theorem ownErr_noStr {w : World} {B : Nat} {v : Value} {n : Nat} {xs : List Value} (h : w.ownsRow B 25 1 v n xs) : ∀ k, v.ownBlock = some k → NoStr w k := by
  intro k hk s e
  obtain ⟨_, ⟨rfl, _⟩ | ⟨g, cap, cur, rfl, _, hg, _⟩⟩ := h
  · cases hk
  · injection hk with hk; subst hk
    rw [hg] at e
    injection e with e; injection e with _ e2 _
    exact absurd e2 (by decide)

/-- A step of an operation on a flash, as the walks need it. -/
structure Flashes (w : World) (p q pc qc pd qd : Nat) (F C D : Fl) : Prop where
  f : FlashAt w p q F
  c : FlashAt w pc qc C
  d : FlashAt w pd qd D

structure CopInv (w0 w : World) (X p q pc qc pd qd : Nat) (F : Fl) (l : List OpM) (k : Nat) (v : Value) : Prop where
  fl : Flashes w p q pc qc pd qd F (st F l k) F
  own : w.ownsRow X 25 1 v k ((ers F l k).map (.int .i64))
  old : Below w0.heap.size w0 w
  lt : (p < X ∧ q < X ∧ pc < X ∧ qc < X ∧ pd < X ∧ qd < X) ∧ X ≤ w.heap.size
  ne : p < pc ∧ p < qc ∧ q < pc ∧ q < qc ∧ pc < pd ∧ pc < qd ∧ qc < pd ∧ qc < qd
  ge : w0.heap.size ≤ p ∧ w0.heap.size ≤ q

theorem CopInv.step {w0 w w4 : World} {X p q pc qc pd qd k : Nat} {F : Fl} {l : List OpM} {v : Value} (h : CopInv w0 w X p q pc qc pd qd F l k v) (hk : k < l.length) (hl : l.length ≤ 100)
    (f4 : FlashAt w4 pc qc ((st F l k).act l[k]).1) (u4 : Upd (fun j => j = pc ∨ j = qc) w w4) :
    ∃ v' w5, (Builtin.append_ #[52, 52] 52 #[v, .slice (some ⟨w4.heap.size, 0, none⟩) 1 1]).run Try.prog (w4.alloc (.cells #[.int .i64 ((st F l k).act l[k]).2] 25 (0, 0))) = .ok v' w5 ∧ CopInv w0 w5 X p q pc qc pd qd F l (k + 1) v' := by
  obtain ⟨⟨lt, hX⟩, ne, ge⟩ := And.intro h.lt (And.intro h.ne h.ge)
  have hS : ∀ j, j = pc ∨ j = qc → NoStr w j := by
    rintro j (rfl | rfl)
    · exact h.fl.c.noStr_p
    · exact h.fl.c.noStr_q
  have f' := h.fl.f.upd u4 (by omega) (by omega) hS
  have d' := h.fl.d.upd u4 (by omega) (by omega) hS
  have o4 := ownsRow_upd h.own u4 (fun g hg => by have := (h.own.lt g hg).1; omega)
  have hX4 : X ≤ w4.heap.size := Nat.le_trans hX u4.size
  obtain ⟨v', w5, r5, o5, u5, n5⟩ := append_one elemErr o4 #[.int .i64 ((st F l k).act l[k]).2] rfl (by simp [Value.oneCell']) (by unfold maxLen; omega) (by omega) hX4 52 (0, 0)
  have hg : ∀ g, v.ownBlock = some g → X ≤ g := fun g hg => (h.own.lt g hg).1
  have hn5 := ownErr_noStr o4
  refine ⟨v', w5, r5, ⟨f'.upd u5 (fun e => by have := hg _ e; omega) (fun e => by have := hg _ e; omega) hn5, ?_, d'.upd u5 (fun e => by have := hg _ e; omega) (fun e => by have := hg _ e; omega) hn5⟩, ?_, ?_, ⟨lt, Nat.le_trans hX4 u5.size⟩, ne, ge⟩
  · rw [st_succ F l k hk]
    exact f4.upd u5 (fun e => by have := hg _ e; omega) (fun e => by have := hg _ e; omega) hn5
  · rw [ers_succ, List.map_append, er_at F l k hk]; exact o5
  · exact (h.old.trans (u4.below h.old.size (by rintro j (rfl | rfl) <;> omega))).trans (u5.below (by omega) (fun g e => by have := hg _ e; omega))

/-- The cells of two slices of strings and of bools. -/
structure Snaps (w : World) (X : Nat) (b1 o1 b2 o2 : Nat) (S : List ByteArray) (T : List Bool) : Prop where
  s : Elems kBytes (X ≤ ·) w b1 o1 S
  t : Elems kBool (X ≤ ·) w b2 o2 T
  ge : X ≤ b1 ∧ X ≤ b2
theorem Snaps.upd {w w' : World} {X b1 o1 b2 o2 : Nat} {S : List ByteArray} {T : List Bool} {P : Nat → Prop} (h : Snaps w X b1 o1 b2 o2 S T) (u : Upd P w w') (h1 : ¬ P b1) (h2 : ¬ P b2) : Snaps w' X b1 o1 b2 o2 S T :=
  ⟨fun i hi => let ⟨cs, r, c⟩ := h.s i hi; ⟨cs, r, c.keep fun hl => u.block b1 hl h1⟩, fun i hi => let ⟨cs, r, c⟩ := h.t i hi; ⟨cs, r, c.keep fun hl => u.block b2 hl h2⟩, h.ge⟩
theorem Snaps.mono {w : World} {X Y b1 o1 b2 o2 : Nat} {S : List ByteArray} {T : List Bool} (h : Snaps w X b1 o1 b2 o2 S T) (hY : Y ≤ X) : Snaps w Y b1 o1 b2 o2 S T :=
  ⟨h.s.mono fun j hj => Nat.le_trans hY hj, h.t.mono fun j hj => Nat.le_trans hY hj, by have := h.ge; omega⟩
theorem Snaps.cells {w : World} {X b1 o1 b2 o2 : Nat} {S : List ByteArray} {T : List Bool} (h : Snaps w X b1 o1 b2 o2 S T) {i : Nat} (h1 : i < S.length) (h2 : i < T.length) :
    w.cell? ⟨b1, o1 + i, none⟩ = some (.string S[i]) ∧ w.cell? ⟨b2, o2 + i, none⟩ = some (.bool T[i]) := by
  obtain ⟨cs, r1, c1⟩ := h.s.cell h1
  obtain ⟨ds, r2, c2⟩ := h.t.cell h2
  have e1 : cs = [.string S[i]] := r1
  have e2 : ds = [.bool T[i]] := r2
  subst e1 e2
  have c1 := c1 0 (by decide)
  have c2 := c2 0 (by decide)
  rw [show kBytes.size = 1 from rfl, Nat.mul_one] at c1
  rw [show kBool.size = 1 from rfl, Nat.mul_one] at c2
  exact ⟨c1, c2⟩

/-- What snap leaves, for at least one page. -/
def SnapPost2 (w0 : World) (F : Fl) (nb np : Nat) (e : Ending) (w' : World) : Prop :=
  ∃ b1 o1 c1 b2 o2 c2, e = .returned (.tuple #[.slice (some ⟨b1, o1, none⟩) (nb * np) c1, .slice (some ⟨b2, o2, none⟩) (nb * np) c2]) ∧
    Snaps w' w0.heap.size b1 o1 b2 o2 (snapS F np (nb * np)) (snapB F np (nb * np)) ∧ Upd (fun _ => False) w0 w' ∧ nb * np ≤ c1 ∧ nb * np ≤ c2
theorem snap_pos (p q nb np : Nat) (w : World) (F : Fl) (h : FlashAt w p q F) (hnb : 1 ≤ nb ∧ nb ≤ 32) (hnp : 1 ≤ np ∧ np ≤ 16) :
    Calls Try.prog 23 #[.pointer (some ⟨p, 0, none⟩), .int .i64 nb, .int .i64 np] w (SnapPost2 w F nb np) := by
  refine (snap_any p q nb np w F h hnb.2 hnp).mono ?_
  rintro e w' ⟨v1, v2, rfl, r1, r2, u⟩
  have hpos : 0 < nb * np := Nat.mul_pos (by omega) (by omega)
  rcases r1 with ⟨_, _, _, _, h0⟩ | ⟨b1, o1, c1, hv1, hc1, _, hb1, he1⟩
  · have := congrArg List.length h0; rw [snapS_len] at this; simp at this; omega
  rcases r2 with ⟨_, _, _, _, h0⟩ | ⟨b2, o2, c2, hv2, hc2, _, hb2, he2⟩
  · have := congrArg List.length h0; rw [snapB_len] at this; simp at this; omega
  injection hv1 with hv1 _
  injection hv2 with hv2 _
  rw [snapS_len] at hv1 hc1
  rw [snapB_len] at hv2 hc2
  subst hv1 hv2
  exact ⟨b1, o1, c1, b2, o2, c2, rfl, ⟨he1, he2, hb1, hb2⟩, u, hc1, hc2⟩

theorem up_erase {F : Fl} (hd : F.down = false) (hl : F.left = 0) (ok : F.Ok) (hw : (F.blk 0).wear < 1000) : F.erase 0 = ((F.clear 0 0).worn 0, 0) := by
  have h1 := ok.np.1
  have h2 := ok.nb.1
  have ht : F.tick = F := by unfold Fl.tick; rw [hl]; rfl
  unfold Fl.erase
  rw [if_neg (by rw [Fl.atErr_ok hd (by omega) (by omega) (by omega) (by omega)]; exact fun h => h rfl), if_neg (by simpa using hw), ht, if_neg (by rw [hd]; decide)]
  rfl
theorem lost_program {F : Fl} (hd : F.down = false) (hl : F.left = 0) (h0 : 0 < F.lost) (ok : F.Ok) (hp : ∀ k, (F.blk 0).page k = none) (h3 : 3 < F.np) {s : ByteArray} (hs : s.size ≤ 64) :
    F.program 0 3 s = ({ F with lost := F.lost - 1 }, 9) := by
  have h2 := ok.nb.1
  have ht : F.tick = F := by unfold Fl.tick; rw [hl]; rfl
  unfold Fl.program
  rw [if_neg (by rw [Fl.atErr_ok hd (by omega) (by omega) (by omega) (by omega)]; exact fun h => h rfl), if_neg (by omega),
    if_neg (by rw [show F.later (0 : Int).toNat (3 : Int).toNat = false from later_false fun j hj => hp _]; decide), ht, if_neg (by rw [hd]; decide), if_pos h0]
theorem read_none {F : Fl} (hd : F.down = false) (ok : F.Ok) (hp : ∀ k, (F.blk 0).page k = none) (h3 : 3 < F.np) : F.erased 0 3 = true := by
  have h2 := ok.nb.1
  unfold Fl.erased Fl.read
  rw [if_pos (Fl.atErr_ok hd (by omega) (by omega) (by omega) (by omega))]
  rw [show (0 : Int).toNat = 0 from rfl, hp]
  simp

set_option maxRecDepth 100000 in
set_option maxHeartbeats 8000000 in
theorem copies_walk (x0 : Int) (v : Value) (l : List OpM) (v2 : Value) (l2 : List OpM) (x3 : Int) (w : World) (hx0 : (Lit.int .u8 x0).wf = true) (hl : (kSlice kOp).rep (· < w.heap.size) w [v] l)
    (hm : (kSlice kOp).rep (· < w.heap.size) w [v2] l2) (hx3 : (Lit.int .u8 x3).wf = true) :
    Calls Try.prog 6 #[.int .u8 x0, v, v2, .int .u8 x3] w fun e w' => e = .returned (.bool true) ∧ Below w.heap.size w w' := by
  have h0 := bounds_u8 hx0
  have h3 := bounds_u8 hx3
  have HL := hid hl; have HM := hid hm
  obtain ⟨a, cap, rfl, hl1, hl2, hl3⟩ := slice_open hl
  obtain ⟨a2, cap2, rfl, hm1, hm2, hm3⟩ := slice_open hm
  have hl2 : cap ≤ 9223372036854775807 := hl2
  have hm2 : cap2 ≤ 9223372036854775807 := hm2
  have HE := hid hl3; have HE2 := hid hm3
  clear hl hl3 hm hm3 hx0 hx3
  obtain ⟨b, hb⟩ := Int.eq_ofNat_of_zero_le (by omega : 0 ≤ 1 + x0 % 4)
  obtain ⟨lost, hlost⟩ := Int.eq_ofNat_of_zero_le (by omega : 0 ≤ x3 % 5)
  have hb4 : 1 ≤ b ∧ b ≤ 4 := by omega
  have hlo4 : lost < 5 := by omega
  go_enter Try.func6, Try.ntmps6
  go_wp2_with fail
  refine (small_any _).mono ?_
  rintro e w1 ⟨rfl, b1⟩
  have B1 := hid b1; clear b1
  go_wp2_with fail
  refine (new_any _ _ _ (by omega) (by decide)).mono ?_
  rintro e w2 ⟨p, q, hp, hq, rfl, f2, u2⟩
  have f2 : FlashAt w2 p q (Fl.new b 4) := f2
  have B2 := hid (B1.out.trans (u2.below B1.out.size (fun _ h => h.elim)))
  have hp : w.heap.size ≤ p := Nat.le_trans B1.out.size hp
  have hq : w.heap.size ≤ q := Nat.le_trans B1.out.size hq
  have F2 := hid f2; clear f2 u2 B1
  go_wp2_with fail
  refine (few_any _ (· < w.heap.size) l 25 _ ((kSlice kOp).keep HL.out (Same.of_below B2.out fun _ h => h)) (by decide)).mono ?_
  rintro e w3 ⟨rfl, rfl⟩
  cases hf : few l 25
  · go_wp2_with fail
    go_ret
    exact ⟨rfl, B2.out⟩
  go_wp2_with fail
  refine (few_any _ (· < w.heap.size) l2 15 _ ((kSlice kOp).keep HM.out (Same.of_below B2.out fun _ h => h)) (by decide)).mono ?_
  rintro e w3 ⟨rfl, rfl⟩
  cases hf2 : few l2 15
  · go_wp2_with fail
    go_ret
    exact ⟨rfl, B2.out⟩
  have hlen : l.length ≤ 25 := by
    unfold few at hf; rw [Bool.and_eq_true] at hf; simpa using hf.1
  have hlen2 : l2.length ≤ 15 := by
    unfold few at hf2; rw [Bool.and_eq_true] at hf2; simpa using hf2.1
  have hpp : ∀ k, k = p ∨ k = q → w.heap.size ≤ k := two_le hp hq
  have PP := hid hpp; clear hpp
  go_wp2_with fail
  go_loopg [13] l.length (fun n i wr => ∃ k F, k ≤ l.length ∧ n = l.length - k ∧ i = .int .i64 k ∧ FlashAt wr p q F ∧ F.nb = b ∧ F.np = 4 ∧ Below w.heap.size w wr)
  case atStart => exact ⟨0, _, Nat.zero_le _, by omega, rfl, F2.out, rfl, rfl, B2.out⟩
  case round =>
    clear F2 B2
    obtain ⟨k, F, hk, hn, rfl, hF, hnb, hnp, hB⟩ := hrel
    have HF := hid hF; have HB := hid hB; have HN := hid hn; have HNB := hid hnb; have HNP := hid hnp
    clear hF hB hn hnb hnp
    by_cases hlt : k < l.length
    · obtain ⟨b0, o0, rfl, hb0, hel⟩ := HE.out (by omega)
      have hel := hel.keep (Same.of_below HB.out fun _ h => h) hb0
      obtain ⟨⟨e0, e1, e2, e3, e4, e5⟩, hok⟩ := op_cells hel hlt
      have OK := hid hok; clear hok hel HE
      go_wp2_with fail
      refine (do_any p q l[k] _ F HF.out OK.out).mono ?_
      rintro e w4 ⟨rfl, f4, u4⟩
      have hs := F.act_size l[k]
      have F4 := hid f4; have B4 := hid (HB.out.trans (u4.below HB.out.size PP.out)); have S4 := hid hs
      clear f4 u4 hs OK e0 e1 e2 e3 e4 e5
      generalize (F.act l[k]).1 = G at *
      go_wp2_with fail
      go_roundg (l.length - (k + 1))
      case measure => have := HN.out; omega
      case rel => exact ⟨k + 1, G, by omega, rfl, by go_num, F4.out, S4.out.1.trans HNB.out, S4.out.2.trans HNP.out, B4.out⟩
    · clear HE HL
      go_wp2_with fail
      refine (copy_any p q _ F HF.out).mono ?_
      rintro e w5 ⟨pc, qc, hpc, hqc, rfl, f5, u5⟩
      have c5 := HF.out.upd u5 id id (fun _ h => h.elim)
      have hlt5 := HF.out.lt
      go_wp2_with fail
      refine (copy_any p q _ F c5).mono ?_
      rintro e w6 ⟨pd, qd, hpd, hqd, rfl, f6, u6⟩
      have fl6 : Flashes w6 p q pc qc pd qd F F F := ⟨c5.upd u6 id id (fun _ h => h.elim), f5.upd u6 id id (fun _ h => h.elim), f6⟩
      have ltc := f5.lt
      have ltd := f6.lt
      have hs5 := u5.size
      have hs6 := u6.size
      have B6 := hid ((HB.out.trans (u5.below HB.out.size fun _ h => h.elim)).trans (u6.below (by have := HB.out.size; omega) fun _ h => h.elim))
      have hB6 := B6.out.size
      have hBw := HB.out.size
      have FL := hid fl6
      clear c5 f5 f6 u5 u6 fl6 HF HB
      have ci : CopInv w w6 w6.heap.size p q pc qc pd qd F l2 0 (.slice none 0 0) :=
        ⟨FL.out, World.ownsRow_nil _ _ _ _, B6.out, by omega, by omega, hp, hq⟩
      have CI := hid ci
      have HX : ∃ X, X = w6.heap.size := ⟨_, rfl⟩
      obtain ⟨X, hX⟩ := HX
      rw [← hX] at CI
      clear ci FL B6 hB6 ltc ltd hs5 hs6 hpc hqc hpd hqd hlt5 hBw hX
      go_wp2_with fail
      go_loopg [16, 17] l2.length (fun n ve i wx => ∃ k : Nat, k ≤ l2.length ∧ n = l2.length - k ∧ i = .int .i64 k ∧ CopInv w wx X p q pc qc pd qd F l2 k ve)
      case atStart => exact ⟨0, Nat.zero_le _, rfl, rfl, CI.out⟩
      case round =>
        clear CI
        obtain ⟨k2, hk2, hn2, rfl, ci⟩ := hrel
        have CI := hid ci; have HN2 := hid hn2
        clear ci hn2
        by_cases hlt2 : k2 < l2.length
        · obtain ⟨b0, o0, rfl, hb0, hel⟩ := HE2.out (by omega)
          have hel := hel.keep (Same.of_below CI.out.old fun _ h => h) hb0
          obtain ⟨⟨e0, e1, e2, e3, e4, e5⟩, hok⟩ := op_cells hel hlt2
          have OK := hid hok; clear hok hel HE2
          go_wp2_with fail
          refine (do_any pc qc l2[k2] _ _ CI.out.fl.c OK.out).mono ?_
          rintro e w7 ⟨rfl, f7, u7⟩
          obtain ⟨ve', w8, r8, c8⟩ := CI.out.step hlt2 (by omega) f7 u7
          have C8 := hid c8
          clear f7 u7 c8 OK e0 e1 e2 e3 e4 e5
          go_wp2_with (at_builtin; refine wpList_append_run rfl _ _ _ _ rfl rfl rfl r8 ?_)
          go_roundg (l2.length - (k2 + 1))
          case measure => have := HN2.out; omega
          case rel => exact ⟨k2 + 1, by omega, rfl, by go_num, C8.out⟩
        · have hke : k2 = l2.length := by omega
          have CJ := hid (hke ▸ CI.out)
          clear hke CI
          have HE2x := HE2
          clear HE2 HM
          obtain ⟨ltX, hXw⟩ := CJ.out.lt
          obtain ⟨ne1, ne2, ne3, ne4, ne5, ne6, ne7, ne8⟩ := CJ.out.ne
          have hbnb : F.nb = b := HNB.out
          go_wp2_with fail
          refine (start_any pd qd _ F CJ.out.fl.d).mono ?_
          rintro e w9 ⟨rfl, f9, u9⟩
          have hSd : ∀ j, j = pd → NoStr wr j := fun j hj => hj ▸ CJ.out.fl.d.noStr_p
          have f9f := CJ.out.fl.f.upd u9 (by omega) (by omega) hSd
          have f9c := CJ.out.fl.c.upd u9 (by omega) (by omega) hSd
          have o9 := ownsRow_upd CJ.out.own u9 (fun g hg => by have := (CJ.out.own.lt g hg).1; omega)
          have b9 : Below w.heap.size w w9 := CJ.out.old.trans (u9.below CJ.out.old.size (by rintro j rfl; have := CJ.out.ge; omega))
          have hX9 : X ≤ w9.heap.size := Nat.le_trans hXw u9.size
          have F9 := hid f9; have F9F := hid f9f; have F9C := hid f9c; have O9 := hid o9; have B9 := hid b9
          have GE := hid CJ.out.ge
          clear f9 u9 hSd f9f f9c o9 b9 CJ hXw
          go_wp2_with fail
          refine (snap_pos pd qd b 4 _ _ F9.out (by omega) (by omega)).mono ?_
          rintro e w10 ⟨b1, o1, c1, b2, o2, c2, rfl, s10, u10, hc1, hc2⟩
          have f10 := F9F.out.upd u10 id id (fun _ h => h.elim)
          have c10 := F9C.out.upd u10 id id (fun _ h => h.elim)
          have o10 := ownsRow_upd O9.out u10 (fun _ _ h => h)
          have b10 : Below w.heap.size w w10 := B9.out.trans (u10.below B9.out.size fun _ h => h.elim)
          have hX10 : X ≤ w10.heap.size := Nat.le_trans hX9 u10.size
          have s10 := s10.mono hX9
          have S10 := hid s10; have F10 := hid f10; have C10 := hid c10; have O10 := hid o10; have B10 := hid b10
          clear s10 u10 f10 c10 o10 b10 F9 F9F F9C O9 B9 hX9
          go_wp2_with fail
          refine (copy_any p q _ F F10.out).mono ?_
          rintro e w11 ⟨pe, qe, hpe, hqe, rfl, f11, u11⟩
          have g11 := F10.out.upd u11 id id (fun _ h => h.elim)
          have c11 := C10.out.upd u11 id id (fun _ h => h.elim)
          have o11 := ownsRow_upd O10.out u11 (fun _ _ h => h)
          have b11 : Below w.heap.size w w11 := B10.out.trans (u11.below B10.out.size fun _ h => h.elim)
          have hX11 : X ≤ w11.heap.size := Nat.le_trans hX10 u11.size
          have s11 := S10.out.upd u11 id id
          have h10 := O10.out.lt
          have sl10 := S10.out
          have hlt10 : b1 < w10.heap.size ∧ b2 < w10.heap.size := by
            have h1 : 0 < (snapS F.start 4 (b * 4)).length := by rw [snapS_len]; omega
            have h2 : 0 < (snapB F.start 4 (b * 4)).length := by rw [snapB_len]; omega
            have := sl10.cells h1 h2
            exact ⟨World.block_lt_of_cell? _ _ this.1, World.block_lt_of_cell? _ _ this.2⟩
          have hs11 := u11.size
          have F11 := hid f11; have G11 := hid g11; have C11 := hid c11; have O11 := hid o11; have B11 := hid b11; have S11 := hid s11
          have H10 := hid h10
          clear f11 g11 c11 o11 b11 s11 u11 S10 F10 C10 O10 B10 sl10 h10
          go_wp2_with fail
          refine (start_any pe qe _ F F11.out).mono ?_
          rintro e w12 ⟨rfl, f12, u12⟩
          have hSe : ∀ j, j = pe → NoStr w11 j := fun j hj => hj ▸ F11.out.noStr_p
          have g12 := G11.out.upd u12 (by omega) (by omega) hSe
          have c12 := C11.out.upd u12 (by omega) (by omega) hSe
          have o12 := ownsRow_upd O11.out u12 (fun g hg => by have := (H10.out g hg).2; omega)
          have b12 : Below w.heap.size w w12 := B11.out.trans (u12.below B11.out.size (by rintro j rfl; have := B11.out.size; have := GE.out; omega))
          have s12 := S11.out.upd u12 (by omega) (by omega)
          have hX12 : X ≤ w12.heap.size := Nat.le_trans hX11 u12.size
          have hlt12 : b1 < w12.heap.size ∧ b2 < w12.heap.size := by have := u12.size; omega
          have F12 := hid f12; have G12 := hid g12; have C12 := hid c12; have O12 := hid o12; have B12 := hid b12; have S12 := hid s12
          clear f12 g12 c12 o12 b12 s12 u12 hSe S11 F11 G11 C11 O11 B11 H10 hlt10 hpe hqe
          go_wp2_with fail
          refine (snap_pos pe qe b 4 _ _ F12.out (by omega) (by omega)).mono ?_
          rintro e w13 ⟨b3, o3, c3, b4, o4, c4, rfl, s13, u13, hc3, hc4⟩
          have g13 := G12.out.upd u13 id id (fun _ h => h.elim)
          have c13 := C12.out.upd u13 id id (fun _ h => h.elim)
          have o13 := ownsRow_upd O12.out u13 (fun _ _ h => h)
          have b13 : Below w.heap.size w w13 := B12.out.trans (u13.below B12.out.size fun _ h => h.elim)
          have z13 := S12.out.upd u13 id id
          have hX13 : X ≤ w13.heap.size := Nat.le_trans hX12 u13.size
          have G13 := hid g13; have C13 := hid c13; have O13 := hid o13; have B13 := hid b13; have S13 := hid s13; have Z13 := hid z13
          clear g13 c13 o13 b13 s13 z13 u13 F12 G12 C12 O12 B12 S12 hlt12 hX12
          have hlS : (snapS F.start 4 (b * 4)).length = b * 4 := snapS_len _ _ _
          have hlT : (snapB F.start 4 (b * 4)).length = b * 4 := snapB_len _ _ _
          generalize snapS F.start 4 (b * 4) = S at *
          generalize snapB F.start 4 (b * 4) = T at *
          have HLS := hid hlS; have HLT := hid hlT
          clear hlS hlT
          have hcc : b * 4 ≤ 16 := by omega
          go_wp2_with fail
          go_loopg [22] (b * 4) (fun n i wx => ∃ m : Nat, m ≤ b * 4 ∧ n = b * 4 - m ∧ i = .int .i64 m ∧ Upd (fun _ => False) w13 wx)
          case atStart => exact ⟨0, Nat.zero_le _, rfl, rfl, Upd.refl _ _⟩
          case round =>
            obtain ⟨m, hm, hn3, rfl, ux⟩ := hrel
            have UX := hid ux; have HN3 := hid hn3
            clear ux hn3
            by_cases hlt3 : m < b * 4
            · have hmi : (m : Int) < ((b * 4 : Nat) : Int) := by omega
              obtain ⟨k1, k3⟩ := (S13.out.upd UX.out id id).cells (i := m) (by rw [HLS.out]; exact hlt3) (by rw [HLT.out]; exact hlt3)
              obtain ⟨k2, k4⟩ := (Z13.out.upd UX.out id id).cells (i := m) (by rw [HLS.out]; exact hlt3) (by rw [HLT.out]; exact hlt3)
              generalize S[m]'_ = sm at k1 k2
              generalize T[m]'_ = tm at k3 k4
              go_wp2_with fail
              go_quiet (fail)
              go_wp2_with fail
              go_roundg (b * 4 - (m + 1))
              case measure => have := HN3.out; omega
              case rel => exact ⟨m + 1, by omega, rfl, by go_num, UX.out.drewN _⟩
            · skip
              have g14 := G13.out.upd UX.out id id (fun _ h => h.elim)
              have c14 := C13.out.upd UX.out id id (fun _ h => h.elim)
              have o14 := ownsRow_upd O13.out UX.out (fun _ _ h => h)
              have b14 : Below w.heap.size w wr := B13.out.trans (UX.out.below B13.out.size fun _ h => h.elim)
              have G14 := hid g14; have C14 := hid c14; have O14 := hid o14; have B14 := hid b14
              clear g14 c14 o14 b14 UX G13 C13 O13 B13 S13 Z13 HN3
              have hgeP := GE.out
              go_wp2_with fail
              go_loopg [23] l2.length (fun n i wx => ∃ m : Nat, m ≤ l2.length ∧ n = l2.length - m ∧ i = .int .i64 m ∧ FlashAt wx p q (st F l2 m) ∧ FlashAt wx pc qc (st F l2 l2.length) ∧
                wx.ownsRow X 25 1 u16 l2.length ((ers F l2 l2.length).map (.int .i64)) ∧ Below w.heap.size w wx)
              case atStart => exact ⟨0, Nat.zero_le _, rfl, rfl, G14.out, C14.out, O14.out, B14.out⟩
              case round =>
                clear G14 C14 O14 B14
                obtain ⟨m4, hm4, hn4, rfl, gf, gc, go, gb⟩ := hrel
                have GF := hid gf; have GC := hid gc; have GO := hid go; have GB := hid gb; have HN4 := hid hn4
                clear gf gc go gb hn4
                by_cases hlt4 : m4 < l2.length
                · obtain ⟨b0, o0, rfl, hb0, hel⟩ := HE2x.out (by omega)
                  have hel := hel.keep (Same.of_below GB.out fun _ h => h) hb0
                  obtain ⟨⟨e0, e1, e2, e3, e4, e5⟩, hok⟩ := op_cells hel hlt4
                  have OK := hid hok; clear hok hel HE2x
                  rcases ownsRow_fits GO.out with ⟨_, h0'⟩ | ⟨g, capg, rfl, hgX, hgs, hgc, hgm⟩
                  · omega
                  have hce : ∀ W, Upd (fun j => j = p ∨ j = q) wr.drew W → W.cell? ⟨g, m4, none⟩ = some (.int .i64 ((st F l2 m4).act l2[m4]).2) := by
                    intro W u
                    have h1 := GO.out.cellAt m4 (by omega)
                    rw [← er_at F l2 m4 hlt4]
                    refine cell_kept (w := wr) ?_ (u.block g hgs (by omega))
                    rw [h1]
                    simp [ers, hlt4]
                  have hce0 : wr.cell? ⟨g, m4, none⟩ = some (.int .i64 ((st F l2 m4).act l2[m4]).2) := by
                    have := hce wr.drew (Upd.refl _ _); exact this
                  have hst : st F l2 (m4 + 1) = ((st F l2 m4).act l2[m4]).1 := st_succ F l2 m4 hlt4
                  have hdo : ∀ W, FlashAt W p q (st F l2 m4) → Calls Try.prog 11 #[.pointer (some ⟨p, 0, none⟩), .agg #[.int .i64 l2[m4].kind, .int .i64 l2[m4].block, .int .i64 l2[m4].page, .string l2[m4].s, .int .i64 l2[m4].n, .int .i64 l2[m4].keep]] W fun e W' =>
                      e = .returned (.int .i64 ((st F l2 m4).act l2[m4]).2) ∧ FlashAt W' p q ((st F l2 m4).act l2[m4]).1 ∧ Upd (fun j => j = p ∨ j = q) W W' := fun W hW => do_any p q l2[m4] W _ hW OK.out
                  rw [← hst] at hdo
                  clear hst
                  generalize ((st F l2 m4).act l2[m4]).2 = ek at *
                  have HDO := hid hdo; have HCE := hid hce
                  clear hdo hce OK
                  have hmi4 : (m4 : Int) < l2.length := by omega
                  have hfw : FlashAt wr.drew p q (st F l2 m4) := GF.out.upd ((Upd.refl (fun _ => False) wr).drew) id id (fun _ h => h.elim)
                  have HFW := hid hfw; clear hfw
                  go_wp2_with fail
                  go_region_with (go_at_call 11; refine (HDO.out _ HFW.out).mono ?_; rintro e w15 ⟨rfl, f15, u15⟩; have hce15 := HCE.out _ u15; have F15 := hid f15; have U15 := hid u15; clear f15 u15)
                  all_goals
                    have hSf : ∀ j, j = p ∨ j = q → NoStr wr.drew j := by
                      rintro j (rfl | rfl)
                      · exact HFW.out.noStr_p
                      · exact HFW.out.noStr_q
                    have c15 := (GC.out.upd ((Upd.refl (fun _ => False) wr).drew) id id (fun _ h => h.elim)).upd U15.out (by omega) (by omega) hSf
                    have o15 := ownsRow_upd (ownsRow_upd GO.out ((Upd.refl (fun _ => False) wr).drew) (fun _ _ h => h)) U15.out (fun g' hg' => by have := (GO.out.lt g' hg').1; omega)
                    have b15 : Below w.heap.size w w15 := (GB.out.drew).trans (U15.out.below GB.out.size (two_le hgeP.1 hgeP.2))
                    have C15 := hid c15; have O15 := hid o15; have B15 := hid b15
                    clear c15 o15 b15 hSf U15
                    go_wp2_with fail
                    go_roundg (l2.length - (m4 + 1))
                    case measure => have := HN4.out; omega
                    case rel => exact ⟨m4 + 1, by omega, rfl, by go_num, F15.out, C15.out, O15.out, B15.out⟩
                · skip
                  have hme : m4 = l2.length := by omega
                  have GF2 := hid (hme ▸ GF.out)
                  have hBw := GB.out.size
                  clear hme GF HN4 HE2x
                  have hsz5 := (st_size F l2 l2.length)
                  have hnb9 : (st F l2 l2.length).nb = b := hsz5.1.trans HNB.out
                  have hnp9 : (st F l2 l2.length).np = 4 := hsz5.2.trans HNP.out
                  clear hsz5
                  go_wp2_with fail
                  refine (down_any p q _ _ GF2.out).mono ?_
                  rintro e wz ⟨rfl, rfl⟩
                  go_wp2_with fail
                  refine (down_any pc qc _ _ GC.out).mono ?_
                  rintro e wz ⟨rfl, rfl⟩
                  clear GC GO
                  generalize st F l2 l2.length = E at *
                  go_wp2_with fail
                  refine (start_any p q _ E GF2.out).mono ?_
                  rintro e x1 ⟨rfl, f1, u1⟩
                  go_wp2_with fail
                  refine (arm_any p q 0 0 _ _ f1 (by decide)).mono ?_
                  rintro e x2 ⟨rfl, f2, u2⟩
                  have u12 := u1.trans u2
                  have hx2 : w.heap.size ≤ x2.heap.size := Nat.le_trans hBw u12.size
                  have b2x : Below w.heap.size w x2 := GB.out.trans (u12.below hBw (by rintro j rfl; exact hgeP.1))
                  have hdn : ((E.start).arm 0 0).down = false := rfl
                  have hlf : ((E.start).arm 0 0).left = 0 := rfl
                  have hnpE : ((E.start).arm 0 0).np = 4 := hnp9
                  have X2 := hid f2; have B2X := hid b2x; have HDN := hid hdn; have HLF := hid hlf; have HNPE := hid hnpE
                  clear f1 f2 u1 u2 u12 b2x GF2 GB hdn hlf hnpE hnp9 hnb9
                  generalize (E.start).arm 0 0 = E2 at *
                  go_wp2_with fail
                  refine (wear_0 p q _ E2 X2.out).mono ?_
                  rintro e wz ⟨rfl, rfl⟩
                  by_cases hw9 : 1000 ≤ (E2.blk 0).wear
                  · have hw9i : (1000 : Int) ≤ (E2.blk 0).wear := by omega
                    have HW9 := hid hw9; clear hw9
                    go_wp2_with fail
                    go_ret
                    exact ⟨rfl, B2X.out⟩
                  · have hw9i : ((E2.blk 0).wear : Int) < 1000 := by omega
                    have hee := up_erase HDN.out HLF.out X2.out.ok (by omega)
                    have HEE := hid hee
                    clear hw9 hee
                    go_wp2_with fail
                    refine (erase_any p q 0 _ E2 X2.out).mono ?_
                    rintro e x3w ⟨he, f3, u3⟩
                    rw [HEE.out] at he f3
                    subst he
                    dsimp only at f3
                    have hdn : ((E2.clear 0 0).worn 0).down = false := HDN.out
                    have hlf : ((E2.clear 0 0).worn 0).left = 0 := HLF.out
                    have hnpE : ((E2.clear 0 0).worn 0).np = 4 := HNPE.out
                    have hpg : ∀ k, (((E2.clear 0 0).worn 0).blk 0).page k = none := fun k => by rw [Fl.worn_page, Fl.clear_page]
                    have b3x : Below w.heap.size w x3w := B2X.out.trans (u3.below hx2 (two_le hgeP.1 hgeP.2))
                    have hx3s : w.heap.size ≤ x3w.heap.size := Nat.le_trans hx2 u3.size
                    have F3 := hid f3; have D3 := hid hdn; have L3 := hid hlf; have N3 := hid hnpE; have P3 := hid hpg; have B3 := hid b3x
                    clear f3 hdn hlf hnpE hpg b3x u3 HEE HDN HLF HNPE B2X X2
                    generalize (E2.clear 0 0).worn 0 = E3 at *
                    go_wp2_with fail
                    refine (lose_any p q lost _ E3 F3.out (by omega)).mono ?_
                    rintro e x4 ⟨rfl, f4, u4⟩
                    have b4x : Below w.heap.size w x4 := B3.out.trans (u4.below hx3s (by rintro j rfl; exact hgeP.1))
                    have hx4s : w.heap.size ≤ x4.heap.size := Nat.le_trans hx3s u4.size
                    have hlo : (E3.lose lost).lost = lost := by show max (lost : Int) 0 = lost; omega
                    have F4 := hid f4; have B4 := hid b4x
                    clear f4 b4x u4 B3 F3
                    go_wp2_with fail
                    go_loopg [25] lost (fun n i wx => ∃ m G, m ≤ lost ∧ n = lost - m ∧ i = .int .i64 m ∧ FlashAt wx p q G ∧ G.down = false ∧ G.left = 0 ∧ G.lost = lost - (m : Int) ∧ G.np = 4 ∧ (∀ k, (G.blk 0).page k = none) ∧ Below w.heap.size w wx)
                    case atStart => exact ⟨0, _, Nat.zero_le _, rfl, rfl, F4.out, D3.out, L3.out, by rw [hlo]; omega, N3.out, P3.out, B4.out⟩
                    case round =>
                      clear F4 B4 hlo
                      obtain ⟨m5, G, hm5, hn5, rfl, g1, g2, g3, g4, g5, g6, g7⟩ := hrel
                      have G1 := hid g1; have G2 := hid g2; have G3 := hid g3; have G4 := hid g4; have G5 := hid g5; have G6 := hid g6; have G7 := hid g7; have HN5 := hid hn5
                      clear g1 g2 g3 g4 g5 g6 g7 hn5
                      have hG7 := G7.out.size
                      by_cases hlt5 : m5 < lost
                      · have epr := lost_program (s := ⟨#[120]⟩) G2.out G3.out (by have := G4.out; omega) G1.out.ok G6.out (by rw [G5.out]; decide) (by decide)
                        have EPR := hid epr; clear epr
                        go_wp2_with fail
                        refine (program_any p q 0 3 ⟨#[120]⟩ _ G G1.out (by decide)).mono ?_
                        rintro e x5 ⟨he, f5, u5⟩
                        rw [EPR.out] at he f5
                        subst he
                        dsimp only at f5
                        have era := read_none (F := { G with lost := G.lost - 1 }) G2.out f5.ok G6.out (by show 3 < G.np; rw [G5.out]; decide)
                        have b5x : Below w.heap.size w x5 := G7.out.trans (u5.below hG7 (two_le hgeP.1 hgeP.2))
                        have F5 := hid f5; have B5 := hid b5x; have ERA := hid era
                        clear f5 b5x era u5
                        go_wp2_with fail
                        refine (erased_any p q 0 3 _ _ F5.out).mono ?_
                        rintro e wz ⟨he, rfl⟩
                        rw [ERA.out] at he
                        subst he
                        go_wp2_with fail
                        go_roundg (lost - (m5 + 1))
                        case measure => have := HN5.out; omega
                        case rel => exact ⟨m5 + 1, _, by omega, rfl, by go_num, F5.out, G2.out, G3.out, by show G.lost - 1 = _; have := G4.out; omega, G5.out, G6.out, B5.out⟩
                      · have hcalm : Calm G := ⟨G2.out, G3.out, by have := G4.out; omega⟩
                        have epr := hcalm.program (n := 0) (g := 3) (s := ⟨#[120]⟩) (by have := G1.out.ok.nb.1; omega) (by rw [G5.out]; decide) (fun k _ _ => G6.out k) (by decide)
                        have EPR := hid epr; clear epr
                        go_wp2_with fail
                        refine (program_any p q 0 3 ⟨#[120]⟩ _ G G1.out (by decide)).mono ?_
                        rintro e x5 ⟨he, f5, u5⟩
                        rw [show G.program 0 3 ⟨#[120]⟩ = (G.setPage 0 3 ⟨#[120]⟩, 0) from EPR.out] at he f5
                        subst he
                        dsimp only at f5
                        have era : (G.setPage 0 3 ⟨#[120]⟩).reads 0 3 ⟨#[120]⟩ = true := by
                          unfold Fl.reads
                          rw [show (G.setPage 0 3 ⟨#[120]⟩).read 0 3 = (⟨#[120]⟩, 0) from Fl.read_some (F := G.setPage 0 3 ⟨#[120]⟩) G2.out (n := 0) (g := 3) (by have := f5.ok.nb.1; omega) (by show 3 < G.np; rw [G5.out]; decide) (G.setPage_page 0 3 _)]
                          decide
                        have b5x : Below w.heap.size w x5 := G7.out.trans (u5.below hG7 (two_le hgeP.1 hgeP.2))
                        have F5 := hid f5; have B5 := hid b5x; have ERA := hid era
                        clear f5 b5x era u5
                        go_wp2_with fail
                        refine (reads_any p q 0 3 ⟨#[120]⟩ _ _ F5.out).mono ?_
                        rintro e wz ⟨he, rfl⟩
                        rw [ERA.out] at he
                        subst he
                        go_wp2_with fail
                        go_ret
                        exact ⟨rfl, B5.out⟩
end Go.Proofs.Ytajmhiacmjgffaa
