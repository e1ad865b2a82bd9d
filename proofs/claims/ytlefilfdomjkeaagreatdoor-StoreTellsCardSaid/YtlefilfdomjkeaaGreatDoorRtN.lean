/- Walks: operations on the flashes. -/
/- A store of the program and one of the reference, side by side. -/
import Derived.Test.YtlefilfdomjkeaaGreatDoorStU
import Derived.Test.YtlefilfdomjkeaaGreatDoorRtE
import Derived.Test.YtlefilfdomjkeaaGreatDoorRtM
namespace Go.Proofs.YtlefilfdomjkeaaGreatDoor
open Go.RowKit Go.Deep
theorem shakes_at {w : World} {p q : Nat} {F : Fl} (f : FlashAt w p q F) (o : OpS) (ok : o.Ok) : Calls Tryz.prog 16 #[.pointer (some ⟨p, 0, none⟩), .agg #[.int .i64 o.kind, .int .i64 o.n, .int .i64 o.keep, .string ⟨o.s.toArray⟩]] w fun e w' => e = .returned (.tuple #[]) ∧ FlashAt w' p q (shakeP F o) ∧ Upd (fun k => k = p) w w' := by
  obtain ⟨kd, on, kp, os⟩ := o
  dsimp only
  obtain ⟨W, hW⟩ : ∃ W, w.alloc (.cells #[.int .i64 kd, .int .i64 on, .int .i64 kp, .string ⟨os.toArray⟩] 39 (0, 0)) = W := ⟨_, rfl⟩
  have u0 : Upd (fun _ => False) w W := by rw [← hW]; exact (Upd.refl _ _).alloc _
  have hb : W.heap[w.heap.size]? = some (.cells #[.int .i64 kd, .int .i64 on, .int .i64 kp, .string ⟨os.toArray⟩] 39 (0, 0)) := by rw [← hW]; exact heap_alloc_new
  have F0 := hid (f.upd u0 id id fun _ h => h.elim); have U0 := hid (u0.mono (T := fun k => k = p) fun _ h => h.elim); have HW := hid hW; have OK := hid ok
  obtain ⟨ob, hob⟩ : ∃ ob, w.heap.size = ob := ⟨_, rfl⟩
  rw [hob] at hb
  have z0 : W.cell? ⟨ob, 0, none⟩ = some (.int .i64 kd) := by rw [cell_of_block hb]; rfl
  have z1 : W.cell? ⟨ob, 1, none⟩ = some (.int .i64 on) := by rw [cell_of_block hb]; rfl
  have z2 : W.cell? ⟨ob, 2, none⟩ = some (.int .i64 kp) := by rw [cell_of_block hb]; rfl
  have HOB := hid hob
  clear f ok hW u0 hb hob
  by_cases h2 : kd = 2
  · subst h2
    go_enter Tryz.func16, Tryz.ntmps16
    go_upto_region 1 with (fail)
    rw [HW.out]
    try rw [HOB.out]
    go_wp2_with fail
    refine (lose_any p q on W F F0.out OK.out.n.2).mono ?_
    rintro e w2 ⟨rfl, f2, u2⟩
    have F2 := hid f2; have U2 := hid (U0.out.trans u2)
    clear f2 u2
    go_wp2_with fail
    go_end0
    exact ⟨rfl, F2.out, U2.out⟩
  by_cases h3 : kd = 3
  · subst h3
    clear h2
    go_enter Tryz.func16, Tryz.ntmps16
    go_upto_region 1 with (fail)
    rw [HW.out]
    try rw [HOB.out]
    go_wp2_with fail
    refine (arm_any p q on kp W F F0.out OK.out.n.2).mono ?_
    rintro e w2 ⟨rfl, f2, u2⟩
    have F2 := hid f2; have U2 := hid (U0.out.trans u2)
    clear f2 u2
    go_wp2_with fail
    go_end0
    exact ⟨rfl, F2.out, U2.out⟩
  by_cases h4 : kd = 4
  · subst h4
    clear h2 h3
    go_enter Tryz.func16, Tryz.ntmps16
    go_upto_region 1 with (fail)
    rw [HW.out]
    try rw [HOB.out]
    go_wp2_with fail
    refine (crash_any p q W F F0.out).mono ?_
    rintro e w2 ⟨rfl, f2, u2⟩
    have F2 := hid f2; have U2 := hid (U0.out.trans u2)
    clear f2 u2
    go_wp2_with fail
    refine (start_any p q w2 F.crash F2.out).mono ?_
    rintro e w3 ⟨rfl, f3, u3⟩
    have F3 := hid f3; have U3 := hid (U2.out.trans u3)
    clear f3 u3
    go_wp2_with fail
    go_end0
    exact ⟨rfl, F3.out, U3.out⟩
  by_cases h5 : kd = 5
  · subst h5
    clear h2 h3 h4
    go_enter Tryz.func16, Tryz.ntmps16
    go_upto_region 1 with (fail)
    rw [HW.out]
    try rw [HOB.out]
    go_wp2_with fail
    refine (start_any p q W F F0.out).mono ?_
    rintro e w3 ⟨rfl, f3, u3⟩
    have F3 := hid f3; have U3 := hid (U0.out.trans u3)
    clear f3 u3
    go_wp2_with fail
    go_end0
    exact ⟨rfl, F3.out, U3.out⟩
  · have g2 : (kd == 2) = false := beq_eq_false_iff_ne.2 h2
    have g3 : (kd == 3) = false := beq_eq_false_iff_ne.2 h3
    have g4 : (kd == 4) = false := beq_eq_false_iff_ne.2 h4
    have g5 : (kd == 5) = false := beq_eq_false_iff_ne.2 h5
    have R := hid (show shakeP F ⟨kd, on, kp, os⟩ = F by unfold shakeP; rw [if_neg h2, if_neg h3, if_neg h4, if_neg h5])
    go_enter Tryz.func16, Tryz.ntmps16
    go_upto_region 1 with (fail)
    rw [HW.out]
    try rw [HOB.out]
    go_wp2_with fail
    go_end0
    exact ⟨rfl, by rw [R.out]; exact F0.out, U0.out⟩
theorem rshaken_any {w : World} {p q : Nat} {g : Nat → Nat} {F : Fl} (f : RefAt w p q g F) (o : OpS) (ok : o.Ok) : Calls Tryz.prog 17 #[.pointer (some ⟨p, 0, none⟩), .agg #[.int .i64 o.kind, .int .i64 o.n, .int .i64 o.keep, .string ⟨o.s.toArray⟩]] w fun e w' => e = .returned (.tuple #[]) ∧ RefAt w' p q g (shakeP F o) ∧ Upd (fun k => k = p) w w' := by
  obtain ⟨kd, on, kp, os⟩ := o
  dsimp only
  obtain ⟨W, hW⟩ : ∃ W, w.alloc (.cells #[.int .i64 kd, .int .i64 on, .int .i64 kp, .string ⟨os.toArray⟩] 39 (0, 0)) = W := ⟨_, rfl⟩
  have u0 : Upd (fun _ => False) w W := by rw [← hW]; exact (Upd.refl _ _).alloc _
  have hb : W.heap[w.heap.size]? = some (.cells #[.int .i64 kd, .int .i64 on, .int .i64 kp, .string ⟨os.toArray⟩] 39 (0, 0)) := by rw [← hW]; exact heap_alloc_new
  have F0 := hid (f.upd u0 fun _ _ => id); have U0 := hid (u0.mono (T := fun k => k = p) fun _ h => h.elim); have HW := hid hW; have OK := hid ok
  obtain ⟨ob, hob⟩ : ∃ ob, w.heap.size = ob := ⟨_, rfl⟩
  rw [hob] at hb
  have z0 : W.cell? ⟨ob, 0, none⟩ = some (.int .i64 kd) := by rw [cell_of_block hb]; rfl
  have z1 : W.cell? ⟨ob, 1, none⟩ = some (.int .i64 on) := by rw [cell_of_block hb]; rfl
  have z2 : W.cell? ⟨ob, 2, none⟩ = some (.int .i64 kp) := by rw [cell_of_block hb]; rfl
  have HOB := hid hob
  clear f ok hW u0 hb hob
  by_cases h2 : kd = 2
  · subst h2
    go_enter Tryz.func17, Tryz.ntmps17
    go_upto_region 1 with (fail)
    rw [HW.out]
    try rw [HOB.out]
    go_wp2_with fail
    refine (rlose_any p q g on W F F0.out OK.out.n.2).mono ?_
    rintro e w2 ⟨rfl, f2, u2⟩
    have F2 := hid f2; have U2 := hid (U0.out.trans u2)
    clear f2 u2
    go_wp2_with fail
    go_end0
    exact ⟨rfl, F2.out, U2.out⟩
  by_cases h3 : kd = 3
  · subst h3
    clear h2
    go_enter Tryz.func17, Tryz.ntmps17
    go_upto_region 1 with (fail)
    rw [HW.out]
    try rw [HOB.out]
    go_wp2_with fail
    refine (rarm_any p q g on kp W F F0.out OK.out.n.2).mono ?_
    rintro e w2 ⟨rfl, f2, u2⟩
    have F2 := hid f2; have U2 := hid (U0.out.trans u2)
    clear f2 u2
    go_wp2_with fail
    go_end0
    exact ⟨rfl, F2.out, U2.out⟩
  by_cases h4 : kd = 4
  · subst h4
    clear h2 h3
    go_enter Tryz.func17, Tryz.ntmps17
    go_upto_region 1 with (fail)
    rw [HW.out]
    try rw [HOB.out]
    go_wp2_with fail
    refine (rcrash_any p q g W F F0.out).mono ?_
    rintro e w2 ⟨rfl, f2, u2⟩
    have F2 := hid f2; have U2 := hid (U0.out.trans u2)
    clear f2 u2
    go_wp2_with fail
    refine (rstart_any p q g w2 F.crash F2.out).mono ?_
    rintro e w3 ⟨rfl, f3, u3⟩
    have F3 := hid f3; have U3 := hid (U2.out.trans u3)
    clear f3 u3
    go_wp2_with fail
    go_end0
    exact ⟨rfl, F3.out, U3.out⟩
  by_cases h5 : kd = 5
  · subst h5
    clear h2 h3 h4
    go_enter Tryz.func17, Tryz.ntmps17
    go_upto_region 1 with (fail)
    rw [HW.out]
    try rw [HOB.out]
    go_wp2_with fail
    refine (rstart_any p q g W F F0.out).mono ?_
    rintro e w3 ⟨rfl, f3, u3⟩
    have F3 := hid f3; have U3 := hid (U0.out.trans u3)
    clear f3 u3
    go_wp2_with fail
    go_end0
    exact ⟨rfl, F3.out, U3.out⟩
  · have g2 : (kd == 2) = false := beq_eq_false_iff_ne.2 h2
    have g3 : (kd == 3) = false := beq_eq_false_iff_ne.2 h3
    have g4 : (kd == 4) = false := beq_eq_false_iff_ne.2 h4
    have g5 : (kd == 5) = false := beq_eq_false_iff_ne.2 h5
    have R := hid (show shakeP F ⟨kd, on, kp, os⟩ = F by unfold shakeP; rw [if_neg h2, if_neg h3, if_neg h4, if_neg h5])
    go_enter Tryz.func17, Tryz.ntmps17
    go_upto_region 1 with (fail)
    rw [HW.out]
    try rw [HOB.out]
    go_wp2_with fail
    go_end0
    exact ⟨rfl, by rw [R.out]; exact F0.out, U0.out⟩
end Go.Proofs.YtlefilfdomjkeaaGreatDoor
namespace Go.Proofs.YtlefilfdomjkeaaGreatDoor
open Go.RowKit Go.Deep
/-- A store of the reference, all of whose memory is newer than w0. -/
def RShop (w0 w : World) (O : Nat → Prop) (p q : Nat) (g : Nat → Nat) (F : Fl) (x : Nat) (S : St) : Prop := (∃ vr va, RStAt w O x p q g F S vr va) ∧ ∀ k, O k → w0.heap.size ≤ k
/-- Both, and nothing of the one is of the other one; the block z is of none. -/
def Pair (w0 : World) (p q : Nat) (p2 q2 : Nat) (g2 : Nat → Nat) (x x2 z : Nat) (F : Fl) (S : St) (F2 : Fl) (S2 : St) (w : World) : Prop :=
  ∃ O O2, Shop w0 w O p q F x S ∧ RShop w0 w O2 p2 q2 g2 F2 x2 S2 ∧ (∀ k, O k → ¬ O2 k) ∧ ¬ O z ∧ ¬ O2 z
section
variable {w0 w : World} {p q p2 q2 x x2 z : Nat} {g2 : Nat → Nat} {F F2 : Fl} {S S2 : St}
theorem Pair.upd {w' : World} (h : Pair w0 p q p2 q2 g2 x x2 z F S F2 S2 w) (u : Upd (fun _ => False) w w') : Pair w0 p q p2 q2 g2 x x2 z F S F2 S2 w' := by
  obtain ⟨O, O2, h1, ⟨⟨vr, va, st⟩, h2⟩, h3⟩ := h
  exact ⟨O, O2, h1.upd u, ⟨⟨vr, va, st.upd0 u⟩, h2⟩, h3⟩
/-- A block that comes next is of none. -/
theorem Pair.again (h : Pair w0 p q p2 q2 g2 x x2 z F S F2 S2 w) : Pair w0 p q p2 q2 g2 x x2 w.heap.size F S F2 S2 w := by
  obtain ⟨O, O2, ⟨⟨vr1, va1, st1⟩, h1⟩, ⟨⟨vr, va, st⟩, h2⟩, h3, _⟩ := h
  exact ⟨O, O2, ⟨⟨vr1, va1, st1⟩, h1⟩, ⟨⟨vr, va, st⟩, h2⟩, h3, fun e => absurd (st1.lt _ e) (Nat.lt_irrefl _), fun e => absurd (st.lt _ e) (Nat.lt_irrefl _)⟩
theorem Pair.old (h : Pair w0 p q p2 q2 g2 x x2 z F S F2 S2 w) : Upd (fun _ => False) w0 w := by
  obtain ⟨O, O2, h1, _⟩ := h
  exact h1.2.2
theorem RShop.lt {O2 : Nat → Prop} (h : RShop w0 w O2 p2 q2 g2 F2 x2 S2) : ∀ k, O2 k → k < w.heap.size := by
  obtain ⟨⟨vr, va, st⟩, _⟩ := h; exact st.lt
theorem Shop.lt {O : Nat → Prop} (h : Shop w0 w O p q F x S) : ∀ k, O k → k < w.heap.size := by
  obtain ⟨⟨vr, va, st⟩, _⟩ := h; exact st.lt
/-- The program's store was at work. -/
theorem Pair.left {G : Fl} {T : St} {w' : World} {O O2 : Nat → Prop} (_ : Shop w0 w O p q F x S) (h2 : RShop w0 w O2 p2 q2 g2 F2 x2 S2) (h3 : (∀ k, O k → ¬ O2 k) ∧ ¬ O z ∧ ¬ O2 z) (hz : z < w.heap.size) (m : Moved w0 O w w' p q G x T) : Pair w0 p q p2 q2 g2 x x2 z G T F2 S2 w' ∧ w'.heap[z]? = w.heap[z]? := by
  obtain ⟨O', s1, s2, ho⟩ := m
  obtain ⟨⟨vr, va, st⟩, h4⟩ := h2
  obtain ⟨h3, z1, z2⟩ := h3
  refine ⟨⟨O', O2, s1, ⟨⟨vr, va, st.upd s2 fun k hk e => h3 k e.1 hk⟩, h4⟩, fun k hk e => ?_, fun e => ?_, z2⟩, Sto.block s2 hz z1⟩
  · rcases ho k hk with h | h
    · exact h3 k h e
    · have := st.lt k e; omega
  · rcases ho z e with h | h
    · exact z1 h
    · omega
/-- The reference's store was at work. -/
theorem Pair.right {G : Fl} {T : St} {w' : World} {O O2 : Nat → Prop} (h1 : Shop w0 w O p q F x S) (h2 : RShop w0 w O2 p2 q2 g2 F2 x2 S2) (h3 : (∀ k, O k → ¬ O2 k) ∧ ¬ O z ∧ ¬ O2 z) (hz : z < w.heap.size)
    (m : (∃ O' vr va, RStAt w' O' x2 p2 q2 g2 G T vr va ∧ ∀ k, O' k → O2 k ∨ w.heap.size ≤ k) ∧ Sto O2 w w') : Pair w0 p q p2 q2 g2 x x2 z F S G T w' ∧ w'.heap[z]? = w.heap[z]? := by
  obtain ⟨⟨O', vr, va, st, ho⟩, s⟩ := m
  obtain ⟨⟨vr1, va1, st1⟩, h4, h5⟩ := h1
  have hlt := st1.lt
  obtain ⟨h3, z1, z2⟩ := h3
  refine ⟨⟨O, O', ⟨⟨vr1, va1, st1.upd s (fun k hk e => h3 k hk e.1) fun k hk => hk.2⟩, h4, h5.comp s fun i hi e => by have := h2.2 i e.1; omega⟩, ⟨⟨vr, va, st⟩, fun k hk => ?_⟩, fun k hk e => ?_, z1, fun e => ?_⟩, Sto.block s hz z2⟩
  · rcases ho k hk with h | h
    · exact h2.2 k h
    · exact Nat.le_trans h5.size h
  · rcases ho k e with h | h
    · exact h3 k hk h
    · have := hlt k hk; omega
  · rcases ho z e with h | h
    · exact z2 h
    · omega
theorem pair_append (h : Pair w0 p q p2 q2 g2 x x2 z F S F2 S2 w) (hzl : z < w.heap.size) (ok : StOk S) (E : Env w0) (hz : 6 ≤ w0.heap.size) (hd : F.down = false) (r : List UInt8) (hr : r.length ≤ 1000000) {R : Fl × St × Int} (hR : appendP F S r = R) :
    Calls Tryz.prog 12 #[.pointer (some ⟨x, 0, none⟩), .string ⟨r.toArray⟩] w fun e w' => e = .returned (.int .i64 R.2.2) ∧ Pair w0 p q p2 q2 g2 x x2 z R.1 R.2.1 F2 S2 w' ∧ w'.heap[z]? = w.heap[z]? := by
  obtain ⟨O, O2, h1, h2, h3⟩ := h
  exact (shop_append h1 ok E hz hd r hr hR).mono fun e w' hh => ⟨hh.1, Pair.left h1 h2 h3 hzl hh.2⟩
theorem pair_drop (h : Pair w0 p q p2 q2 g2 x x2 z F S F2 S2 w) (hzl : z < w.heap.size) (ok : StOk S) (E : Env w0) (hz : 6 ≤ w0.heap.size) (hd : F.down = false) (n : Int) (hn : I64 n) {R : Fl × St × Int} (hR : dropP F S n = R) :
    Calls Tryz.prog 14 #[.pointer (some ⟨x, 0, none⟩), .int .i64 n] w fun e w' => e = .returned (.int .i64 R.2.2) ∧ Pair w0 p q p2 q2 g2 x x2 z R.1 R.2.1 F2 S2 w' ∧ w'.heap[z]? = w.heap[z]? := by
  obtain ⟨O, O2, h1, h2, h3⟩ := h
  exact (shop_drop h1 ok E hz hd n hn hR).mono fun e w' hh => ⟨hh.1, Pair.left h1 h2 h3 hzl hh.2⟩
theorem pair_rappend (h : Pair w0 p q p2 q2 g2 x x2 z F S F2 S2 w) (hzl : z < w.heap.size) (ok : StOk S2) (hd : F2.down = false) (r : List UInt8) (hr : r.length ≤ 1000000) {R : Fl × St × Int} (hR : appendP F2 S2 r = R) :
    Calls Tryz.prog 13 #[.pointer (some ⟨x2, 0, none⟩), .string ⟨r.toArray⟩] w fun e w' => e = .returned (.int .i64 R.2.2) ∧ Pair w0 p q p2 q2 g2 x x2 z F S R.1 R.2.1 w' ∧ w'.heap[z]? = w.heap[z]? := by
  obtain ⟨O, O2, h1, h2, h3⟩ := h
  obtain ⟨⟨vr, va, st⟩, _⟩ := id h2
  subst hR
  exact (rappend_any st ok hd r hr).mono fun e w' hh => ⟨hh.1, Pair.right h1 h2 h3 hzl hh.2⟩
theorem pair_rdrop (h : Pair w0 p q p2 q2 g2 x x2 z F S F2 S2 w) (hzl : z < w.heap.size) (ok : StOk S2) (hd : F2.down = false) (n : Int) (hn : I64 n) {R : Fl × St × Int} (hR : dropP F2 S2 n = R) :
    Calls Tryz.prog 15 #[.pointer (some ⟨x2, 0, none⟩), .int .i64 n] w fun e w' => e = .returned (.int .i64 R.2.2) ∧ Pair w0 p q p2 q2 g2 x x2 z F S R.1 R.2.1 w' ∧ w'.heap[z]? = w.heap[z]? := by
  obtain ⟨O, O2, h1, h2, h3⟩ := h
  obtain ⟨⟨vr, va, st⟩, _⟩ := id h2
  subst hR
  exact (rdrop_any st ok hd n hn).mono fun e w' hh => ⟨hh.1, Pair.right h1 h2 h3 hzl hh.2⟩
theorem pair_first (h : Pair w0 p q p2 q2 g2 x x2 z F S F2 S2 w) : Calls Tryz.prog 20 #[.pointer (some ⟨x, 0, none⟩)] w fun e w' => e = .returned (.int .i64 S.first) ∧ w = w' := by
  obtain ⟨O, O2, h1, _⟩ := h
  exact shop_first h1
theorem pair_len (h : Pair w0 p q p2 q2 g2 x x2 z F S F2 S2 w) (ok : StOk S) : Calls Tryz.prog 21 #[.pointer (some ⟨x, 0, none⟩)] w fun e w' => e = .returned (.int .i64 S.len) ∧ Upd (fun _ => False) w w' := by
  obtain ⟨O, O2, h1, _⟩ := h
  exact shop_len h1 ok
theorem pair_all (h : Pair w0 p q p2 q2 g2 x x2 z F S F2 S2 w) (ok : StOk S) : Calls Tryz.prog 24 #[.pointer (some ⟨x, 0, none⟩)] w fun e w' => (∃ a c, e = .returned (.slice a S.recs.length c) ∧ OwnS w' (.slice a S.recs.length c) S.recs ∧ ∀ g, (Value.slice a S.recs.length c).ownBlock = some g → w.heap.size ≤ g) ∧ Upd (fun _ => False) w w' := by
  obtain ⟨O, O2, h1, _⟩ := h
  exact shop_all h1 ok
theorem pair_get (h : Pair w0 p q p2 q2 g2 x x2 z F S F2 S2 w) (ok : StOk S) (i : Int) (hi : I64 i) {R : List UInt8 × Bool} (hR : getP S i = R) : Calls Tryz.prog 18 #[.pointer (some ⟨x, 0, none⟩), .int .i64 i] w fun e w' => e = .returned (.tuple #[.string ⟨R.1.toArray⟩, .bool R.2]) ∧ Upd (fun _ => False) w w' := by
  obtain ⟨O, O2, h1, _⟩ := h
  exact shop_get h1 ok i hi hR
theorem pair_rget (h : Pair w0 p q p2 q2 g2 x x2 z F S F2 S2 w) (ok : StOk S2) (i : Int) (hi : I64 i) {R : List UInt8 × Bool} (hR : getP S2 i = R) : Calls Tryz.prog 19 #[.pointer (some ⟨x2, 0, none⟩), .int .i64 i] w fun e w' => e = .returned (.tuple #[.string ⟨R.1.toArray⟩, .bool R.2]) ∧ Upd (fun _ => False) w w' := by
  subst hR
  obtain ⟨O, O2, _, ⟨⟨vr, va, st⟩, _⟩, _⟩ := h
  exact rget_any st ok i hi
theorem pair_rlen (h : Pair w0 p q p2 q2 g2 x x2 z F S F2 S2 w) (ok : StOk S2) : Calls Tryz.prog 22 #[.pointer (some ⟨x2, 0, none⟩)] w fun e w' => e = .returned (.int .i64 S2.len) ∧ Upd (fun _ => False) w w' := by
  obtain ⟨O, O2, _, ⟨⟨vr, va, st⟩, _⟩, _⟩ := h
  exact rlen_any st ok
/-- What the reference's store holds. -/
theorem Pair.rhead (h : Pair w0 p q p2 q2 g2 x x2 z F S F2 S2 w) : ∃ a c, ∀ w', Upd (fun _ => False) w w' → (w'.cell? ⟨x2, 3, none⟩ = some (.int .i64 S2.first) ∧ w'.cell? ⟨x2, 5, none⟩ = some (.slice a S2.recs.length c)) ∧ OwnS w' (.slice a S2.recs.length c) S2.recs := by
  obtain ⟨O, O2, _, ⟨⟨vr, va, st⟩, _⟩, _⟩ := h
  obtain ⟨a, c, rfl, _, _⟩ := st.recs.fits
  refine ⟨a, c, fun w' u => ?_⟩
  have s := st.upd0 u
  exact ⟨⟨s.cells.1.2.2.2.1, s.cells.1.2.2.2.2.2.1⟩, s.recs⟩
/-- Both flashes alone. -/
def FPair (w0 : World) (p q p2 q2 : Nat) (g2 : Nat → Nat) (F F2 : Fl) (w : World) : Prop :=
  FlashAt w p q F ∧ RefAt w p2 q2 g2 F2 ∧ w0.heap.size ≤ p ∧ w0.heap.size ≤ q ∧ (∀ k, Foot p2 q2 g2 F2.nb k → w0.heap.size ≤ k) ∧ (∀ k, Foot p2 q2 g2 F2.nb k → k ≠ p ∧ k ≠ q) ∧ Upd (fun _ => False) w0 w
theorem Pair.flashes (h : Pair w0 p q p2 q2 g2 x x2 z F S F2 S2 w) : FPair w0 p q p2 q2 g2 F F2 w := by
  obtain ⟨O, O2, ⟨⟨vr, va, st⟩, h1, h2⟩, ⟨⟨vr2, va2, st2⟩, h3⟩, h4, _⟩ := h
  exact ⟨st.flash, st2.flash, h1 p st.op, h1 q st.oq, fun k hk => h3 k (st2.of_ k hk), fun k hk => ⟨fun e => h4 p st.op (by rw [← e]; exact st2.of_ k hk), fun e => h4 q st.oq (by rw [← e]; exact st2.of_ k hk)⟩, h2⟩
theorem FPair.upd {w' : World} (h : FPair w0 p q p2 q2 g2 F F2 w) (u : Upd (fun _ => False) w w') : FPair w0 p q p2 q2 g2 F F2 w' := by
  obtain ⟨h1, h2, h3, h4, h5, h6, h7⟩ := h
  exact ⟨h1.upd u id id fun _ h => h.elim, h2.upd u fun _ _ => id, h3, h4, h5, h6, h7.trans u⟩
theorem FlashAt.pne (h : FlashAt w p q F) : ∀ k, k = p → NoStr w k := by
  intro k hk s e
  subst hk
  obtain ⟨cap, h1⟩ := h.head
  rw [h1] at e; injection e with e; injection e with _ e _; exact absurd e (by decide)
theorem FPair.left {G : Fl} {w' : World} (h : FPair w0 p q p2 q2 g2 F F2 w) (f : FlashAt w' p q G) (u : Upd (fun k => k = p) w w') : FPair w0 p q p2 q2 g2 G F2 w' := by
  obtain ⟨h1, h2, h3, h4, h5, h6, h7⟩ := h
  exact ⟨f, h2.upd u fun k hk e => (h6 k hk).1 e, h3, h4, h5, h6, h7.comp u fun i hi e => by omega⟩
theorem FPair.right {G : Fl} {w' : World} (h : FPair w0 p q p2 q2 g2 F F2 w) (f : RefAt w' p2 q2 g2 G) (hn : G.nb = F2.nb) (u : Upd (fun k => k = p2) w w') : FPair w0 p q p2 q2 g2 F G w' := by
  obtain ⟨h1, h2, h3, h4, h5, h6, h7⟩ := h
  refine ⟨h1.upd u (fun e => (h6 p2 (.inl rfl)).1 e.symm) (fun e => (h6 p2 (.inl rfl)).2 e.symm) (fun k hk => by subst hk; exact h2.noStr _ (.inl rfl)), f, h3, h4, by rw [hn]; exact h5, by rw [hn]; exact h6, h7.comp u fun i hi e => ?_⟩
  have := h5 p2 (.inl rfl); omega
theorem Pair.shaken {G : Fl} {w' : World} (h : Pair w0 p q p2 q2 g2 x x2 z F S F2 S2 w) (f : FlashAt w' p q G) (u : Upd (fun k => k = p) w w') (hn : G.nb = F.nb) (hk : G.np = F.np) : Pair w0 p q p2 q2 g2 x x2 z G S F2 S2 w' := by
  obtain ⟨O, O2, ⟨⟨vr, va, st⟩, h1, h2⟩, ⟨⟨vr2, va2, st2⟩, h3⟩, h4⟩ := h
  exact ⟨O, O2, ⟨⟨vr, va, st.flashed (u.mono fun _ h => .inl h) f hn hk⟩, h1, h2.comp u fun i hi e => by have := h1 p st.op; omega⟩, ⟨⟨vr2, va2, st2.upd u fun k hk e => h4.1 p st.op (by rw [← e]; exact hk)⟩, h3⟩, h4⟩
theorem Pair.rshaken {G : Fl} {w' : World} (h : Pair w0 p q p2 q2 g2 x x2 z F S F2 S2 w) (f : RefAt w' p2 q2 g2 G) (u : Upd (fun k => k = p2) w w') (hn : G.nb = F2.nb) (hk : G.np = F2.np) : Pair w0 p q p2 q2 g2 x x2 z F S G S2 w' := by
  obtain ⟨O, O2, ⟨⟨vr, va, st⟩, h1, h2⟩, ⟨⟨vr2, va2, st2⟩, h3⟩, h4⟩ := h
  have o2 := st2.of_ p2 (.inl rfl)
  exact ⟨O, O2, ⟨⟨vr, va, st.upd u (fun k hk e => h4.1 k hk (by rw [e]; exact o2)) (fun k hk => by subst hk; exact st2.flash.noStr _ (.inl rfl))⟩, h1, h2.comp u fun i hi e => by have := h3 p2 o2; omega⟩,
    ⟨⟨vr2, va2, st2.flashed (u.mono fun k hk => .inl hk) f hn hk⟩, h3⟩, h4⟩
/-- Both are opened: the program's first. -/
theorem fpair_open (h : FPair w0 p q p2 q2 g2 F F2 w) (hb : 2 ≤ F.nb) (hd : F.down = false) (hi : PgInv F) (hps : ∀ p ∈ pagesP F, p.pos < 1000000) (E : Env w0) (hz : 6 ≤ w0.heap.size) {T : St} (hT : openP F = T) :
    Calls Tryz.prog 9 #[.pointer (some ⟨p, 0, none⟩)] w fun e w' => ∃ x, e = .returned (.tuple #[.pointer (some ⟨x, 0, none⟩), .int .i64 0]) ∧ FPair w0 p q p2 q2 g2 F F2 w' ∧ ∃ O, Shop w0 w' O p q F x T ∧ ∀ k, Foot p2 q2 g2 F2.nb k → ¬ O k := by
  obtain ⟨h1, h2, h3, h4, h5, h6, h7⟩ := h
  refine (shop_open h1 h3 h4 h7 hb hd hi hps E hz hT).mono ?_
  rintro e w' ⟨x, rfl, ⟨O, sh, ho⟩, s⟩
  have f' := (shop_flash sh).1
  have r' : RefAt w' p2 q2 g2 F2 := h2.upd s fun k hk e => (e.1.elim (fun e => (h6 k hk).1 e) fun e => (h6 k hk).2 e)
  refine ⟨x, rfl, ⟨f', r', h3, h4, h5, h6, sh.2.2⟩, O, sh, fun k hk e => ?_⟩
  rcases ho k e with rfl | rfl | h
  · exact (h6 _ hk).1 rfl
  · exact (h6 _ hk).2 rfl
  · have : k < w.heap.size := by
      rcases hk with rfl | rfl | ⟨i, hi, rfl⟩
      · exact h2.lt.1
      · exact h2.lt.2.1
      · exact h2.lt.2.2 i hi
    omega
theorem fpair_ropen {O : Nat → Prop} (h : FPair w0 p q p2 q2 g2 F F2 w) (sh : Shop w0 w O p q F x S) (ho : ∀ k, Foot p2 q2 g2 F2.nb k → ¬ O k) (hb : 2 ≤ F2.nb) (hd : F2.down = false) (hi : PgInv F2) (hps : ∀ p ∈ pagesP F2, p.pos < 1000000) {T : St} (hT : openP F2 = T) :
    Calls Tryz.prog 10 #[.pointer (some ⟨p2, 0, none⟩)] w fun e w' => ∃ x2 z, e = .returned (.tuple #[.pointer (some ⟨x2, 0, none⟩), .int .i64 0]) ∧ Pair w0 p q p2 q2 g2 x x2 z F S F2 T w' := by
  subst hT
  obtain ⟨h1, h2, h3, h4, h5, h6, h7⟩ := h
  refine (ropen_any h2 hb hd hi hps).mono ?_
  rintro e w' ⟨x2, rfl, ⟨O2, vr, va, st, hf⟩, s⟩
  obtain ⟨⟨vr1, va1, st1⟩, h8, h9⟩ := sh
  have hlt := st1.lt
  refine ⟨x2, w'.heap.size, rfl, O, O2, ⟨⟨vr1, va1, st1.upd s (fun k hk e => ho k e.1 hk) fun k hk => hk.2⟩, h8, h9.comp s fun i hi e => by have := h5 i e.1; omega⟩, ⟨⟨vr, va, st⟩, fun k hk => ?_⟩, fun k hk e => ?_, fun e => ?_, fun e => absurd (st.lt _ e) (Nat.lt_irrefl _)⟩
  · rcases hf k hk with h | h
    · exact h5 k h
    · exact Nat.le_trans h7.size h
  · rcases hf k e with h | h
    · exact ho k h hk
    · have := hlt k hk; omega
  · have := hlt _ e; have := Sto.size s; omega
end
end Go.Proofs.YtlefilfdomjkeaaGreatDoor
