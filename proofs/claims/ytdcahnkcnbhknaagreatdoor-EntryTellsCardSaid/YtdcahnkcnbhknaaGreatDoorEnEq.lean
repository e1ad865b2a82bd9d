/- Spans and entries in memory. -/
/- Walks: mark, key, day, valid, ascending, keys, numbers. -/
/- Walks: lists compared. -/
import Derived.Test.YtdcahnkcnbhknaaGreatDoorEnVals
import Derived.Test.YtdcahnkcnbhknaaGreatDoorFz
import Derived.Laws.StructEq
namespace Go.Proofs.YtdcahnkcnbhknaaGreatDoor
open Go.RowKit Go.Deep

def kSp : Knd Sp := kMap (kPair (kInt .i64) (kPair (kInt .i64) (kInt .i64))) fun s => (s.mark, s.fr, s.to)
def kSps : Knd (List Sp) := kSlice kSp
theorem reads_sp : Reads Tryz.prog 39 kSp :=
  reads_map (fun x => ⟨x.1, x.2.1, x.2.2⟩) (fun _ => rfl) (reads_struct Tryz.underlying39
    (tail_cons rfl rfl (reads_int Tryz.underlying3 (by kernel_rfl)) (tail_cons rfl rfl (reads_int Tryz.underlying3 (by kernel_rfl)) (tail_last rfl rfl (reads_int Tryz.underlying3 (by kernel_rfl)) (by kernel_rfl)))))
theorem reads_sps : Reads Tryz.prog 23 kSps := reads_slice Tryz.underlying23 (by kernel_rfl) reads_sp (by decide)
structure SpWf (s : Sp) : Prop where
  mark : (Lit.int .i64 s.mark).wf = true
  fr : (Lit.int .i64 s.fr).wf = true
  upto : (Lit.int .i64 s.to).wf = true
def spCells (s : Sp) : List Value := [.int .i64 s.mark, .int .i64 s.fr, .int .i64 s.to]
def spVal (s : Sp) : Value := .agg #[.int .i64 s.mark, .int .i64 s.fr, .int .i64 s.to]
theorem sp_open {A : Nat → Prop} {w : World} {cs : List Value} {s : Sp} (h : kSp.rep A w cs s) : cs = spCells s ∧ SpWf s := by
  obtain ⟨_, _, rfl, ⟨rfl, h1⟩, _, _, rfl, ⟨rfl, h2⟩, rfl, h3⟩ := h
  exact ⟨rfl, h1, h2, h3⟩
theorem sp_rep {A : Nat → Prop} {w : World} {s : Sp} (h : SpWf s) : kSp.rep A w (spCells s) s :=
  ⟨_, _, rfl, ⟨rfl, h.mark⟩, _, _, rfl, ⟨rfl, h.fr⟩, rfl, h.upto⟩
theorem sp_cells {A : Nat → Prop} {w : World} {b o : Nat} {l : List Sp} (h : Elems kSp A w b o l) {i : Nat} (hi : i < l.length) :
    SpWf l[i] ∧ w.cell? ⟨b, o + i * 3, none⟩ = some (.int .i64 l[i].mark) ∧ w.cell? ⟨b, o + i * 3 + 1, none⟩ = some (.int .i64 l[i].fr) ∧ w.cell? ⟨b, o + i * 3 + 2, none⟩ = some (.int .i64 l[i].to) := by
  obtain ⟨cs, h1, h2⟩ := h.cell hi
  obtain ⟨rfl, hw⟩ := sp_open h1
  exact ⟨hw, h2 0 (by decide), h2 1 (by decide), h2 2 (by decide)⟩
def kStr8 : Knd (List UInt8) := kMap kStr fun l => ⟨l.toArray⟩
theorem reads_str8 : Reads Tryz.prog 9 kStr8 := reads_map (fun x => x.data.toList) (fun _ => rfl) (reads_str Tryz.underlying9 (by kernel_rfl))
def kEn : Knd En :=
  kMap (kPair (kInt .i64) (kPair (kInt .i64) (kPair (kInt .i64) (kPair kInts (kPair (kInt .i64) (kPair (kInt .i64) (kPair (kInt .i64) (kPair (kInt .i64) (kPair (kInt .i64) (kPair (kInt .i64) (kPair kInts (kPair kSps kStr8))))))))))))
    fun e => (e.author, e.seq, e.day, e.knows, e.kind, e.circle, e.who, e.n, e.m, e.ref, e.keys, e.spans, e.text)
theorem reads_en : Reads Tryz.prog 25 kEn :=
  reads_map (fun x => ⟨x.1, x.2.1, x.2.2.1, x.2.2.2.1, x.2.2.2.2.1, x.2.2.2.2.2.1, x.2.2.2.2.2.2.1, x.2.2.2.2.2.2.2.1, x.2.2.2.2.2.2.2.2.1, x.2.2.2.2.2.2.2.2.2.1, x.2.2.2.2.2.2.2.2.2.2.1, x.2.2.2.2.2.2.2.2.2.2.2.1, x.2.2.2.2.2.2.2.2.2.2.2.2⟩) (fun _ => rfl) (reads_struct Tryz.underlying25
    (tail_cons rfl rfl (reads_int Tryz.underlying3 (by kernel_rfl)) (tail_cons rfl rfl (reads_int Tryz.underlying3 (by kernel_rfl)) (tail_cons rfl rfl (reads_int Tryz.underlying3 (by kernel_rfl)) (tail_cons rfl rfl reads_ints
      (tail_cons rfl rfl (reads_int Tryz.underlying3 (by kernel_rfl)) (tail_cons rfl rfl (reads_int Tryz.underlying3 (by kernel_rfl)) (tail_cons rfl rfl (reads_int Tryz.underlying3 (by kernel_rfl)) (tail_cons rfl rfl (reads_int Tryz.underlying3 (by kernel_rfl))
        (tail_cons rfl rfl (reads_int Tryz.underlying3 (by kernel_rfl)) (tail_cons rfl rfl (reads_int Tryz.underlying3 (by kernel_rfl)) (tail_cons rfl rfl reads_ints (tail_cons rfl rfl reads_sps (tail_last rfl rfl reads_str8 (by kernel_rfl)))))))))))))))
end Go.Proofs.YtdcahnkcnbhknaaGreatDoor
namespace Go.Proofs.YtdcahnkcnbhknaaGreatDoor
open Go.RowKit Go.Deep

theorem ret_dec {p q : Prop} [Decidable p] [Decidable q] (h : p ↔ q) : Ending.returned (.bool (decide p)) = .returned (.bool (decide q)) := by rw [decide_eq_decide.2 h]
theorem ret_f {q : Prop} [Decidable q] (h : ¬ q) : Ending.returned (.bool false) = .returned (.bool (decide q)) := by rw [decide_eq_false h]
theorem ret_t {q : Prop} [Decidable q] (h : q) : Ending.returned (.bool true) = .returned (.bool (decide q)) := by rw [decide_eq_true h]
theorem ret_b {b : Bool} {q : Prop} [Decidable q] (h : b = true ↔ q) : Ending.returned (.bool b) = .returned (.bool (decide q)) := by rw [← decide_eq_decide.2 h]; cases b <;> rfl
theorem mark_any (n : Int) (w : World) : Calls Tryz.prog 62 #[.int .i64 n] w fun e w' => e = .returned (.bool (decide (markP n))) ∧ w = w' := by
  go_enter Tryz.func62, Tryz.ntmps62
  go_wp2
  all_goals
    go_ret
    exact ⟨by first | exact ret_dec (by unfold markP; omega) | exact ret_f (by unfold markP; omega), rfl⟩
theorem key_any (n : Int) (w : World) : Calls Tryz.prog 58 #[.int .i64 n] w fun e w' => e = .returned (.bool (decide (keyP n))) ∧ w = w' := by
  go_enter Tryz.func58, Tryz.ntmps58
  go_wp2
  all_goals
    go_ret
    exact ⟨by first | exact ret_dec (by unfold keyP; omega) | exact ret_f (by unfold keyP; omega), rfl⟩
theorem day_any (n : Int) (w : World) : Calls Tryz.prog 59 #[.int .i64 n] w fun e w' => e = .returned (.bool (decide (dayP n))) ∧ w = w' := by
  go_enter Tryz.func59, Tryz.ntmps59
  go_wp2
  all_goals
    go_ret
    exact ⟨by first | exact ret_dec (by unfold dayP; omega) | exact ret_f (by unfold dayP; omega), rfl⟩
theorem valid_any (s : Sp) (w : World) : Calls Tryz.prog 87 #[spVal s] w fun e w' => e = .returned (.bool (decide s.Ok)) ∧ Upd (fun _ => False) w w' := by
  unfold spVal
  go_enter Tryz.func87, Tryz.ntmps87
  go_wp2_with (go_at_call 62; refine (mark_any _ _).mono ?_; rintro e w' ⟨rfl, rfl⟩)
  all_goals
    go_ret
    exact ⟨by simp only [markP] at *; first | exact ret_dec (by unfold Sp.Ok; omega) | exact ret_f (by unfold Sp.Ok; omega), (Upd.refl _ _).alloc _⟩
/-- An entry by value. -/
def enV (e : En) (a1 a2 a3 : Option Addr) (c1 c2 c3 : Nat) : Value := .agg #[.int .i64 e.author, .int .i64 e.seq, .int .i64 e.day, .slice a1 e.knows.length c1, .int .i64 e.kind, .int .i64 e.circle, .int .i64 e.who, .int .i64 e.n, .int .i64 e.m, .int .i64 e.ref, .slice a2 e.keys.length c2, .slice a3 e.spans.length c3, .string ⟨e.text.toArray⟩]
end Go.Proofs.YtdcahnkcnbhknaaGreatDoor
namespace Go.Proofs.YtdcahnkcnbhknaaGreatDoor
open Go.RowKit Go.Deep

theorem sp_ext_iff (a b : Sp) : a = b ↔ a.mark = b.mark ∧ a.fr = b.fr ∧ a.to = b.to := by
  cases a; cases b; simp
theorem neq_sp (a b : Sp) (w : World) : (binOp .neq 39 (.agg #[.int .i64 a.mark, .int .i64 a.fr, .int .i64 a.to]) (.agg #[.int .i64 b.mark, .int .i64 b.fr, .int .i64 b.to])).run Tryz.prog w = .ok (.bool (decide (¬ a = b))) w := by
  rw [run_neq_struct, run_equalIn_agg w 9999 39 _ _ (by kernel_rfl) (by kernel_rfl)]
  simp only [Program.fieldsOf, Tryz.underlying39]
  go_simp
  simp only [sp_ext_iff]
  by_cases h1 : a.mark = b.mark <;> by_cases h2 : a.fr = b.fr <;> by_cases h3 : a.to = b.to <;> simp [h1, h2, h3]
theorem neq_yes {a b : Sp} (h : ¬ a = b) (w : World) : (binOp .neq 39 (.agg #[.int .i64 a.mark, .int .i64 a.fr, .int .i64 a.to]) (.agg #[.int .i64 b.mark, .int .i64 b.fr, .int .i64 b.to])).run Tryz.prog w = .ok (.bool true) w := by rw [neq_sp, decide_eq_true h]
theorem neq_no (a : Sp) (w : World) : (binOp .neq 39 (.agg #[.int .i64 a.mark, .int .i64 a.fr, .int .i64 a.to]) (.agg #[.int .i64 a.mark, .int .i64 a.fr, .int .i64 a.to])).run Tryz.prog w = .ok (.bool false) w := by rw [neq_sp, decide_eq_false (fun h => h rfl)]

set_option maxHeartbeats 1000000 in
theorem eqInts_any (v1 v2 : Value) (l1 l2 : List Int) (A1 A2 : Nat → Prop) (w : World) (h1 : kInts.rep A1 w [v1] l1) (h2 : kInts.rep A2 w [v2] l2) (hA1 : ∀ b, A1 b → b < w.heap.size) (hA2 : ∀ b, A2 b → b < w.heap.size) :
    Calls Tryz.prog 84 #[v1, v2] w fun e w' => e = .returned (.bool (decide (l1 = l2))) ∧ Upd (fun _ => False) w w' := by
  obtain ⟨a1, cap1, rfl, p1, p2, p3⟩ := slice_open h1
  obtain ⟨a2, cap2, rfl, q1, q2, q3⟩ := slice_open h2
  have p2 : cap1 ≤ 9223372036854775807 := p2
  have q2 : cap2 ≤ 9223372036854775807 := q2
  have H1 := hid p3; have H2 := hid q3; have HA1 := hid hA1; have HA2 := hid hA2
  clear h1 h2 p3 q3 hA1 hA2
  by_cases hlen : l1.length = l2.length
  · have hb : ((l1.length : Int) != l2.length) = false := by rw [hlen]; simp
    have hb2 : (l1.length != l2.length) = false := by rw [hlen]; simp
    have HL := hid hlen
    clear hlen
    go_enter Tryz.func84, Tryz.ntmps84
    go_wp2_with fail
    go_loopg [5, 13] l1.length (fun gg _ s wr => ∃ k : Nat, k ≤ l1.length ∧ gg = l1.length - k ∧ s = .int .i64 k ∧ (∀ i (h : i < l1.length) (h' : i < l2.length), i < k → l1[i] = l2[i]) ∧ Upd (fun _ => False) w wr)
    case atStart => exact ⟨0, Nat.zero_le _, by omega, rfl, fun i _ _ h => absurd h (Nat.not_lt_zero _), Upd.refl _ _⟩
    case round =>
      obtain ⟨k, hk, hg, rfl, he, u⟩ := hrel
      have UU := hid u; have HG := hid hg; have EQ := hid he
      clear u hg he
      by_cases hlt : k < l1.length
      · obtain ⟨b1, o1, rfl, hb1, hel1⟩ := H1.out (by omega)
        have hlt2 : k < l2.length := by have := HL.out; omega
        obtain ⟨b2, o2, rfl, hb2', hel2⟩ := H2.out (by omega)
        have hb1 := HA1.out _ hb1
        have hb2' := HA2.out _ hb2'
        have m1 := cell_kept (int_cells hel1 hlt) (UU.out.block b1 hb1 id)
        have m2 := cell_kept (int_cells hel2 hlt2) (UU.out.block b2 hb2' id)
        have hlti : (k : Int) < l1.length := by omega
        have hlti2 : (k : Int) < l2.length := by omega
        have hk1 : (k : Int) + 1 ≤ 9223372036854775807 := by omega
        clear hel1 hel2
        by_cases hx : l1[k] = l2[k]
        · skip
          have hxb : (l1[k] != l2[k]) = false := by rw [hx]; simp
          have HX := hid hx
          clear hx
          go_wp2_with fail
          go_quiet (fail)
          go_wp2_with fail
          go_roundg (l1.length - (k + 1))
          case measure => have := HG.out; omega
          case rel =>
            refine ⟨k + 1, by omega, rfl, by go_num, fun i h h' hi => ?_, UU.out.drewN _⟩
            by_cases e : i = k
            · subst e; exact HX.out
            · exact EQ.out i h h' (by omega)
        · have hd : (l1 = l2) = False := eq_false fun e => hx (by simp [e])
          have HD := hid hd
          clear hd
          have hxb : (l1[k] != l2[k]) = true := by simpa using hx
          clear hx
          go_wp2_with fail
          go_quiet (fail)
          go_wp2_with fail
          go_ret
          exact ⟨by rw [decide_eq_false (of_eq_false HD.out)]; rfl, UU.out.drewN _⟩
      · have hd : l1 = l2 := List.ext_getElem HL.out fun i h h' => EQ.out i h h' (by omega)
        obtain rfl : k = l1.length := by omega
        have HD := hid hd
        clear hd
        go_wp2_with fail
        go_ret
        exact ⟨by rw [decide_eq_true HD.out]; rfl, UU.out⟩
  · have hb : ((l1.length : Int) != l2.length) = true := by rw [bne_iff_ne]; omega
    have hb2 : (l1.length != l2.length) = true := by rw [bne_iff_ne]; omega
    have hd : ¬ l1 = l2 := fun e => hlen (by rw [e])
    have HD := hid hd
    clear hd hlen
    go_enter Tryz.func84, Tryz.ntmps84
    go_wp2_with fail
    go_ret
    exact ⟨by rw [decide_eq_false HD.out]; rfl, Upd.refl _ _⟩
set_option maxHeartbeats 1000000 in
theorem refInts_any (v1 v2 : Value) (l1 l2 : List Int) (A1 A2 : Nat → Prop) (w : World) (h1 : kInts.rep A1 w [v1] l1) (h2 : kInts.rep A2 w [v2] l2) (hA1 : ∀ b, A1 b → b < w.heap.size) (hA2 : ∀ b, A2 b → b < w.heap.size) :
    Calls Tryz.prog 57 #[v1, v2] w fun e w' => e = .returned (.bool (decide (l1 = l2))) ∧ Upd (fun _ => False) w w' := by
  obtain ⟨a1, cap1, rfl, p1, p2, p3⟩ := slice_open h1
  obtain ⟨a2, cap2, rfl, q1, q2, q3⟩ := slice_open h2
  have p2 : cap1 ≤ 9223372036854775807 := p2
  have q2 : cap2 ≤ 9223372036854775807 := q2
  have H1 := hid p3; have H2 := hid q3; have HA1 := hid hA1; have HA2 := hid hA2
  clear h1 h2 p3 q3 hA1 hA2
  by_cases hlen : l1.length = l2.length
  · have hb : ((l1.length : Int) != l2.length) = false := by rw [hlen]; simp
    have hb2 : (l1.length != l2.length) = false := by rw [hlen]; simp
    have HL := hid hlen
    clear hlen
    go_enter Tryz.func57, Tryz.ntmps57
    go_wp2_with fail
    go_loopg [5] l1.length (fun gg s wr => ∃ k : Nat, k ≤ l1.length ∧ gg = l1.length - k ∧ s = .int .i64 k ∧ (∀ i (h : i < l1.length) (h' : i < l2.length), i < k → l1[i] = l2[i]) ∧ Upd (fun _ => False) w wr)
    case atStart => exact ⟨0, Nat.zero_le _, by omega, rfl, fun i _ _ h => absurd h (Nat.not_lt_zero _), Upd.refl _ _⟩
    case round =>
      obtain ⟨k, hk, hg, rfl, he, u⟩ := hrel
      have UU := hid u; have HG := hid hg; have EQ := hid he
      clear u hg he
      by_cases hlt : k < l1.length
      · obtain ⟨b1, o1, rfl, hb1, hel1⟩ := H1.out (by omega)
        have hlt2 : k < l2.length := by have := HL.out; omega
        obtain ⟨b2, o2, rfl, hb2', hel2⟩ := H2.out (by omega)
        have hb1 := HA1.out _ hb1
        have hb2' := HA2.out _ hb2'
        have m1 := cell_kept (int_cells hel1 hlt) (UU.out.block b1 hb1 id)
        have m2 := cell_kept (int_cells hel2 hlt2) (UU.out.block b2 hb2' id)
        have hlti : (k : Int) < l1.length := by omega
        have hlti2 : (k : Int) < l2.length := by omega
        have hk1 : (k : Int) + 1 ≤ 9223372036854775807 := by omega
        clear hel1 hel2
        by_cases hx : l1[k] = l2[k]
        · skip
          have hxb : (l1[k] != l2[k]) = false := by rw [hx]; simp
          have HX := hid hx
          clear hx
          go_wp2_with fail
          go_quiet (fail)
          go_wp2_with fail
          go_roundg (l1.length - (k + 1))
          case measure => have := HG.out; omega
          case rel =>
            refine ⟨k + 1, by omega, rfl, by go_num, fun i h h' hi => ?_, UU.out.drewN _⟩
            by_cases e : i = k
            · subst e; exact HX.out
            · exact EQ.out i h h' (by omega)
        · have hd : (l1 = l2) = False := eq_false fun e => hx (by simp [e])
          have HD := hid hd
          clear hd
          have hxb : (l1[k] != l2[k]) = true := by simpa using hx
          clear hx
          go_wp2_with fail
          go_quiet (fail)
          go_wp2_with fail
          go_ret
          exact ⟨by rw [decide_eq_false (of_eq_false HD.out)]; rfl, UU.out.drewN _⟩
      · have hd : l1 = l2 := List.ext_getElem HL.out fun i h h' => EQ.out i h h' (by omega)
        obtain rfl : k = l1.length := by omega
        have HD := hid hd
        clear hd
        go_wp2_with fail
        go_ret
        exact ⟨by rw [decide_eq_true HD.out]; rfl, UU.out⟩
  · have hb : ((l1.length : Int) != l2.length) = true := by rw [bne_iff_ne]; omega
    have hb2 : (l1.length != l2.length) = true := by rw [bne_iff_ne]; omega
    have hd : ¬ l1 = l2 := fun e => hlen (by rw [e])
    have HD := hid hd
    clear hd hlen
    go_enter Tryz.func57, Tryz.ntmps57
    go_wp2_with fail
    go_ret
    exact ⟨by rw [decide_eq_false HD.out]; rfl, Upd.refl _ _⟩
set_option maxHeartbeats 1000000 in
theorem eqSps_any (v1 v2 : Value) (l1 l2 : List Sp) (A1 A2 : Nat → Prop) (w : World) (h1 : kSps.rep A1 w [v1] l1) (h2 : kSps.rep A2 w [v2] l2) (hA1 : ∀ b, A1 b → b < w.heap.size) (hA2 : ∀ b, A2 b → b < w.heap.size) :
    Calls Tryz.prog 85 #[v1, v2] w fun e w' => e = .returned (.bool (decide (l1 = l2))) ∧ Upd (fun _ => False) w w' := by
  obtain ⟨a1, cap1, rfl, p1, p2, p3⟩ := slice_open h1
  obtain ⟨a2, cap2, rfl, q1, q2, q3⟩ := slice_open h2
  have p2 : cap1 ≤ 9223372036854775807 := p2
  have q2 : cap2 ≤ 9223372036854775807 := q2
  have H1 := hid p3; have H2 := hid q3; have HA1 := hid hA1; have HA2 := hid hA2
  clear h1 h2 p3 q3 hA1 hA2
  by_cases hlen : l1.length = l2.length
  · have hb : ((l1.length : Int) != l2.length) = false := by rw [hlen]; simp
    have hb2 : (l1.length != l2.length) = false := by rw [hlen]; simp
    have HL := hid hlen
    clear hlen
    go_enter Tryz.func85, Tryz.ntmps85
    go_wp2_with fail
    go_loopg [5, 13] l1.length (fun gg _ s wr => ∃ k : Nat, k ≤ l1.length ∧ gg = l1.length - k ∧ s = .int .i64 k ∧ (∀ i (h : i < l1.length) (h' : i < l2.length), i < k → l1[i] = l2[i]) ∧ Upd (fun _ => False) w wr)
    case atStart => exact ⟨0, Nat.zero_le _, by omega, rfl, fun i _ _ h => absurd h (Nat.not_lt_zero _), Upd.refl _ _⟩
    case round =>
      obtain ⟨k, hk, hg, rfl, he, u⟩ := hrel
      have UU := hid u; have HG := hid hg; have EQ := hid he
      clear u hg he
      by_cases hlt : k < l1.length
      · obtain ⟨b1, o1, rfl, hb1, hel1⟩ := H1.out (by omega)
        have hlt2 : k < l2.length := by have := HL.out; omega
        obtain ⟨b2, o2, rfl, hb2', hel2⟩ := H2.out (by omega)
        have hb1 := HA1.out _ hb1
        have hb2' := HA2.out _ hb2'
        obtain ⟨wa, m0, m1, m2⟩ := sp_cells hel1 hlt
        obtain ⟨wb, n0, n1, n2⟩ := sp_cells hel2 hlt2
        have m0 := cell_kept m0 (UU.out.block b1 hb1 id)
        have m1 := cell_kept m1 (UU.out.block b1 hb1 id)
        have m2 := cell_kept m2 (UU.out.block b1 hb1 id)
        have n0 := cell_kept n0 (UU.out.block b2 hb2' id)
        have n1 := cell_kept n1 (UU.out.block b2 hb2' id)
        have n2 := cell_kept n2 (UU.out.block b2 hb2' id)
        clear wa wb
        have hlti : (k : Int) < l1.length := by omega
        have hlti2 : (k : Int) < l2.length := by omega
        have hk1 : (k : Int) + 1 ≤ 9223372036854775807 := by omega
        clear hel1 hel2
        by_cases hx : l1[k] = l2[k]
        · skip
          have HX := hid hx
          rw [hx] at m0 m1 m2
          have hq := fun w => neq_no l2[k] w
          clear hx
          go_wp2_with fail
          go_quiet (fail)
          go_wp2_with fail
          go_roundg (l1.length - (k + 1))
          case measure => have := HG.out; omega
          case rel =>
            refine ⟨k + 1, by omega, rfl, by go_num, fun i h h' hi => ?_, UU.out.drewN _⟩
            by_cases e : i = k
            · subst e; exact HX.out
            · exact EQ.out i h h' (by omega)
        · have hd : (l1 = l2) = False := eq_false fun e => hx (by simp [e])
          have HD := hid hd
          clear hd
          have hq := fun w => neq_yes hx w
          clear hx
          go_wp2_with fail
          go_quiet (fail)
          go_wp2_with fail
          go_ret
          exact ⟨by rw [decide_eq_false (of_eq_false HD.out)]; rfl, UU.out.drewN _⟩
      · have hd : l1 = l2 := List.ext_getElem HL.out fun i h h' => EQ.out i h h' (by omega)
        obtain rfl : k = l1.length := by omega
        have HD := hid hd
        clear hd
        go_wp2_with fail
        go_ret
        exact ⟨by rw [decide_eq_true HD.out]; rfl, UU.out⟩
  · have hb : ((l1.length : Int) != l2.length) = true := by rw [bne_iff_ne]; omega
    have hb2 : (l1.length != l2.length) = true := by rw [bne_iff_ne]; omega
    have hd : ¬ l1 = l2 := fun e => hlen (by rw [e])
    have HD := hid hd
    clear hd hlen
    go_enter Tryz.func85, Tryz.ntmps85
    go_wp2_with fail
    go_ret
    exact ⟨by rw [decide_eq_false HD.out]; rfl, Upd.refl _ _⟩
set_option maxHeartbeats 1000000 in
theorem refSps_any (v1 v2 : Value) (l1 l2 : List Sp) (A1 A2 : Nat → Prop) (w : World) (h1 : kSps.rep A1 w [v1] l1) (h2 : kSps.rep A2 w [v2] l2) (hA1 : ∀ b, A1 b → b < w.heap.size) (hA2 : ∀ b, A2 b → b < w.heap.size) :
    Calls Tryz.prog 28 #[v1, v2] w fun e w' => e = .returned (.bool (decide (l1 = l2))) ∧ Upd (fun _ => False) w w' := by
  obtain ⟨a1, cap1, rfl, p1, p2, p3⟩ := slice_open h1
  obtain ⟨a2, cap2, rfl, q1, q2, q3⟩ := slice_open h2
  have p2 : cap1 ≤ 9223372036854775807 := p2
  have q2 : cap2 ≤ 9223372036854775807 := q2
  have H1 := hid p3; have H2 := hid q3; have HA1 := hid hA1; have HA2 := hid hA2
  clear h1 h2 p3 q3 hA1 hA2
  by_cases hlen : l1.length = l2.length
  · have hb : ((l1.length : Int) != l2.length) = false := by rw [hlen]; simp
    have hb2 : (l1.length != l2.length) = false := by rw [hlen]; simp
    have HL := hid hlen
    clear hlen
    go_enter Tryz.func28, Tryz.ntmps28
    go_wp2_with fail
    go_loopg [5] l1.length (fun gg s wr => ∃ k : Nat, k ≤ l1.length ∧ gg = l1.length - k ∧ s = .int .i64 k ∧ (∀ i (h : i < l1.length) (h' : i < l2.length), i < k → l1[i] = l2[i]) ∧ Upd (fun _ => False) w wr)
    case atStart => exact ⟨0, Nat.zero_le _, by omega, rfl, fun i _ _ h => absurd h (Nat.not_lt_zero _), Upd.refl _ _⟩
    case round =>
      obtain ⟨k, hk, hg, rfl, he, u⟩ := hrel
      have UU := hid u; have HG := hid hg; have EQ := hid he
      clear u hg he
      by_cases hlt : k < l1.length
      · obtain ⟨b1, o1, rfl, hb1, hel1⟩ := H1.out (by omega)
        have hlt2 : k < l2.length := by have := HL.out; omega
        obtain ⟨b2, o2, rfl, hb2', hel2⟩ := H2.out (by omega)
        have hb1 := HA1.out _ hb1
        have hb2' := HA2.out _ hb2'
        obtain ⟨wa, m0, m1, m2⟩ := sp_cells hel1 hlt
        obtain ⟨wb, n0, n1, n2⟩ := sp_cells hel2 hlt2
        have m0 := cell_kept m0 (UU.out.block b1 hb1 id)
        have m1 := cell_kept m1 (UU.out.block b1 hb1 id)
        have m2 := cell_kept m2 (UU.out.block b1 hb1 id)
        have n0 := cell_kept n0 (UU.out.block b2 hb2' id)
        have n1 := cell_kept n1 (UU.out.block b2 hb2' id)
        have n2 := cell_kept n2 (UU.out.block b2 hb2' id)
        clear wa wb
        have hlti : (k : Int) < l1.length := by omega
        have hlti2 : (k : Int) < l2.length := by omega
        have hk1 : (k : Int) + 1 ≤ 9223372036854775807 := by omega
        clear hel1 hel2
        by_cases hx : l1[k] = l2[k]
        · skip
          have HX := hid hx
          rw [hx] at m0 m1 m2
          have hq := fun w => neq_no l2[k] w
          clear hx
          go_wp2_with fail
          go_quiet (fail)
          go_wp2_with fail
          go_roundg (l1.length - (k + 1))
          case measure => have := HG.out; omega
          case rel =>
            refine ⟨k + 1, by omega, rfl, by go_num, fun i h h' hi => ?_, UU.out.drewN _⟩
            by_cases e : i = k
            · subst e; exact HX.out
            · exact EQ.out i h h' (by omega)
        · have hd : (l1 = l2) = False := eq_false fun e => hx (by simp [e])
          have HD := hid hd
          clear hd
          have hq := fun w => neq_yes hx w
          clear hx
          go_wp2_with fail
          go_quiet (fail)
          go_wp2_with fail
          go_ret
          exact ⟨by rw [decide_eq_false (of_eq_false HD.out)]; rfl, UU.out.drewN _⟩
      · have hd : l1 = l2 := List.ext_getElem HL.out fun i h h' => EQ.out i h h' (by omega)
        obtain rfl : k = l1.length := by omega
        have HD := hid hd
        clear hd
        go_wp2_with fail
        go_ret
        exact ⟨by rw [decide_eq_true HD.out]; rfl, UU.out⟩
  · have hb : ((l1.length : Int) != l2.length) = true := by rw [bne_iff_ne]; omega
    have hb2 : (l1.length != l2.length) = true := by rw [bne_iff_ne]; omega
    have hd : ¬ l1 = l2 := fun e => hlen (by rw [e])
    have HD := hid hd
    clear hd hlen
    go_enter Tryz.func28, Tryz.ntmps28
    go_wp2_with fail
    go_ret
    exact ⟨by rw [decide_eq_false HD.out]; rfl, Upd.refl _ _⟩
end Go.Proofs.YtdcahnkcnbhknaaGreatDoor
