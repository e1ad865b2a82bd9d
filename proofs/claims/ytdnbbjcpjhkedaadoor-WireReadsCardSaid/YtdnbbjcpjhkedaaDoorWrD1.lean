/- The statements' helpers: comparing lists; values. -/
import Derived.Test.YtdnbbjcpjhkedaaDoorWrC3
namespace Go.Proofs.YtdnbbjcpjhkedaaDoor
open Go.RowKit Go.Deep

set_option maxHeartbeats 1000000 in
theorem sameNums_any (v1 v2 : Value) (l1 l2 : List Int) (w : World) (h1 : kInts.rep (· < w.heap.size) w [v1] l1) (h2 : kInts.rep (· < w.heap.size) w [v2] l2) :
    Calls Tryd.prog 36 #[v1, v2] w fun e w' => e = .returned (.bool (l1 == l2)) ∧ Upd (fun _ => False) w w' := by
  obtain ⟨a1, cap1, rfl, p1, p2, p3⟩ := slice_open h1
  obtain ⟨a2, cap2, rfl, q1, q2, q3⟩ := slice_open h2
  have p2 : cap1 ≤ 9223372036854775807 := p2
  have q2 : cap2 ≤ 9223372036854775807 := q2
  have H1 := hid p3; have H2 := hid q3
  clear h1 h2 p3 q3
  by_cases hlen : l1.length = l2.length
  · have hb : ((l1.length : Int) != l2.length) = false := by rw [hlen]; simp
    have hb2 : (l1.length != l2.length) = false := by rw [hlen]; simp
    have HL := hid hlen
    clear hlen
    go_enter Tryd.func36, Tryd.ntmps36
    go_wp2_with fail
    go_loopg [5] l1.length (fun gg s5 wr => ∃ k : Nat, k ≤ l1.length ∧ gg = l1.length - k ∧ s5 = .int .i64 k ∧ (∀ i (h : i < l1.length) (h' : i < l2.length), i < k → l1[i] = l2[i]) ∧ Upd (fun _ => False) w wr)
    case atStart => exact ⟨0, Nat.zero_le _, by omega, rfl, fun i _ _ h => absurd h (Nat.not_lt_zero _), Upd.refl _ _⟩
    case round =>
      obtain ⟨k, hk, hg, rfl, he, u⟩ := hrel
      have UU := hid u; have HG := hid hg; have EQ := hid he
      clear u hg he
      by_cases hlt : k < l1.length
      · obtain ⟨b1, o1, rfl, hb1, hel1⟩ := H1.out (by omega)
        have hlt2 : k < l2.length := by have := HL.out; omega
        obtain ⟨b2, o2, rfl, hb2', hel2⟩ := H2.out (by omega)
        have m1 := cell_kept (int_cells hel1 hlt) (UU.out.block b1 hb1 id)
        have m2 := cell_kept (int_cells hel2 hlt2) (UU.out.block b2 hb2' id)
        have hlti : (k : Int) < l1.length := by omega
        have hlti2 : (k : Int) < l2.length := by omega
        clear hel1 hel2
        by_cases hx : l1[k] = l2[k]
        · have hxb : (l1[k] != l2[k]) = false := by rw [hx]; simp
          have HX := hid hx
          clear hx
          go_wp2_with fail
          go_quiet (fail)
          go_wp2_with fail
          go_roundg (l1.length - (k + 1))
          case measure => have := HG.out; omega
          case rel =>
            refine ⟨k + 1, by omega, rfl, by go_num, fun i h h' hi => ?_, UU.out.drewN _⟩
            by_cases e : i = k
            · subst e; exact HX.out
            · exact EQ.out i h h' (by omega)
        · have hxb : (l1[k] != l2[k]) = true := by simpa using hx
          have hd : (l1 == l2) = false := beq_eq_false_iff_ne.2 fun e => hx (by simp [e])
          have HD := hid hd
          clear hx hd
          go_wp2_with fail
          go_quiet (fail)
          go_wp2_with fail
          go_ret
          exact ⟨by rw [HD.out]; rfl, UU.out.drewN _⟩
      · have hd : (l1 == l2) = true := beq_iff_eq.2 (List.ext_getElem HL.out fun i h h' => EQ.out i h h' (by omega))
        obtain rfl : k = l1.length := by omega
        have HD := hid hd
        clear hd
        go_wp2_with fail
        go_ret
        exact ⟨by rw [HD.out]; rfl, UU.out⟩
  · have hb : ((l1.length : Int) != l2.length) = true := by rw [bne_iff_ne]; omega
    have hb2 : (l1.length != l2.length) = true := by rw [bne_iff_ne]; omega
    have hd : (l1 == l2) = false := beq_eq_false_iff_ne.2 fun e => hlen (by rw [e])
    have HD := hid hd
    clear hd hlen
    go_enter Tryd.func36, Tryd.ntmps36
    go_wp2_with fail
    go_ret
    exact ⟨by rw [HD.out]; rfl, Upd.refl _ _⟩

set_option maxHeartbeats 1000000 in
theorem sameTexts_any (v1 v2 : Value) (l1 l2 : List (List UInt8)) (w : World) (h1 : kStrs.rep (· < w.heap.size) w [v1] l1) (h2 : kStrs.rep (· < w.heap.size) w [v2] l2) :
    Calls Tryd.prog 38 #[v1, v2] w fun e w' => e = .returned (.bool (l1 == l2)) ∧ Upd (fun _ => False) w w' := by
  obtain ⟨a1, cap1, rfl, p1, p2, p3⟩ := slice_open h1
  obtain ⟨a2, cap2, rfl, q1, q2, q3⟩ := slice_open h2
  have p2 : cap1 ≤ 9223372036854775807 := p2
  have q2 : cap2 ≤ 9223372036854775807 := q2
  have H1 := hid p3; have H2 := hid q3
  clear h1 h2 p3 q3
  by_cases hlen : l1.length = l2.length
  · have hb : ((l1.length : Int) != l2.length) = false := by rw [hlen]; simp
    have hb2 : (l1.length != l2.length) = false := by rw [hlen]; simp
    have HL := hid hlen
    clear hlen
    go_enter Tryd.func38, Tryd.ntmps38
    go_wp2_with fail
    go_loopg [5] l1.length (fun gg s5 wr => ∃ k : Nat, k ≤ l1.length ∧ gg = l1.length - k ∧ s5 = .int .i64 k ∧ (∀ i (h : i < l1.length) (h' : i < l2.length), i < k → l1[i] = l2[i]) ∧ Upd (fun _ => False) w wr)
    case atStart => exact ⟨0, Nat.zero_le _, by omega, rfl, fun i _ _ h => absurd h (Nat.not_lt_zero _), Upd.refl _ _⟩
    case round =>
      obtain ⟨k, hk, hg, rfl, he, u⟩ := hrel
      have UU := hid u; have HG := hid hg; have EQ := hid he
      clear u hg he
      by_cases hlt : k < l1.length
      · obtain ⟨b1, o1, rfl, hb1, hel1⟩ := H1.out (by omega)
        have hlt2 : k < l2.length := by have := HL.out; omega
        obtain ⟨b2, o2, rfl, hb2', hel2⟩ := H2.out (by omega)
        have m1 := cell_kept (str_cells hel1 hlt) (UU.out.block b1 hb1 id)
        have m2 := cell_kept (str_cells hel2 hlt2) (UU.out.block b2 hb2' id)
        have hlti : (k : Int) < l1.length := by omega
        have hlti2 : (k : Int) < l2.length := by omega
        clear hel1 hel2
        by_cases hx : l1[k] = l2[k]
        · have hxb : (l1[k] == l2[k]) = true := by rw [hx]; simp
          have HX := hid hx
          clear hx
          go_wp2_with fail
          go_quiet (fail)
          go_wp2_with fail
          go_roundg (l1.length - (k + 1))
          case measure => have := HG.out; omega
          case rel =>
            refine ⟨k + 1, by omega, rfl, by go_num, fun i h h' hi => ?_, UU.out.drewN _⟩
            by_cases e : i = k
            · subst e; exact HX.out
            · exact EQ.out i h h' (by omega)
        · have hxb : (l1[k] == l2[k]) = false := by simpa using hx
          have hd : (l1 == l2) = false := beq_eq_false_iff_ne.2 fun e => hx (by simp [e])
          have HD := hid hd
          clear hx hd
          go_wp2_with fail
          go_quiet (fail)
          go_wp2_with fail
          go_ret
          exact ⟨by rw [HD.out]; rfl, UU.out.drewN _⟩
      · have hd : (l1 == l2) = true := beq_iff_eq.2 (List.ext_getElem HL.out fun i h h' => EQ.out i h h' (by omega))
        obtain rfl : k = l1.length := by omega
        have HD := hid hd
        clear hd
        go_wp2_with fail
        go_ret
        exact ⟨by rw [HD.out]; rfl, UU.out⟩
  · have hb : ((l1.length : Int) != l2.length) = true := by rw [bne_iff_ne]; omega
    have hb2 : (l1.length != l2.length) = true := by rw [bne_iff_ne]; omega
    have hd : (l1 == l2) = false := beq_eq_false_iff_ne.2 fun e => hlen (by rw [e])
    have HD := hid hd
    clear hd hlen
    go_enter Tryd.func38, Tryd.ntmps38
    go_wp2_with fail
    go_ret
    exact ⟨by rw [HD.out]; rfl, Upd.refl _ _⟩

/-- A value to write. -/
structure Vl where
  kind : Int
  n : Int
  s : List UInt8
  l : List Int
  t : List (List UInt8)
def kStr8 : Knd (List UInt8) := kMap kStr fun l => ⟨l.toArray⟩
def kVl : Knd Vl := kMap (kPair (kInt .i64) (kPair (kInt .i64) (kPair kStr8 (kPair kInts kStrs)))) fun v => (v.kind, v.n, v.s, v.l, v.t)
theorem reads_str8 : Reads Tryd.prog 9 kStr8 := reads_map (fun x => x.data.toList) (fun _ => rfl) (reads_str Tryd.underlying9 (by kernel_rfl))
theorem reads_vl : Reads Tryd.prog 25 kVl :=
  reads_map (fun x => ⟨x.1, x.2.1, x.2.2.1, x.2.2.2.1, x.2.2.2.2⟩) (fun _ => rfl) (reads_struct Tryd.underlying25
    (tail_cons rfl rfl (reads_int Tryd.underlying3 (by kernel_rfl)) (tail_cons rfl rfl (reads_int Tryd.underlying3 (by kernel_rfl)) (tail_cons rfl rfl reads_str8 (tail_cons rfl rfl reads_ints (tail_last rfl rfl reads_strs (by kernel_rfl)))))))
theorem reads_vls : Reads Tryd.prog 28 (kSlice kVl) := reads_slice Tryd.underlying28 (by kernel_rfl) reads_vl (by decide)
/-- The five cells of a value. -/
theorem vl_open {A : Nat → Prop} {w : World} {cs : List Value} {v : Vl} (h : kVl.rep A w cs v) : ∃ a c d f, cs = [.int .i64 v.kind, .int .i64 v.n, .string ⟨v.s.toArray⟩, .slice a v.l.length c, .slice d v.t.length f] ∧ v.l.length ≤ c ∧ c ≤ maxLen ∧ v.t.length ≤ f ∧ f ≤ maxLen ∧ (Lit.int .i64 v.kind).wf = true ∧ (Lit.int .i64 v.n).wf = true ∧ v.s.length ≤ maxLen ∧
    kInts.rep A w [.slice a v.l.length c] v.l ∧ kStrs.rep A w [.slice d v.t.length f] v.t := by
  obtain ⟨_, _, rfl, ⟨rfl, h1⟩, _, _, rfl, ⟨rfl, h2⟩, _, _, rfl, ⟨rfl, h3⟩, x, y, rfl, h4, h5⟩ := h
  obtain ⟨x, rfl⟩ := List.length_eq_one_iff.1 (kInts.len h4)
  obtain ⟨y, rfl⟩ := List.length_eq_one_iff.1 (kStrs.len h5)
  obtain ⟨a, c, rfl, g1, g2, _⟩ := slice_open h4
  obtain ⟨d, f, rfl, g3, g4, _⟩ := slice_open h5
  exact ⟨a, c, d, f, rfl, g1, g2, g3, g4, h1, h2, by simpa [ByteArray.size] using h3, h4, h5⟩
theorem vl_cells {A : Nat → Prop} {w : World} {b o : Nat} {l : List Vl} (h : Elems kVl A w b o l) {i : Nat} (hi : i < l.length) :
    ∃ a c d f, (l[i].l.length ≤ c ∧ c ≤ maxLen ∧ l[i].t.length ≤ f ∧ f ≤ maxLen ∧ (Lit.int .i64 l[i].kind).wf = true ∧ (Lit.int .i64 l[i].n).wf = true ∧ l[i].s.length ≤ maxLen ∧
    kInts.rep A w [.slice a l[i].l.length c] l[i].l ∧ kStrs.rep A w [.slice d l[i].t.length f] l[i].t) ∧
    w.cell? ⟨b, o + i * 5, none⟩ = some (.int .i64 l[i].kind) ∧ w.cell? ⟨b, o + i * 5 + 1, none⟩ = some (.int .i64 l[i].n) ∧ w.cell? ⟨b, o + i * 5 + 2, none⟩ = some (.string ⟨l[i].s.toArray⟩) ∧ w.cell? ⟨b, o + i * 5 + 3, none⟩ = some (.slice a l[i].l.length c) ∧ w.cell? ⟨b, o + i * 5 + 4, none⟩ = some (.slice d l[i].t.length f) := by
  obtain ⟨cs, h1, h2⟩ := h.cell hi
  obtain ⟨a, c, d, f, rfl, g⟩ := vl_open h1
  exact ⟨a, c, d, f, g, h2 0 (by decide), h2 1 (by decide), h2 2 (by decide), h2 3 (by decide), h2 4 (by decide)⟩

def FewV (v : Vl) : Prop := v.s.length ≤ 400 ∧ v.l.length ≤ 400 ∧ v.t.length ≤ 400 ∧ ∀ x ∈ v.t, x.length ≤ 400
def Few (l : List Vl) : Prop := l.length ≤ 20 ∧ ∀ v ∈ l, FewV v
def FewPost (l : List Vl) (w : World) (e : Ending) (w' : World) : Prop := ∃ bx : Bool, e = .returned (.bool bx) ∧ (bx = true → Few l) ∧ Upd (fun _ => False) w w'
theorem few_no {l : List Vl} {w w' : World} (u : Upd (fun _ => False) w w') : FewPost l w (.returned (.bool false)) w' := ⟨false, rfl, (fun h => by cases h), u⟩

set_option maxRecDepth 100000 in
set_option maxHeartbeats 2000000 in
theorem few_any (v : Value) (l : List Vl) (w : World) (hl : (kSlice kVl).rep (· < w.heap.size) w [v] l) :
    Calls Tryd.prog 10 #[v] w (FewPost l w) := by
  have HL := hid hl
  obtain ⟨a, cap, rfl, h1, h2, _⟩ := slice_open hl
  have h2 : cap ≤ 9223372036854775807 := h2
  clear hl
  by_cases h20 : 20 < l.length
  · have h20i : (20 : Int) < l.length := by omega
    go_enter Tryd.func10, Tryd.ntmps10
    go_wp2_with fail
    go_ret
    exact few_no (Upd.refl _ _)
  have h20i : (l.length : Int) ≤ 20 := by omega
  go_enter Tryd.func10, Tryd.ntmps10
  go_wp2_with fail
  go_loopg [3, 4] l.length (fun gg s3 s4 wr => ∃ (i : Nat) (n : Int), i ≤ l.length ∧ gg = l.length - i ∧ s3 = .int .i64 n ∧ s4 = .int .i64 i ∧ (0 ≤ n ∧ n ≤ 200000 * i) ∧ (∀ j (h : j < l.length), j < i → FewV l[j]) ∧ Upd (fun _ => False) w wr)
  case atStart => exact ⟨0, 0, Nat.zero_le _, rfl, rfl, rfl, by omega, fun j _ h => by omega, Upd.refl _ _⟩
  case round =>
    obtain ⟨i, n, hi, hg, rfl, rfl, hn, hf, u⟩ := hrel
    have HG := hid hg; have HF := hid hf; have U := hid u
    clear hg hf u
    by_cases hlt : i < l.length
    · have hlti : (i : Int) < l.length := by omega
      obtain ⟨b, o, ra, hb, hel⟩ := slice_at HL.out (by omega)
      subst ra
      obtain ⟨a1, d1, a2, d2, ⟨g1, g2, g3, g4, _, _, g5, g6, g7⟩, _, _, c2, c3, c4⟩ := vl_cells hel hlt
      have g2 : d1 ≤ 9223372036854775807 := g2
      have g4 : d2 ≤ 9223372036854775807 := g4
      have g5 : l[i].s.length ≤ 9223372036854775807 := g5
      have HT := hid g7
      have c2 := cell_kept c2 (U.out.block b hb id)
      have c3 := cell_kept c3 (U.out.block b hb id)
      have c4 := cell_kept c4 (U.out.block b hb id)
      have fv : FewV l[i] → ∀ j (h : j < l.length), j < i + 1 → FewV l[j] := fun h j hj hji => by
        by_cases e : j = i
        · subst e; exact h
        · exact HF.out j hj (by omega)
      have FV := hid fv
      clear hel g6 g7 fv
      generalize l[i] = v at *
      obtain ⟨vk, vn, vs, vl, vt⟩ := v
      dsimp only at *
      by_cases q1 : 400 < vl.length
      · have q1i : (400 : Int) < vl.length := by omega
        clear q1
        go_wp2_with fail
        go_ret
        exact few_no U.out
      have q1i : (vl.length : Int) ≤ 400 := by omega
      have q1b : decide (400 < (vl.length : Int)) = false := decide_eq_false (by omega)
      have q1n : decide (400 < vl.length) = false := decide_eq_false q1
      by_cases q2 : 400 < vt.length
      · have q2i : (400 : Int) < vt.length := by omega
        clear q1 q2
        go_wp2_with fail
        go_ret
        exact few_no U.out
      have q2i : (vt.length : Int) ≤ 400 := by omega
      have q2b : decide (400 < (vt.length : Int)) = false := decide_eq_false (by omega)
      have q2n : decide (400 < vt.length) = false := decide_eq_false q2
      by_cases q3 : 400 < vs.length
      · have q3i : (400 : Int) < vs.length := by omega
        clear q1 q2 q3
        go_wp2_with fail
        go_ret
        exact few_no U.out
      have q3i : (vs.length : Int) ≤ 400 := by omega
      have q3b : decide (400 < (vs.length : Int)) = false := decide_eq_false (by omega)
      have q3n : decide (400 < vs.length) = false := decide_eq_false q3
      have Q := hid (And.intro q1 (And.intro q2 q3))
      have w1 : IntKind.i64.wrap (n + vs.length) = n + vs.length := IntWalk.i64_in _ (by omega)
      have w2 : IntKind.i64.wrap (n + vs.length + vl.length) = n + vs.length + vl.length := IntWalk.i64_in _ (by omega)
      have w3 : IntKind.i64.wrap (n + vs.length + vl.length + vt.length) = n + vs.length + vl.length + vt.length := IntWalk.i64_in _ (by omega)
      clear q1 q2 q3
      go_upto_region 9 with (fail)
      go_cut [3] (fun s wx => s = .int .i64 (n + vs.length + vl.length + vt.length) ∧ Upd (fun _ => False) wr wx)
      case first =>
        go_wp2_with fail
        go_quiet (fail)
        go_wp2_with fail
        go_meet
        case rel => exact ⟨rfl, (Upd.refl _ _).drewN _⟩
      case rest =>
        obtain ⟨rfl, uc⟩ := hcut
        have U := hid (U.out.trans uc)
        have c4 := cell_kept c4 (uc.block b (World.block_lt_of_cell? _ _ c4) id)
        clear uc w1 w2 w3 c2 c3 q1b q1n q2b q2n q3b q3n
        obtain ⟨n1, HN1⟩ : ∃ n1 : Int, n1 = n + vs.length + vl.length + vt.length := ⟨_, rfl⟩
        have hn1 : 0 ≤ n1 ∧ n1 ≤ 200000 * i + 1200 := by omega
        rw [← HN1]
        clear HN1
        go_wp2_with fail
        have C4 := hid c4
        clear c4
        go_loopg [3, 5] vt.length (fun gg s3 s5 wx => ∃ (k : Nat) (nn : Int), k ≤ vt.length ∧ gg = vt.length - k ∧ s3 = .int .i64 nn ∧ s5 = .int .i64 k ∧ (0 ≤ nn ∧ nn ≤ 200000 * i + 1200 + 400 * k) ∧ (∀ j (h : j < vt.length), j < k → vt[j].length ≤ 400) ∧ Upd (fun _ => False) wc wx)
        case atStart => exact ⟨0, n1, Nat.zero_le _, rfl, rfl, rfl, by omega, fun j _ h => by omega, Upd.refl _ _⟩
        case round =>
          obtain ⟨k, nn, hk, hgk, rfl, rfl, hnn, hf2, u2⟩ := hrel
          have HGK := hid hgk; have HF2 := hid hf2; have U2 := hid u2
          have c4 := cell_kept C4.out (u2.block b (World.block_lt_of_cell? _ _ C4.out) id)
          clear hgk hf2 u2
          by_cases hkl : k < vt.length
          · have hki : (k : Int) < vt.length := by omega
            obtain ⟨b2, o2, ra, hb2, hel2⟩ := slice_at HT.out (by omega)
            subst ra
            have c5 := str_cells hel2 hkl
            have c5 := cell_kept c5 ((U.out.trans U2.out).block b2 hb2 id)
            have fs : vt[k].length ≤ 400 → ∀ j (h : j < vt.length), j < k + 1 → vt[j].length ≤ 400 := fun h j hj hjk => by
              by_cases e : j = k
              · subst e; exact h
              · exact HF2.out j hj (by omega)
            have FS := hid fs
            clear hel2 fs
            generalize vt[k] = x at *
            by_cases qx : 400 < x.length
            · have qxi : (400 : Int) < x.length := by omega
              clear qx
              go_wp2_with fail
              go_ret
              exact few_no (U.out.trans U2.out)
            · have qxi : (x.length : Int) ≤ 400 := by omega
              have QX := hid (FS.out (by omega))
              clear qx
              go_wp2_with fail
              go_roundg (vt.length - (k + 1))
              case measure => have := HGK.out; omega
              case rel => exact ⟨k + 1, _, by omega, rfl, rfl, by go_num, by omega, QX.out, U2.out⟩
          · obtain rfl : k = vt.length := by omega
            have hfv := FV.out ⟨by have := Q.out; dsimp only; omega, by have := Q.out; dsimp only; omega, by have := Q.out; dsimp only; omega, fun x hx => by
              obtain ⟨j, hj, rfl⟩ := List.mem_iff_getElem.1 hx
              exact HF2.out j hj hj⟩
            have HFV := hid hfv
            clear hfv
            go_wp2_with fail
            go_roundg (l.length - (i + 1))
            case measure => have := HG.out; omega
            case rel => exact ⟨i + 1, nn, by omega, rfl, rfl, by go_num, by omega, HFV.out, U.out.trans U2.out⟩
    · obtain rfl : i = l.length := by omega
      have hfew : Few l := ⟨by omega, fun v hv => by
        obtain ⟨j, hj, rfl⟩ := List.mem_iff_getElem.1 hv
        exact HF.out j hj hj⟩
      have HFEW := hid hfew
      clear hfew
      go_wp2_with fail
      go_ret
      exact ⟨_, rfl, fun _ => HFEW.out, U.out⟩
end Go.Proofs.YtdnbbjcpjhkedaaDoor
