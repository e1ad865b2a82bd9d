/- The statements' helpers: comparing lists; values. -/
import Derived.Test.YtlefilfdomjkeaaGreatDoorWrC3
namespace Go.Proofs.YtlefilfdomjkeaaGreatDoor
open Go.RowKit Go.Deep

set_option maxHeartbeats 1000000 in
theorem sameTexts_any (v1 v2 : Value) (l1 l2 : List (List UInt8)) (w : World) (h1 : kStrs.rep (· < w.heap.size) w [v1] l1) (h2 : kStrs.rep (· < w.heap.size) w [v2] l2) :
    Calls Tryz.prog 23 #[v1, v2] w fun e w' => e = .returned (.bool (l1 == l2)) ∧ Upd (fun _ => False) w w' := by
  obtain ⟨a1, cap1, rfl, p1, p2, p3⟩ := slice_open h1
  obtain ⟨a2, cap2, rfl, q1, q2, q3⟩ := slice_open h2
  have p2 : cap1 ≤ 9223372036854775807 := p2
  have q2 : cap2 ≤ 9223372036854775807 := q2
  have H1 := hid p3; have H2 := hid q3
  clear h1 h2 p3 q3
  by_cases hlen : l1.length = l2.length
  · have hb : ((l1.length : Int) != l2.length) = false := by rw [hlen]; simp
    have hb2 : (l1.length != l2.length) = false := by rw [hlen]; simp
    have HL := hid hlen
    clear hlen
    go_enter Tryz.func23, Tryz.ntmps23
    go_wp2_with fail
    go_loopg [5] l1.length (fun gg s5 wr => ∃ k : Nat, k ≤ l1.length ∧ gg = l1.length - k ∧ s5 = .int .i64 k ∧ (∀ i (h : i < l1.length) (h' : i < l2.length), i < k → l1[i] = l2[i]) ∧ Upd (fun _ => False) w wr)
    case atStart => exact ⟨0, Nat.zero_le _, by omega, rfl, fun i _ _ h => absurd h (Nat.not_lt_zero _), Upd.refl _ _⟩
    case round =>
      obtain ⟨k, hk, hg, rfl, he, u⟩ := hrel
      have UU := hid u; have HG := hid hg; have EQ := hid he
      clear u hg he
      by_cases hlt : k < l1.length
      · obtain ⟨b1, o1, rfl, hb1, hel1⟩ := H1.out (by omega)
        have hlt2 : k < l2.length := by have := HL.out; omega
        obtain ⟨b2, o2, rfl, hb2', hel2⟩ := H2.out (by omega)
        have m1 := cell_kept (str_cells hel1 hlt) (UU.out.block b1 hb1 id)
        have m2 := cell_kept (str_cells hel2 hlt2) (UU.out.block b2 hb2' id)
        have hlti : (k : Int) < l1.length := by omega
        have hlti2 : (k : Int) < l2.length := by omega
        clear hel1 hel2
        by_cases hx : l1[k] = l2[k]
        · have hxb : (l1[k] == l2[k]) = true := by rw [hx]; simp
          have HX := hid hx
          clear hx
          go_wp2_with fail
          go_quiet (fail)
          go_wp2_with fail
          go_roundg (l1.length - (k + 1))
          case measure => have := HG.out; omega
          case rel =>
            refine ⟨k + 1, by omega, rfl, by go_num, fun i h h' hi => ?_, UU.out.drewN _⟩
            by_cases e : i = k
            · subst e; exact HX.out
            · exact EQ.out i h h' (by omega)
        · have hxb : (l1[k] == l2[k]) = false := by simpa using hx
          have hd : (l1 == l2) = false := beq_eq_false_iff_ne.2 fun e => hx (by simp [e])
          have HD := hid hd
          clear hx hd
          go_wp2_with fail
          go_quiet (fail)
          go_wp2_with fail
          go_ret
          exact ⟨by rw [HD.out]; rfl, UU.out.drewN _⟩
      · have hd : (l1 == l2) = true := beq_iff_eq.2 (List.ext_getElem HL.out fun i h h' => EQ.out i h h' (by omega))
        obtain rfl : k = l1.length := by omega
        have HD := hid hd
        clear hd
        go_wp2_with fail
        go_ret
        exact ⟨by rw [HD.out]; rfl, UU.out⟩
  · have hb : ((l1.length : Int) != l2.length) = true := by rw [bne_iff_ne]; omega
    have hb2 : (l1.length != l2.length) = true := by rw [bne_iff_ne]; omega
    have hd : (l1 == l2) = false := beq_eq_false_iff_ne.2 fun e => hlen (by rw [e])
    have HD := hid hd
    clear hd hlen
    go_enter Tryz.func23, Tryz.ntmps23
    go_wp2_with fail
    go_ret
    exact ⟨by rw [HD.out]; rfl, Upd.refl _ _⟩

/-- A value to write. -/
structure Vl where
  kind : Int
  n : Int
  s : List UInt8
  l : List Int
  t : List (List UInt8)
def kStr8 : Knd (List UInt8) := kMap kStr fun l => ⟨l.toArray⟩
def kVl : Knd Vl := kMap (kPair (kInt .i64) (kPair (kInt .i64) (kPair kStr8 (kPair kInts kStrs)))) fun v => (v.kind, v.n, v.s, v.l, v.t)
theorem reads_str8 : Reads Tryz.prog 9 kStr8 := reads_map (fun x => x.data.toList) (fun _ => rfl) (reads_str Tryz.underlying9 (by kernel_rfl))
/-- The five cells of a value. -/
theorem vl_open {A : Nat → Prop} {w : World} {cs : List Value} {v : Vl} (h : kVl.rep A w cs v) : ∃ a c d f, cs = [.int .i64 v.kind, .int .i64 v.n, .string ⟨v.s.toArray⟩, .slice a v.l.length c, .slice d v.t.length f] ∧ v.l.length ≤ c ∧ c ≤ maxLen ∧ v.t.length ≤ f ∧ f ≤ maxLen ∧ (Lit.int .i64 v.kind).wf = true ∧ (Lit.int .i64 v.n).wf = true ∧ v.s.length ≤ maxLen ∧
    kInts.rep A w [.slice a v.l.length c] v.l ∧ kStrs.rep A w [.slice d v.t.length f] v.t := by
  obtain ⟨_, _, rfl, ⟨rfl, h1⟩, _, _, rfl, ⟨rfl, h2⟩, _, _, rfl, ⟨rfl, h3⟩, x, y, rfl, h4, h5⟩ := h
  obtain ⟨x, rfl⟩ := List.length_eq_one_iff.1 (kInts.len h4)
  obtain ⟨y, rfl⟩ := List.length_eq_one_iff.1 (kStrs.len h5)
  obtain ⟨a, c, rfl, g1, g2, _⟩ := slice_open h4
  obtain ⟨d, f, rfl, g3, g4, _⟩ := slice_open h5
  exact ⟨a, c, d, f, rfl, g1, g2, g3, g4, h1, h2, by simpa [ByteArray.size] using h3, h4, h5⟩
theorem vl_cells {A : Nat → Prop} {w : World} {b o : Nat} {l : List Vl} (h : Elems kVl A w b o l) {i : Nat} (hi : i < l.length) :
    ∃ a c d f, (l[i].l.length ≤ c ∧ c ≤ maxLen ∧ l[i].t.length ≤ f ∧ f ≤ maxLen ∧ (Lit.int .i64 l[i].kind).wf = true ∧ (Lit.int .i64 l[i].n).wf = true ∧ l[i].s.length ≤ maxLen ∧
    kInts.rep A w [.slice a l[i].l.length c] l[i].l ∧ kStrs.rep A w [.slice d l[i].t.length f] l[i].t) ∧
    w.cell? ⟨b, o + i * 5, none⟩ = some (.int .i64 l[i].kind) ∧ w.cell? ⟨b, o + i * 5 + 1, none⟩ = some (.int .i64 l[i].n) ∧ w.cell? ⟨b, o + i * 5 + 2, none⟩ = some (.string ⟨l[i].s.toArray⟩) ∧ w.cell? ⟨b, o + i * 5 + 3, none⟩ = some (.slice a l[i].l.length c) ∧ w.cell? ⟨b, o + i * 5 + 4, none⟩ = some (.slice d l[i].t.length f) := by
  obtain ⟨cs, h1, h2⟩ := h.cell hi
  obtain ⟨a, c, d, f, rfl, g⟩ := vl_open h1
  exact ⟨a, c, d, f, g, h2 0 (by decide), h2 1 (by decide), h2 2 (by decide), h2 3 (by decide), h2 4 (by decide)⟩

def FewV (v : Vl) : Prop := v.s.length ≤ 400 ∧ v.l.length ≤ 400 ∧ v.t.length ≤ 400 ∧ ∀ x ∈ v.t, x.length ≤ 400
def Few (l : List Vl) : Prop := l.length ≤ 20 ∧ ∀ v ∈ l, FewV v
def FewPost (l : List Vl) (w : World) (e : Ending) (w' : World) : Prop := ∃ bx : Bool, e = .returned (.bool bx) ∧ (bx = true → Few l) ∧ Upd (fun _ => False) w w'
theorem few_no {l : List Vl} {w w' : World} (u : Upd (fun _ => False) w w') : FewPost l w (.returned (.bool false)) w' := ⟨false, rfl, (fun h => by cases h), u⟩

end Go.Proofs.YtlefilfdomjkeaaGreatDoor
