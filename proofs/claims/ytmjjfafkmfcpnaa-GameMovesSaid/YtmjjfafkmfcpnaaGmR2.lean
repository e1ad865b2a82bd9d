/- Walks of the reference of games: first, Prove, Best. -/
import Derived.Test.YtmjjfafkmfcpnaaGmR1
namespace Go.Proofs.Ytmjjfafkmfcpnaa
open Go.RowKit Go.Deep

/-- A move that leads to the value, of one side. -/
def hits (l : List Nd) (i : Nat) (mi mine : Bool) (m : Mv) : Prop := mi = mine ∧ mval l m = geti (vlist l) i
/-- The first of the moves from k on that leads to the value. -/
def FirstIn (l : List Nd) (i : Nat) (mi mine : Bool) (mvs : List Mv) (k : Nat) (a : Int) : Prop :=
  (a = -1 ∧ ∀ j m, k ≤ j → mvs[j]? = some m → ¬ hits l i mi mine m) ∨
  ∃ (j : Nat) (m : Mv), k ≤ j ∧ mvs[j]? = some m ∧ a = j ∧ hits l i mi mine m ∧ ∀ j' m', k ≤ j' → j' < j → mvs[j']? = some m' → ¬ hits l i mi mine m'
theorem FirstIn.start (l : List Nd) (i : Nat) (mi mine : Bool) (mvs : List Mv) : FirstIn l i mi mine mvs mvs.length (-1) :=
  .inl ⟨rfl, fun j m h1 h2 => by have := (List.getElem?_eq_some_iff.1 h2).1; omega⟩
theorem FirstIn.hit {l : List Nd} {i : Nat} {mi mine : Bool} {mvs : List Mv} {k : Nat} {m : Mv} (hm : mvs[k]? = some m) (h : hits l i mi mine m) : FirstIn l i mi mine mvs k k :=
  .inr ⟨k, m, Nat.le_refl _, hm, rfl, h, fun j' _ h1 h2 => by omega⟩
theorem FirstIn.miss {l : List Nd} {i : Nat} {mi mine : Bool} {mvs : List Mv} {k : Nat} {a : Int} {m : Mv} (h : FirstIn l i mi mine mvs (k + 1) a) (hm : mvs[k]? = some m) (hn : ¬ hits l i mi mine m) : FirstIn l i mi mine mvs k a := by
  have aux : ∀ j m', k ≤ j → (k + 1 ≤ j → ¬ hits l i mi mine m') → mvs[j]? = some m' → ¬ hits l i mi mine m' := fun j m' h1 h2 h3 => by
    by_cases e : j = k
    · subst e; rw [hm] at h3; injection h3 with h3; subst h3; exact hn
    · exact h2 (by omega)
  rcases h with ⟨e, h⟩ | ⟨j, m', h1, h2, h3, h4, h5⟩
  · exact .inl ⟨e, fun j m' g1 g2 => aux j m' g1 (fun g => h j m' g g2) g2⟩
  · exact .inr ⟨j, m', by omega, h2, h3, h4, fun j' m'' g1 g2 g3 => aux j' m'' g1 (fun g => h5 j' m'' g g2 g3) g3⟩
theorem FirstIn.final {l : List Nd} (hr : RightP l) {i : Nat} {mi mine : Bool} {mvs : List Mv} {a : Int} (hi : l[i]? = some ⟨mi, mvs⟩) (h : FirstIn l i mi mine mvs 0 a) : a = geti (ofSide mine l (mlist l)) i := by
  rw [ofSide_at mine l (mlist l) i _ (mlist_len l) hi]
  obtain ⟨s1, s2⟩ := vlist_spec hr hi
  dsimp only at s1 s2 ⊢
  by_cases hm : mi = mine
  · rw [if_pos hm]
    by_cases hn : mvs = []
    · rw [(s1 hn).2]
      rcases h with ⟨e, _⟩ | ⟨j, m', _, h2, _⟩
      · exact e
      · rw [hn] at h2; cases h2
    · obtain ⟨j0, m0, e1, e2, e3, _, e5⟩ := s2 hn
      rw [e3]
      have h0 : hits l i mi mine m0 := ⟨hm, e2.symm⟩
      rcases h with ⟨_, h⟩ | ⟨j, m', _, h2, h3, h4, h5⟩
      · exact absurd h0 (h j0 m0 (Nat.zero_le _) e1)
      · rw [h3]
        have g1 : ¬ j0 < j := fun g => h5 j0 m0 (Nat.zero_le _) g e1 h0
        have g2 : ¬ j < j0 := fun g => by
          have := e5 j m' g h2
          have e : m'.gain + geti (vlist l) m'.to.toNat = geti (vlist l) i := h4.2
          rw [e] at this
          omega
        omega
  · rw [if_neg hm]
    rcases h with ⟨e, _⟩ | ⟨j, m', _, _, _, h4, _⟩
    · exact e
    · exact absurd h4.1 hm

/-- A slice of numbers that is being built. -/
structure OutAt (C : List Int) (k : Nat) (w0 w : World) (v : Value) : Prop where
  own : w.ownsRow w0.heap.size 3 1 v k ((C.take k).map (.int .i64))
  u : Upd (fun _ => False) w0 w
theorem OutAt.begin (C : List Int) {w : World} : OutAt C 0 w w (.slice none 0 0) := ⟨World.ownsRow_nil _ _ _ _, Upd.refl _ _⟩
theorem OutAt.step {C : List Int} {k : Nat} {w0 w wc : World} {v : Value} (h : OutAt C k w0 w v) (hk : k < C.length) (hl : C.length ≤ 100000) (uc : Upd (fun _ => False) w wc) {x : Int} (hx : x = geti C k) :
    ∃ v' w', (Builtin.append_ #[23, 23] 23 #[v, .slice (some ⟨wc.heap.size, 0, none⟩) 1 1]).run Try.prog (wc.alloc (.cells #[.int .i64 x] 3 (0, 0))) = .ok v' w' ∧ OutAt C (k + 1) w0 w' v' := by
  have own := ownsRow_upd h.own uc (fun _ _ => id)
  have hsz := Nat.le_trans h.u.size uc.size
  obtain ⟨v', w', r, o, u, n⟩ := append_one elemI own #[.int .i64 x] rfl (by simp [Value.oneCell']) (by unfold maxLen; omega) (by omega) hsz 23 (0, 0)
  have hb : ∀ k, v.ownBlock = some k → w0.heap.size ≤ k := fun k hk => (h.own.lt k hk).1
  refine ⟨v', w', r, ?_, (h.u.trans uc).comp u fun k hk hk2 => by have := hb k hk2; omega⟩
  rw [List.take_succ_eq_append_getElem hk, List.map_append, geti_at' hk, ← hx]
  exact o
theorem OutAt.rep {C : List Int} {w0 w : World} {v : Value} (h : OutAt C C.length w0 w v) (hw : ∀ x ∈ C, (Lit.int .i64 x).wf = true) : kInts.rep (fun b => w0.heap.size ≤ b ∧ b < w.heap.size) w [v] C := by
  have o := h.own
  rw [List.take_of_length_le (Nat.le_refl _)] at o
  exact ownsRow_rep1 (e := 3) (base := w0.heap.size) rfl (.int .i64) o (fun x hx => ⟨rfl, hw x hx⟩) fun g hg => h.own.lt g hg

theorem OutAt.rep2 {C : List Int} {w w0 w' : World} {v : Value} (h : OutAt C C.length w0 w' v) (hw : ∀ x ∈ C, (Lit.int .i64 x).wf = true) (hs : w.heap.size ≤ w0.heap.size) : kInts.rep (fun b => w.heap.size ≤ b ∧ b < w'.heap.size) w' [v] C :=
  kInts.mono (h.rep hw) fun _ hx => ⟨Nat.le_trans hs hx.1, hx.2⟩
theorem rep_slice {A : Nat → Prop} {w : World} {v : Value} {C : List Int} {n : Nat} (h : kInts.rep A w [v] C) (hn : C.length = n) : ∃ a c, v = .slice a n c := by
  obtain ⟨a, c, e, _⟩ := slice_open h
  rw [hn] at e
  exact ⟨a, c, e⟩

def FirstPost (l : List Nd) (mine : Bool) (w : World) (e : Ending) (w' : World) : Prop :=
  ∃ a c, e = .returned (.slice a l.length c) ∧ kInts.rep (fun b => w.heap.size ≤ b ∧ b < w'.heap.size) w' [.slice a l.length c] (ofSide mine l (mlist l)) ∧ Upd (fun _ => False) w w'

set_option maxRecDepth 100000 in
set_option maxHeartbeats 2000000 in
theorem refFirst_any (v : Value) (l : List Nd) (mine : Bool) (w : World) (hl : (kSlice kNd).rep (· < w.heap.size) w [v] l) (hr : RightP l) :
    Calls Try.prog 26 #[v, .bool mine] w (FirstPost l mine w) := by
  have HL := hid hl; have HP := hid hr
  have HR := hid ((right_iff l).2 hr)
  obtain ⟨a, cap, rfl, h1, h2, _⟩ := slice_open hl
  have h2 : cap ≤ 9223372036854775807 := h2
  have hn0 : (1 : Int) ≤ l.length := by have := hr.pos; omega
  have hn1 : (l.length : Int) ≤ 3000 := by have := hr.few; omega
  have hcl := hid (ofSide_len mine l (mlist l) (mlist_len l))
  clear hl hr
  go_enter Try.func26, Try.ntmps26
  go_wp2_with fail
  refine (refValue_any _ l _ HL.out).mono ?_
  intro e w1 hp
  unfold ValuePost at hp
  rw [if_pos HR.out] at hp
  obtain ⟨gv, rfl, _, hv, u⟩ := hp
  have HV := hid hv; have U1 := hid u; have HL1 := hid (keep_nds HL.out u)
  clear hv u HL
  have hgv := HV.out.lt
  go_wp2_with fail
  go_loopg [7, 8] l.length (fun gg s7 s8 wr => ∃ k : Nat, k ≤ l.length ∧ gg = l.length - k ∧ s8 = .int .i64 k ∧ OutAt (ofSide mine l (mlist l)) k w1 wr s7)
  case atStart => exact ⟨0, Nat.zero_le _, rfl, rfl, OutAt.begin _⟩
  case round =>
    obtain ⟨i, hi, hg, rfl, st⟩ := hrel
    have HG := hid hg; have ST := hid st
    clear hg st
    by_cases hlt : i < l.length
    · have hlti : (i : Int) < l.length := by omega
      obtain ⟨b, o, ra, hb, hel⟩ := slice_at HL1.out (by omega)
      subst ra
      obtain ⟨v', m0, m1, hv⟩ := nd_cells hel hlt
      obtain ⟨a', cap', rfl, g1, g2, _⟩ := slice_open hv
      have g2 : cap' ≤ 9223372036854775807 := g2
      have hnd := List.getElem?_eq_getElem hlt
      have hmv := fun (m : Mv) (hm : m ∈ l[i].moves) => HP.out.mv i l[i] m hnd hm
      have hml := HP.out.len i l[i] hnd
      have hmli : (l[i].moves.length : Int) ≤ 8 := by omega
      have HMV := hid hmv; have HVM := hid hv; have HND := hid hnd
      clear hel hv hnd hmv hml
      generalize l[i] = nd at *
      obtain ⟨mi, mvs⟩ := nd
      dsimp only at *
      have m0 := cell_nx m0 ST.out.u
      have m1 := cell_nx m1 ST.out.u
      have FI := hid (FirstIn.start l i mi mine mvs)
      have wr0 : ∃ wo : World, wo = wr := ⟨_, rfl⟩
      obtain ⟨wo, rfl⟩ := wr0
      go_wp2_with fail
      go_loopg [9, 11] mvs.length (fun gg s9 s11 wx => ∃ (k : Nat) (at_ : Int), k ≤ mvs.length ∧ gg = k ∧ s9 = .int .i64 at_ ∧ s11 = .int .i64 ((k : Int) - 1) ∧ FirstIn l i mi mine mvs k at_ ∧ (-1 ≤ at_ ∧ at_ ≤ 8) ∧ Upd (fun _ => False) wo wx)
      case atStart => exact ⟨mvs.length, -1, Nat.le_refl _, rfl, rfl, rfl, FI.out, by omega, Upd.refl _ _⟩
      case round =>
        clear FI
        obtain ⟨k, at_, hk, hgk, rfl, rfl, fi, hat, u⟩ := hrel
        have HGK := hid hgk; have FI := hid fi; have UU := hid u
        clear hgk fi u
        rcases Nat.eq_zero_or_pos k with hk0 | hk0
        · subst hk0
          have hfin := FI.out.final HP.out HND.out
          obtain ⟨v', w', r, st'⟩ := ST.out.step (by rw [hcl.out]; exact hlt) (by rw [hcl.out]; omega) UU.out hfin
          have ST2 := hid st'
          clear st' hfin m0 m1
          go_wp2_with (at_builtin; refine wpList_append_run rfl _ _ _ _ rfl rfl rfl r ?_)
          go_roundg (l.length - (i + 1))
          case measure => have := HG.out; omega
          case rel => exact ⟨i + 1, by omega, rfl, by go_num, ST2.out⟩
        · obtain ⟨j, rfl⟩ : ∃ j, k = j + 1 := ⟨k - 1, by omega⟩
          have e1 : (((j + 1 : Nat) : Int) - 1) = j := by omega
          rw [e1]
          have hjl : j < mvs.length := by omega
          have hji : (j : Int) < mvs.length := by omega
          obtain ⟨b2, o2, ra, hb2, hel2⟩ := slice_at HVM.out (by omega)
          subst ra
          obtain ⟨c0, c1⟩ := mv_cells hel2 hjl
          obtain ⟨t1, t2, t3, t4⟩ := HMV.out mvs[j] (List.getElem_mem hjl)
          rw [show maxGain = 1099511627776 from rfl] at t3 t4
          have hmval : mval l mvs[j] = mvs[j].gain + geti (vlist l) mvs[j].to.toNat := rfl
          have ux := ST.out.u.trans UU.out
          have c0 := cell_nx c0 ux
          have c1 := cell_nx c1 ux
          have m0x := cell_nx m0 UU.out
          have hmj := List.getElem?_eq_getElem hjl
          have hhit := fun (h : hits l i mi mine mvs[j]) => FirstIn.hit hmj h
          have hmiss := fun (h : ¬ hits l i mi mine mvs[j]) => FI.out.miss hmj h
          unfold hits at hhit hmiss
          rw [hmval] at hhit hmiss
          have HIT := hid hhit; have MISS := hid hmiss
          clear hel2 hmval hhit hmiss HMV hmj e1 FI
          generalize mvs[j] = mk at *
          obtain ⟨mto, gain⟩ := mk
          dsimp only at *
          obtain ⟨t, rfl⟩ := Int.eq_ofNat_of_zero_le (show 0 ≤ mto by omega)
          rw [Int.toNat_natCast] at HIT MISS
          have iv := HV.out.upd ux id
          have htl : t < (vlist l).length := by rw [vlist_len]; omega
          have hil : i < (vlist l).length := by rw [vlist_len]; exact hlt
          have cv := iv.cell htl
          have ci := iv.cell hil
          rw [geti_at htl] at cv
          rw [geti_at hil] at ci
          have vb := vlist_bound HP.out t
          have vi := vlist_bound HP.out i
          rw [show maxGain = 1099511627776 from rfl] at vb vi
          have hti : (t : Int) < l.length := t2
          clear iv ux
          generalize geti (vlist l) t = y at *
          generalize geti (vlist l) i = z at *
          by_cases hm : mi = mine
          · have hmb : (mi == mine) = true := by rw [hm]; simp
            by_cases he : gain + y = z
            · have heb : ((gain + y : Int) == z) = true := beq_iff_eq.2 he
              have F2 := hid (HIT.out ⟨hm, he⟩)
              clear HIT MISS hm he
              go_wp2_with fail
              go_quiet (fail)
              go_wp2_with fail
              go_roundg j
              case measure => have := HGK.out; omega
              case rel => exact ⟨j, _, by omega, rfl, rfl, rfl, F2.out, by omega, UU.out.drewN _⟩
            · have heb : ((gain + y : Int) == z) = false := beq_eq_false_iff_ne.2 he
              have F2 := hid (MISS.out fun h => he h.2)
              clear HIT MISS hm he
              go_wp2_with fail
              go_quiet (fail)
              go_wp2_with fail
              go_roundg j
              case measure => have := HGK.out; omega
              case rel => exact ⟨j, _, by omega, rfl, rfl, rfl, F2.out, hat, UU.out.drewN _⟩
          · have hmb : (mi == mine) = false := by simpa using hm
            have F2 := hid (MISS.out fun h => hm h.1)
            clear HIT MISS hm
            go_wp2_with fail
            go_quiet (fail)
            go_wp2_with fail
            go_roundg j
            case measure => have := HGK.out; omega
            case rel => exact ⟨j, _, by omega, rfl, rfl, rfl, F2.out, hat, UU.out.drewN _⟩
    · obtain rfl : i = l.length := by omega
      have HREP := hid (OutAt.rep2 (C := ofSide mine l (mlist l)) (by rw [hcl.out]; exact ST.out) (ofSide_wf HP.out mine) U1.out.size)
      have UF := hid (U1.out.trans ST.out.u)
      obtain ⟨av, cvv, ev⟩ := rep_slice HREP.out hcl.out
      subst ev
      go_wp2_with fail
      go_ret
      exact ⟨_, _, rfl, HREP.out, UF.out⟩

def RefBestPost (l : List Nd) (w : World) (e : Ending) (w' : World) : Prop :=
  if right l = true then ∃ a c, e = .returned (.tuple #[.slice a l.length c, .int .i64 0]) ∧ kInts.rep (· < w'.heap.size) w' [.slice a l.length c] (bestB l) ∧ Upd (fun _ => False) w w'
  else e = .returned (.tuple #[.slice none 0 0, .int .i64 1]) ∧ Upd (fun _ => False) w w'

set_option maxHeartbeats 1000000 in
theorem refBest_any (v : Value) (l : List Nd) (w : World) (hl : (kSlice kNd).rep (· < w.heap.size) w [v] l) :
    Calls Try.prog 15 #[v] w (RefBestPost l w) := by
  have HL := hid hl; clear hl
  cases hr : right l
  · have HR := hid hr; clear hr
    go_enter Try.func15, Try.ntmps15
    go_wp2_with fail
    refine (refRight_any v l _ HL.out).mono ?_
    rintro e w1 ⟨rfl, rfl⟩
    rw [HR.out]
    go_wp2_with fail
    go_ret2
    unfold RefBestPost
    rw [HR.out]
    exact ⟨rfl, Upd.refl _ _⟩
  · have HR := hid hr; clear hr
    have HP := hid ((right_iff l).1 HR.out)
    go_enter Try.func15, Try.ntmps15
    go_wp2_with fail
    refine (refRight_any v l _ HL.out).mono ?_
    rintro e w1 ⟨rfl, rfl⟩
    rw [HR.out]
    go_wp2_with fail
    refine (refFirst_any v l true _ HL.out HP.out).mono ?_
    rintro e w2 ⟨a, c, rfl, hrep, u⟩
    have U := hid u
    have hrep2 : kInts.rep (· < w2.heap.size) w2 [.slice a l.length c] (bestB l) := kInts.mono hrep fun x hx => hx.2
    have REP := hid hrep2
    clear hrep2
    clear u hrep
    go_wp2_with fail
    go_ret2
    unfold RefBestPost
    rw [HR.out]
    exact ⟨a, c, rfl, REP.out, U.out⟩

def RefProvePost (l : List Nd) (w : World) (e : Ending) (w' : World) : Prop :=
  if right l = true then ∃ a1 c1 a2 c2, e = .returned (.tuple #[.agg #[.slice a1 l.length c1, .slice a2 l.length c2], .int .i64 0]) ∧ kInts.rep (· < w'.heap.size) w' [.slice a1 l.length c1] (vlist l) ∧ kInts.rep (· < w'.heap.size) w' [.slice a2 l.length c2] (proveC l) ∧ Upd (fun _ => False) w w'
  else e = .returned (.tuple #[.agg #[.slice none 0 0, .slice none 0 0], .int .i64 1]) ∧ Upd (fun _ => False) w w'

theorem keep_ints_set {v : Value} {l : List Int} {w : World} {p : Nat} {w' : World} (h : kInts.rep (fun b => b < w.heap.size ∧ b ≠ p) w [v] l) (u : Upd (· = p) w w') : kInts.rep (· < w'.heap.size) w' [v] l :=
  kInts.mono (kInts.keep h (Same.of_upd u fun _ hb e => hb.2 e)) fun _ hx => Nat.lt_of_lt_of_le hx.1 u.size

set_option maxHeartbeats 1000000 in
theorem refProve_any (v : Value) (l : List Nd) (w : World) (hl : (kSlice kNd).rep (· < w.heap.size) w [v] l) :
    Calls Try.prog 13 #[v] w (RefProvePost l w) := by
  have hl0 := keep_nds hl ((Upd.refl _ w).alloc (.cells #[.slice none 0 0, .slice none 0 0] 25 (0, 0)))
  have hb0 : (w.alloc (.cells #[.slice none 0 0, .slice none 0 0] 25 (0, 0))).heap[w.heap.size]? = some (.cells #[.slice none 0 0, .slice none 0 0] 25 (0, 0)) := heap_alloc_new
  have u0 := (Upd.refl (fun _ => False) w).alloc (.cells #[.slice none 0 0, .slice none 0 0] 25 (0, 0))
  have hz0 : (w.alloc (.cells #[.slice none 0 0, .slice none 0 0] 25 (0, 0))).heap.size = w.heap.size + 1 := World.size_alloc _ _
  have HL := hid hl0; have HB := hid hb0; have U0 := hid u0; have HZ0 := hid hz0
  clear hl hl0 hb0 u0 hz0
  cases hr : right l
  · have HR := hid hr; clear hr
    go_enter Try.func13, Try.ntmps13
    go_wp2_with fail
    refine (refValue_any v l _ HL.out).mono ?_
    intro e w1 hp
    unfold ValuePost at hp
    rw [HR.out, if_neg (by decide)] at hp
    obtain ⟨rfl, u1⟩ := hp
    have U1 := hid (U0.out.trans u1)
    have hb1 := (u1.block _ (heap_lt HB.out) id).trans HB.out
    obtain ⟨c0, c1, hz⟩ := cells2 hb1
    have hb2 := store2 (x := .slice none 0 0) (y := .slice none 0 0) hb1
    have u2 : Upd (fun _ => False) w ((w1.setCell ⟨w.heap.size, 0, none⟩ (.slice none 0 0)).setCell ⟨w.heap.size, 1, none⟩ (.slice none 0 0)) := (U1.out.setCell _ _ (.inr (Nat.le_refl _))).setCell _ _ (.inr (Nat.le_refl _))
    have HB2 := hid hb2; have U2 := hid u2
    clear u1 hb1 hb2 u2
    go_wp2_with fail
    clear c0 c1 hz
    generalize (w1.setCell ⟨w.heap.size, 0, none⟩ (.slice none 0 0)).setCell ⟨w.heap.size, 1, none⟩ (.slice none 0 0) = W at *
    obtain ⟨c0, c1, _⟩ := cells2 HB2.out
    refine bodyPost_ret (v := .tuple #[.agg #[.slice none 0 0, .slice none 0 0], .int .i64 1]) (by simp [results, Try.results13, go_sem, c0, c1]) rfl ?_
    unfold RefProvePost
    rw [HR.out]
    exact ⟨rfl, U2.out⟩
  · have HR := hid hr; clear hr
    have HP := hid ((right_iff l).1 HR.out)
    go_enter Try.func13, Try.ntmps13
    go_wp2_with fail
    refine (refValue_any v l _ HL.out).mono ?_
    intro e w1 hp
    unfold ValuePost at hp
    rw [if_pos HR.out] at hp
    obtain ⟨gv, rfl, hgv, iv, u1⟩ := hp
    have hb1 := (u1.block _ (heap_lt HB.out) id).trans HB.out
    have HL1 := hid (keep_nds HL.out u1)
    have HB1 := hid hb1
    have U1 := hid (U0.out.trans u1)
    have HGV := hid (show w.heap.size < gv by have := HZ0.out; omega)
    have IV := hid iv
    clear u1 hb1 HL HB U0 hgv iv
    go_wp2_with fail
    refine (refFirst_any v l false _ HL1.out HP.out).mono ?_
    rintro e w2 ⟨a2, c2, rfl, hrep, u2⟩
    have hb2 := (u2.block _ (heap_lt HB1.out) id).trans HB1.out
    have U2 := hid (U1.out.trans u2)
    have iv2 := IV.out.upd u2 id
    obtain ⟨c0, c1, hz⟩ := cells2 hb2
    have hb4 := store2 (x := .slice (some ⟨gv, 0, none⟩) l.length l.length) (y := .slice a2 l.length c2) hb2
    have u4a : Upd (· = w.heap.size) w2 ((w2.setCell ⟨w.heap.size, 0, none⟩ (.slice (some ⟨gv, 0, none⟩) l.length l.length)).setCell ⟨w.heap.size, 1, none⟩ (.slice a2 l.length c2)) := ((Upd.refl _ _).at_ _ _).at_ _ _
    have U4 := hid (U2.out.comp u4a fun i hi e => by omega)
    have IV4 := hid (iv2.upd u4a (by have := HGV.out; omega))
    have HB4 := hid hb4
    have hsz := heap_lt HB1.out
    have hrep2 : kInts.rep (fun b => b < w2.heap.size ∧ b ≠ w.heap.size) w2 [.slice a2 l.length c2] (proveC l) := kInts.mono hrep fun x hx => ⟨hx.2, by have := hx.1; omega⟩
    have REP := hid (keep_ints_set (p := w.heap.size) hrep2 u4a)
    clear u2 hb2 iv2 hb4 u4a hrep hrep2
    go_wp2_with fail
    clear c0 c1 hz
    generalize (w2.setCell ⟨w.heap.size, 0, none⟩ (.slice (some ⟨gv, 0, none⟩) l.length l.length)).setCell ⟨w.heap.size, 1, none⟩ (.slice a2 l.length c2) = W at *
    obtain ⟨c0, c1, _⟩ := cells2 HB4.out
    refine bodyPost_ret (v := .tuple #[.agg #[.slice (some ⟨gv, 0, none⟩) l.length l.length, .slice a2 l.length c2], .int .i64 0]) (by simp [results, Try.results13, go_sem, c0, c1]) rfl ?_
    unfold RefProvePost
    rw [HR.out]
    have hlm : l.length ≤ maxLen := by have := HP.out.few; unfold maxLen; omega
    have r1 := IV4.out.rep (A := (· < W.heap.size)) (cap := l.length) (vlist_wf HP.out) (by rw [vlist_len]; exact Nat.le_refl _) hlm IV4.out.lt
    rw [vlist_len] at r1
    rw [if_pos (by rfl)]
    exact ⟨_, _, _, _, rfl, r1, REP.out, U4.out⟩
end Go.Proofs.Ytmjjfafkmfcpnaa
