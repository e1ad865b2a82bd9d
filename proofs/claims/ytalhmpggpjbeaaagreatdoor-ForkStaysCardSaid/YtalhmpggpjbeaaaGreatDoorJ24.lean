/- Walks: some of the numbers of a list (some). -/
import Derived.Test.YtalhmpggpjbeaaaGreatDoorJ21
import Derived.Test.YtalhmpggpjbeaaaGreatDoorJ20
import Derived.Test.YtalhmpggpjbeaaaGreatDoorJ9
namespace Go.Proofs.YtalhmpggpjbeaaaGreatDoor
open Go.RowKit Go.Deep

/-- Some of the numbers of a list. -/
def SomePost (l : List Int) (w : World) (e : Ending) (w' : World) : Prop := ∃ l' : List Int, (∀ x ∈ l', x ∈ l) ∧ IntsPost l' w e w'
set_option maxRecDepth 100000 in
set_option maxHeartbeats 4000000 in
theorem some9_any (A : Nat → Prop) (v : Value) (l : List Int) (n : Int) (w : World) (h : kInts.rep A w [v] l) (hA : ∀ g, A g → g < w.heap.size) (hl : l.length ≤ 1000) : Calls Tryz.prog 70 #[v, .int .i64 n] w (SomePost l w) := by
  obtain ⟨a, cap, rfl, p1, p2, p3⟩ := slice_open h
  have p2 : cap ≤ 9223372036854775807 := p2
  have CELL := hid (fun (y : World) (u : Upd (fun _ => False) w y) (hp : 0 < l.length) => (show ∃ g o, a = some ⟨g, o, none⟩ ∧ ∀ k (hk : k < l.length), y.cell? ⟨g, o + k, none⟩ = some (.int .i64 l[k]) from by
    obtain ⟨g, o, e, hg, hel⟩ := p3 hp
    exact ⟨g, o, e, fun k hk => cell_kept (int_cells hel hk) (u.block g (hA g hg) id)⟩))
  clear h p3 hA
  go_enter Tryz.func70, Tryz.ntmps70
  go_wp2_with fail
  go_loopg [5, 6] l.length (fun gg s5 s6 wr => ∃ k : Nat, k ≤ l.length ∧ k ≤ 60 ∧ gg = l.length - k ∧ s6 = .int .i64 k ∧ ∃ l' : List Int, (∀ x ∈ l', x ∈ l) ∧ l'.length ≤ k ∧ wr.ownsRow w.heap.size 3 1 s5 l'.length (l'.map fun x => .int .i64 x) ∧ Upd (fun j => w.heap.size ≤ j) w wr)
  case atStart => exact ⟨0, Nat.zero_le _, Nat.zero_le _, rfl, rfl, [], fun x hx => (nomatch hx), Nat.le_refl _, World.ownsRow_nil _ _ _ _, Upd.refl _ _⟩
  case round =>
    obtain ⟨k, hk, hk60, hg, rfl, l', h1, h2, h3, hu⟩ := hrel
    have HG := hid hg; have H1 := hid h1; have H2 := hid h2; have OW := hid h3; have UP := hid hu
    have UF := hid (hu.shut fun i hi q => by omega)
    clear hg h1 h2 h3 hu
    by_cases hlt : k < l.length
    case neg =>
      have hlti : ¬ (k : Int) < l.length := by omega
      have hd : decide ((k : Int) < (l.length : Int)) = false := decide_eq_false hlti
      go_wp2_with fail
      go_ret
      exact ⟨l', H1.out, _, rfl, OW.out, UF.out⟩
    have hlti : (k : Int) < l.length := by omega
    have hd : decide ((k : Int) < (l.length : Int)) = true := decide_eq_true hlti
    by_cases h60 : k < 60
    case neg =>
      have h60i : ¬ (k : Int) < 60 := by omega
      have hd2 : decide ((k : Int) < 60) = false := decide_eq_false h60i
      go_wp2_with fail
      go_ret
      exact ⟨l', H1.out, _, rfl, OW.out, UF.out⟩
    have h60i : (k : Int) < 60 := by omega
    have hd2 : decide ((k : Int) < 60) = true := decide_eq_true h60i
    have hk0 : (0 : Int) ≤ k := by omega
    have hk64 : (k : Int) ≤ 64 := by omega
    have hk1 : (k : Int) + 1 ≤ 1000 := by omega
    obtain ⟨bv, hbv⟩ : ∃ bv : Int, bits .and .i64 (n / 2 ^ k) 1 = bv := ⟨_, rfl⟩
    have hbv2 : bits .and .i64 (n / 2 ^ ((k : Int)).toNat) 1 = bv := by rw [Int.toNat_natCast]; exact hbv
    obtain ⟨g, o, rfl, hcell⟩ := CELL.out _ UF.out (by omega)
    have m0 := hcell k hlt
    obtain ⟨x, hx⟩ : ∃ x, l[k] = x := ⟨_, rfl⟩
    have XM := hid (show x ∈ l from hx ▸ List.getElem_mem hlt)
    rw [hx] at m0
    clear hcell hx
    by_cases hb : bv = 1
    case neg =>
      have t1 : (bv == 1) = false := beq_eq_false_iff_ne.2 hb
      go_wp2_with fail
      go_roundg (l.length - (k + 1))
      case measure => have := HG.out; omega
      case rel => exact ⟨k + 1, by omega, by omega, rfl, by go_num, l', H1.out, Nat.le_succ_of_le H2.out, OW.out, UP.out⟩
    have t1 : (bv == 1) = true := beq_iff_eq.2 hb
    clear hb
    obtain ⟨v', w4, r4, o4, u4, n4⟩ := append_one elemI OW.out #[.int .i64 x] rfl (by simp [Value.oneCell']) (by have := H2.out; unfold maxLen; omega) (by have := H2.out; omega) UP.out.size 31 (0, 0)
    have O4 := hid o4; have R4 := hid r4
    have U4 := hid (show Upd (fun j => w.heap.size ≤ j) wr w4 from u4.mono fun j hj => (own_lt OW.out j hj).1)
    clear o4 r4 u4 n4
    go_wp2_with (at_builtin; refine wpList_append_run rfl _ _ _ _ rfl rfl rfl R4.out ?_)
    go_roundg (l.length - (k + 1))
    case measure => have := HG.out; omega
    case rel =>
      refine ⟨k + 1, by omega, by omega, rfl, by go_num, l' ++ [x], fun y hy => ?_, by rw [List.length_append]; have := H2.out; simp; omega, ?_, UP.out.trans U4.out⟩
      · rcases List.mem_append.1 hy with q | q
        · exact H1.out y q
        · rw [List.mem_singleton.1 q]; exact XM.out
      · rw [List.length_append, List.map_append]; exact O4.out
end Go.Proofs.YtalhmpggpjbeaaaGreatDoor
namespace Go.Proofs.YtalhmpggpjbeaaaGreatDoor
open Go
variable {rd : List UInt8 → En × Int} {R : Rg}

theorem forks_get {h : Hs} (H : His rd R h) {i : Nat} (hi : i < (forksF h).length) : ∃ hg : i < (guiltyF h).length, (forksF h)[i].1 ∈ ownF h (guiltyF h)[i] ∧ (forksF h)[i].2 ∈ ownF h (guiltyF h)[i] ∧ ForkM h (forksF h)[i].1 (forksF h)[i].2 := by
  have e := forks_authors H
  have hg : i < (guiltyF h).length := by rw [← e, List.length_map]; exact hi
  have e1 : (guiltyF h)[i] = (entM h (forksF h)[i].1).author := by
    have : (guiltyF h)[i]? = ((forksF h).map fun p => (entM h p.1).author)[i]? := by rw [e]
    rw [List.getElem?_eq_getElem hg, List.getElem?_map, List.getElem?_eq_getElem hi, Option.map_some] at this
    injection this
  refine ⟨hg, ?_⟩
  have hm : (forksF h)[i] ∈ forksF h := List.getElem_mem hi
  obtain ⟨p, hp⟩ : ∃ p, (forksF h)[i] = p := ⟨_, rfl⟩
  rw [hp] at hm e1 ⊢
  unfold forksF at hm
  obtain ⟨a, _, ha⟩ := List.mem_filterMap.1 hm
  obtain ⟨h1, h2, h3⟩ := pair_some ha
  have ea := ((mem_own H a p.1).1 h1).2
  rw [e1, ea]
  exact ⟨h1, h2, h3⟩
theorem forks_len {h : Hs} (H : His rd R h) : (forksF h).length = (guiltyF h).length := by rw [← forks_authors H, List.length_map]
/-- The signature of what an author has written. -/
theorem signed_own {h : Hs} (H : His rd R h) {a m : Int} (hm : m ∈ ownF h a) : ∃ s, signedM h m = (s, true) ∧ s.mark = m ∧ s.key = a ∧ (idxF h s.mark).bind (fun i => h[i]?.map Nd.sg) = some s := by
  obtain ⟨h1, h2⟩ := (mem_own H a m).1 hm
  obtain ⟨i, hi⟩ := Option.isSome_iff_exists.1 h1
  obtain ⟨li, em⟩ := idx_some hi
  have eg : h[i]? = some h[i] := List.getElem?_eq_getElem li
  refine ⟨h[i].sg, ?_, em, ?_, ?_⟩
  · unfold signedM; rw [hi]; dsimp only; rw [eg]
  · have : entM h m = h[i].en := by unfold entM; rw [hi]; dsimp only; rw [eg]
    rw [this, (H.at li).author] at h2
    exact h2
  · have : h[i].sg.mark = m := em
    rw [this, hi, Option.bind_some, eg, Option.map_some]
theorem sg_both {h g : Hs} (H : His rd R h) (G : His rd R g) {s : Sg} (e : (idxF h s.mark).bind (fun i => h[i]?.map Nd.sg) = some s) (hg : (idxF g s.mark).isSome) : (idxF g s.mark).bind (fun i => g[i]?.map Nd.sg) = some s := by
  cases e1 : idxF h s.mark with
  | none => rw [e1] at e; cases e
  | some i =>
    obtain ⟨j, hj⟩ := Option.isSome_iff_exists.1 hg
    obtain ⟨⟨li, lj, q, _⟩, _⟩ := his_same H G i e1 hj
    rw [e1, Option.bind_some, List.getElem?_eq_getElem li, Option.map_some, q] at e
    rw [hj, Option.bind_some, List.getElem?_eq_getElem lj, Option.map_some]
    exact e
/-- A pair convicts in the history, in either order, and in the part with its pasts; its author is not straight. -/
theorem pair_convicts {h : Hs} (H : His rd R h) (hR : R.length ≤ 4000) {i : Nat} (hi : i < (forksF h).length) : ∃ (hg : i < (guiltyF h).length) (s t : Sg), signedM h (forksF h)[i].1 = (s, true) ∧ signedM h (forksF h)[i].2 = (t, true) ∧ s.key = (guiltyF h)[i] ∧
    convictF R h s t = 0 ∧ convictF R h t s = 0 ∧ convictF R (restrictF rd R h [(forksF h)[i].1, (forksF h)[i].2]) s t = 0 ∧ ¬ StraightP h s.key ∧ s ∈ h.map Nd.sg ∧ t ∈ h.map Nd.sg := by
  obtain ⟨hg, h1, h2, h3⟩ := forks_get H hi
  obtain ⟨p, hp⟩ : ∃ p, (forksF h)[i] = p := ⟨_, rfl⟩
  rw [hp] at h1 h2 h3 ⊢
  obtain ⟨s, s1, s2, s3, s4⟩ := signed_own H h1
  obtain ⟨t, t1, t2, t3, t4⟩ := signed_own H h2
  have hc : convictF R h s t = 0 := convict_ok H s4 t4 (by rw [s3, t3]) (by rw [s2, t2]; exact h3)
  obtain ⟨g1, _⟩ := restrict_ok H hR [p.1, p.2]
  have m1 := (mem_own H _ _).1 h1
  have m2 := (mem_own H _ _).1 h2
  have k1 : (idxF (restrictF rd R h [p.1, p.2]) p.1).isSome := (has_part H hR _ m1.1).2 (.inl (by simp))
  have k2 : (idxF (restrictF rd R h [p.1, p.2]) p.2).isSome := (has_part H hR _ m2.1).2 (.inl (by simp))
  have mem : ∀ {u : Sg}, (idxF h u.mark).bind (fun i => h[i]?.map Nd.sg) = some u → u ∈ h.map Nd.sg := by
    intro u q
    cases e1 : idxF h u.mark with
    | none => rw [e1] at q; cases q
    | some j =>
      obtain ⟨lj, _⟩ := idx_some e1
      rw [e1, Option.bind_some, List.getElem?_eq_getElem lj, Option.map_some] at q
      injection q with q
      rw [← q]
      exact List.mem_map.2 ⟨h[j], List.getElem_mem lj, rfl⟩
  refine ⟨hg, s, t, s1, t1, s3, hc, by rw [convict_symm]; exact hc, ?_, (convict_guilty H hc).2.2, mem s4, mem t4⟩
  refine convict_ok g1 (sg_both H g1 s4 (by rw [s2]; exact k1)) (sg_both H g1 t4 (by rw [t2]; exact k2)) (by rw [s3, t3]) ?_
  rw [s2, t2]
  obtain ⟨n1, n2, n3⟩ := h3
  exact ⟨n1, fun c => n2 ((kn_both H g1 m2.1 k2 _).2 c), fun c => n3 ((kn_both H g1 m1.1 k1 _).2 c)⟩
theorem guilty_lt (h : Hs) {i : Nat} (hi : i < (guiltyF h).length) (h0 : 0 < i) : (guiltyF h)[i - 1] < (guiltyF h)[i] :=
  List.pairwise_iff_getElem.1 (guilty_asc h) (i - 1) i (by omega) hi (by omega)
/-- Two signatures convict in either order, or in none; who is convicted is guilty. -/
theorem convict_says {h : Hs} (H : His rd R h) (a b : Sg) : convictF R h b a = convictF R h a b ∧ (convictF R h a b = 0 → ¬ StraightP h a.key ∧ a.key ∈ guiltyF h ∧ a.key = b.key) :=
  ⟨convict_symm R h b a, fun e => by
    obtain ⟨h1, h2, h3⟩ := convict_guilty H e
    exact ⟨h3, (mem_guilty H _).2 h2, h1⟩⟩

/-! ## Parts, and what they have together -/
theorem sub_part {h : Hs} (H : His rd R h) (hR : R.length ≤ 4000) (ms : List Int) : SubM (restrictF rd R h ms) h := fun m q => ((restrict_ok H hR ms).2 m).1 q |>.1
theorem both_ok {h g k : Hs} (G : His rd R g) (K : His rd R k) (hR : R.length ≤ 4000) (sg : SubM g h) (sk : SubM k h) :
    (joinF rd R (restrictF rd R g (marksF g)) k).2 = 0 ∧ His rd R (joinF rd R (restrictF rd R g (marksF g)) k).1 ∧ SubM (joinF rd R (restrictF rd R g (marksF g)) k).1 h ∧ ∀ m, (idxF (joinF rd R (restrictF rd R g (marksF g)) k).1 m).isSome ↔ (idxF g m).isSome ∨ (idxF k m).isSome := by
  obtain ⟨c1, c2⟩ := copy_same G hR
  obtain ⟨j1, j2, j3⟩ := join_ok K c1 hR
  have e : ∀ m, (idxF (joinF rd R (restrictF rd R g (marksF g)) k).1 m).isSome ↔ (idxF g m).isSome ∨ (idxF k m).isSome := fun m => by rw [j3, c2 m]
  exact ⟨j1, j2, fun m q => ((e m).1 q).elim (sg m) (sk m), e⟩
theorem guilty_in {g h : Hs} (G : His rd R g) (H : His rd R h) (s : SubM g h) {a : Int} (q : a ∈ guiltyF g) : a ∈ guiltyF h := (mem_guilty H a).2 (guilty_part G H s ((mem_guilty G a).1 q))
theorem straight_no {h : Hs} (H : His rd R h) {a : Int} (s : StraightP h a) : a ∉ guiltyF h := fun q => straight_guilty H s ((mem_guilty H a).1 q)
theorem apart_guilty {g k u h : Hs} (G : His rd R g) (K : His rd R k) (U : His rd R u) (H : His rd R h) (hu : ∀ m, (idxF u m).isSome ↔ (idxF g m).isSome ∨ (idxF k m).isSome) (su : SubM u h) {a : Int} (s1 : StraightP g a) (s2 : StraightP k a) (s3 : ¬ StraightP u a) : a ∈ guiltyF u ∧ a ∈ guiltyF h := by
  have := (mem_guilty U a).2 (straight_apart G K U hu s1 s2 s3)
  exact ⟨this, guilty_in U H su this⟩
end Go.Proofs.YtalhmpggpjbeaaaGreatDoor
