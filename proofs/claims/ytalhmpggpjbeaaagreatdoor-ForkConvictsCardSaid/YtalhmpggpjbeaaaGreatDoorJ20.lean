/- Forks in plain words: who has forked, who is straight, in a history and in its parts. No program in sight. -/
import Derived.Test.YtalhmpggpjbeaaaGreatDoorJ4
import Derived.Test.YtalhmpggpjbeaaaGreatDoorJ2
namespace Go.Proofs.YtalhmpggpjbeaaaGreatDoor
open Go
variable {rd : List UInt8 → En × Int} {R : Rg}

def entM (h : Hs) (m : Int) : En := match idxF h m with
  | some i => match h[i]? with
    | some n => n.en
    | none => En.none
  | none => En.none
theorem ent_both {h g : Hs} (H : His rd R h) (G : His rd R g) {m : Int} (h1 : (idxF h m).isSome) (h2 : (idxF g m).isSome) : entM h m = entM g m := by
  obtain ⟨i, hi⟩ := Option.isSome_iff_exists.1 h1
  obtain ⟨j, hj⟩ := Option.isSome_iff_exists.1 h2
  obtain ⟨⟨li, lj, _, e⟩, _⟩ := his_same H G i hi hj
  unfold entM
  rw [hi, hj]
  dsimp only
  rw [List.getElem?_eq_getElem li, List.getElem?_eq_getElem lj]
  exact e
def ownF (h : Hs) (a : Int) : List Int := (sortedF h (marksF h)).filter fun m => (entM h m).author == a
theorem mem_own {h : Hs} (H : His rd R h) (a m : Int) : m ∈ ownF h a ↔ (idxF h m).isSome ∧ (entM h m).author = a := by
  unfold ownF
  rw [List.mem_filter, (sorted_ok H _).2, mem_marksF]
  simp
theorem own_asc {h : Hs} (H : His rd R h) (a : Int) : (ownF h a).Pairwise (BefM h) := (sorted_ok H _).1.filter _
def ForkM (h : Hs) (a b : Int) : Prop := a ≠ b ∧ ¬ Kn h a b ∧ ¬ Kn h b a
def GuiltyP (h : Hs) (a : Int) : Prop := ∃ x ∈ ownF h a, ∃ y ∈ ownF h a, ForkM h x y
def StraightP (h : Hs) (a : Int) : Prop := ∀ i (hi : i < (ownF h a).length), (entM h (ownF h a)[i]).seq = i ∧ (0 < i → Kn h (ownF h a)[i - 1] (ownF h a)[i])
/-- g is a part of h. -/
def SubM (g h : Hs) : Prop := ∀ m, (idxF g m).isSome → (idxF h m).isSome
theorem kn_has {h : Hs} {a b : Int} (q : Kn h a b) : (idxF h a).isSome ∧ (idxF h b).isSome := by
  obtain ⟨i, j, e1, e2, _⟩ := q
  rw [e1, e2]; exact ⟨rfl, rfl⟩
theorem kn_tr {h : Hs} (H : His rd R h) {a b c : Int} (p : Kn h a b) (q : Kn h b c) : Kn h a c := by
  obtain ⟨_, k, _, e, _⟩ := id q
  exact H.kn_trans p k e q
theorem straight_chain {h : Hs} (H : His rd R h) {a : Int} (s : StraightP h a) : (ownF h a).Pairwise (Kn h) := by
  rw [List.pairwise_iff_getElem]
  intro i j hi hj hij
  have : ∀ d j (hj : j < (ownF h a).length), j = i + d + 1 → Kn h (ownF h a)[i] (ownF h a)[j] := by
    intro d
    induction d with
    | zero => intro j hj e; subst e; exact (s (i + 0 + 1) hj).2 (by omega)
    | succ d ih =>
      intro j hj e
      subst e
      exact kn_tr H (ih (i + d + 1) (by omega) rfl) ((s (i + (d + 1) + 1) hj).2 (by omega))
  exact this (j - i - 1) j hj (by omega)
/-- Who is straight has not forked. -/
theorem straight_guilty {h : Hs} (H : His rd R h) {a : Int} (s : StraightP h a) : ¬ GuiltyP h a := by
  rintro ⟨x, hx, y, hy, hn, h1, h2⟩
  have hc := straight_chain H s
  rw [List.pairwise_iff_getElem] at hc
  obtain ⟨i, hi, rfl⟩ := List.getElem_of_mem hx
  obtain ⟨j, hj, rfl⟩ := List.getElem_of_mem hy
  rcases Nat.lt_trichotomy i j with q | q | q
  · exact h1 (hc i j hi hj q)
  · subst q; exact hn rfl
  · exact h2 (hc j i hj hi q)
/-- Who has forked in a part has forked in the whole. -/
theorem guilty_part {g h : Hs} (G : His rd R g) (H : His rd R h) (s : SubM g h) {a : Int} (q : GuiltyP g a) : GuiltyP h a := by
  obtain ⟨x, hx, y, hy, hn, h1, h2⟩ := q
  rw [mem_own G] at hx hy
  refine ⟨x, (mem_own H a x).2 ⟨s x hx.1, by rw [ent_both H G (s x hx.1) hx.1]; exact hx.2⟩, y, (mem_own H a y).2 ⟨s y hy.1, by rw [ent_both H G (s y hy.1) hy.1]; exact hy.2⟩, hn, ?_, ?_⟩
  · rw [kn_both H G (s y hy.1) hy.1]; exact h1
  · rw [kn_both H G (s x hx.1) hx.1]; exact h2
theorem own_sub {g h : Hs} (G : His rd R g) (H : His rd R h) (s : SubM g h) (a : Int) : ownF g a = (ownF h a).filter fun m => (idxF g m).isSome := by
  refine sorted_unique (r := BefM h) befM_asymm befM_irrefl ((own_asc G a).imp_of_mem fun ha hb q => ?_) ((own_asc H a).filter _) fun z => ?_
  · exact bef_both G H (s _ ((mem_own G a _).1 ha).1) (s _ ((mem_own G a _).1 hb).1) q
  · rw [List.mem_filter, mem_own G, mem_own H]
    constructor
    · rintro ⟨h1, h2⟩
      exact ⟨⟨s z h1, by rw [ent_both H G (s z h1) h1]; exact h2⟩, h1⟩
    · rintro ⟨⟨h1, h2⟩, h3⟩
      exact ⟨h3, by rw [← ent_both H G h1 h3]; exact h2⟩
theorem prefix_filter {α : Type} (p : α → Bool) : ∀ {l : List α}, (l.Pairwise fun x y => p y = true → p x = true) → ∃ k, l.filter p = l.take k
  | [], _ => ⟨0, rfl⟩
  | x :: l, h => by
    obtain ⟨h1, h2⟩ := List.pairwise_cons.1 h
    by_cases hx : p x = true
    · obtain ⟨k, e⟩ := prefix_filter p h2
      exact ⟨k + 1, by rw [List.filter_cons_of_pos hx, e]; rfl⟩
    · refine ⟨0, ?_⟩
      rw [List.filter_cons_of_neg hx, List.take_zero, List.filter_eq_nil_iff]
      intro y hy c
      exact hx (h1 y hy c)
/-- What a part has, it has with all that it knows. -/
theorem part_down {g h : Hs} (G : His rd R g) (H : His rd R h) {x y : Int} (hy : (idxF g y).isSome) (q : Kn h x y) : (idxF g x).isSome :=
  (kn_has ((kn_both H G (kn_has q).2 hy x).1 q)).1
/-- Who is straight in the whole is straight in the parts. -/
theorem straight_part {g h : Hs} (G : His rd R g) (H : His rd R h) (s : SubM g h) {a : Int} (q : StraightP h a) : StraightP g a := by
  obtain ⟨k, e⟩ := prefix_filter (fun m => (idxF g m).isSome) ((straight_chain H q).imp fun {x y} hk hy => part_down G H hy hk)
  rw [← own_sub G H s] at e
  intro i hi
  have hlen : i < (ownF h a).length := by rw [e, List.length_take] at hi; omega
  have hat : ∀ j (hj : j < (ownF g a).length), ∃ hj' : j < (ownF h a).length, (ownF g a)[j] = (ownF h a)[j] := by
    intro j hj
    have hj2 : j < ((ownF h a).take k).length := by rw [← e]; exact hj
    have hj3 : j < (ownF h a).length := by rw [List.length_take] at hj2; omega
    refine ⟨hj3, ?_⟩
    have e1 : (ownF g a)[j]? = ((ownF h a).take k)[j]? := by rw [e]
    rw [List.getElem?_eq_getElem hj, List.getElem?_eq_getElem hj2] at e1
    injection e1 with e1
    rw [e1, List.getElem_take]
  obtain ⟨_, e1⟩ := hat i hi
  have hm := (mem_own G a _).1 (List.getElem_mem hi)
  obtain ⟨q1, q2⟩ := q i hlen
  refine ⟨?_, fun h0 => ?_⟩
  · have e2 := ent_both G H hm.1 (s _ hm.1)
    rw [e2, e1]; exact q1
  · obtain ⟨_, e2⟩ := hat (i - 1) (by omega)
    have e3 := kn_both H G (s _ hm.1) hm.1 (ownF g a)[i - 1]
    rw [← e3, e1, e2]
    exact q2 h0
/-- Two that are straight, and not together, told them apart. -/
theorem straight_apart {g k u : Hs} (G : His rd R g) (K : His rd R k) (U : His rd R u) (hu : ∀ m, (idxF u m).isSome ↔ (idxF g m).isSome ∨ (idxF k m).isSome) {a : Int} (sg : StraightP g a) (sk : StraightP k a) (su : ¬ StraightP u a) : GuiltyP u a := by
  refine Classical.byContradiction fun hng => su ?_
  have gu : SubM g u := fun m c => (hu m).2 (.inl c)
  have ku : SubM k u := fun m c => (hu m).2 (.inr c)
  have hall : ∀ x ∈ ownF u a, ∀ y ∈ ownF u a, x = y ∨ Kn u x y ∨ Kn u y x := fun x hx y hy => Classical.byContradiction fun c =>
    hng ⟨x, hx, y, hy, fun e => c (.inl e), fun e => c (.inr (.inl e)), fun e => c (.inr (.inr e))⟩
  -- If all that one has of a is in the other one, the other one has all.
  have cover : ∀ {p q : Hs}, His rd R q → SubM q u → (∀ m, (idxF u m).isSome ↔ (idxF p m).isSome ∨ (idxF q m).isSome) → His rd R p → StraightP q a → (∀ x ∈ ownF p a, (idxF q x).isSome) → StraightP u a := by
    intro p q Q qu hpq P sq hin
    have e : ownF u a = ownF q a := by
      rw [own_sub Q U qu a, List.filter_eq_self.2]
      intro x hx
      have h1 := (mem_own U a x).1 hx
      rcases (hpq x).1 h1.1 with c | c
      · exact hin x ((mem_own P a x).2 ⟨c, by rw [← ent_both U P h1.1 c]; exact h1.2⟩)
      · exact c
    intro i hi
    have hi' : i < (ownF q a).length := by rw [← e]; exact hi
    obtain ⟨s1, s2⟩ := sq i hi'
    have hat : ∀ j (hj : j < (ownF u a).length) (hj' : j < (ownF q a).length), (ownF u a)[j] = (ownF q a)[j] := by
      intro j hj hj'
      have e1 : (ownF u a)[j]? = (ownF q a)[j]? := by rw [e]
      rw [List.getElem?_eq_getElem hj, List.getElem?_eq_getElem hj'] at e1
      injection e1
    have hm := (mem_own Q a _).1 (List.getElem_mem hi')
    rw [hat i hi hi']
    refine ⟨by rw [ent_both U Q (qu _ hm.1) hm.1]; exact s1, fun h0 => ?_⟩
    rw [hat (i - 1) (by omega) (by omega), kn_both U Q (qu _ hm.1) hm.1]
    exact s2 h0
  by_cases h1 : ∀ x ∈ ownF g a, (idxF k x).isSome
  · exact cover K ku hu G sk h1
  · refine cover (p := k) G gu (fun m => (hu m).trans or_comm) K sg fun y hy => ?_
    obtain ⟨x, hx⟩ := Classical.not_forall.1 h1
    obtain ⟨hx, hxk⟩ := Classical.not_imp.1 hx
    have mx := (mem_own G a x).1 hx
    have my := (mem_own K a y).1 hy
    have ux : x ∈ ownF u a := (mem_own U a x).2 ⟨gu x mx.1, by rw [ent_both U G (gu x mx.1) mx.1]; exact mx.2⟩
    have uy : y ∈ ownF u a := (mem_own U a y).2 ⟨ku y my.1, by rw [ent_both U K (ku y my.1) my.1]; exact my.2⟩
    rcases hall x ux y uy with e | e | e
    · subst e; exact absurd my.1 hxk
    · exact absurd (part_down K U my.1 e) hxk
    · exact part_down G U mx.1 e
end Go.Proofs.YtalhmpggpjbeaaaGreatDoor
namespace Go.Proofs.YtalhmpggpjbeaaaGreatDoor
open Go
variable {rd : List UInt8 → En × Int} {R : Rg}

/-! ## What is known, from the last entry back to the first -/
/-! ## Ascending numbers -/
def riseIns (x : Int) : List Int → List Int
  | [] => [x]
  | y :: r => if y < x then y :: riseIns x r else if y = x then y :: r else x :: y :: r
def risingF (l : List Int) : List Int := l.foldl (fun o x => riseIns x o) []
theorem mem_riseIns (x z : Int) : ∀ l : List Int, z ∈ riseIns x l ↔ z = x ∨ z ∈ l
  | [] => by simp [riseIns]
  | y :: r => by
    unfold riseIns
    split
    · rw [List.mem_cons, mem_riseIns x z r, List.mem_cons]
      constructor
      · rintro (a | a | a) <;> simp [a]
      · rintro (a | a | a) <;> simp [a]
    · split
      · rename_i e
        subst e
        simp
      · simp
theorem riseIns_asc (x : Int) : ∀ {l : List Int}, l.Pairwise (· < ·) → (riseIns x l).Pairwise (· < ·)
  | [], _ => List.pairwise_singleton _ _
  | y :: r, h => by
    obtain ⟨h1, h2⟩ := List.pairwise_cons.1 h
    unfold riseIns
    split
    · rename_i hlt
      refine List.pairwise_cons.2 ⟨fun z hz => ?_, riseIns_asc x h2⟩
      rcases (mem_riseIns x z r).1 hz with e | e
      · rw [e]; exact hlt
      · exact h1 z e
    · split
      · exact h
      · rename_i h3 h4
        refine List.pairwise_cons.2 ⟨fun z hz => ?_, h⟩
        rcases List.mem_cons.1 hz with e | e
        · rw [e]; omega
        · have := h1 z e; omega
theorem rising_ok (l : List Int) : (risingF l).Pairwise (· < ·) ∧ ∀ z, z ∈ risingF l ↔ z ∈ l := by
  have : ∀ (l o : List Int), o.Pairwise (· < ·) → (l.foldl (fun o x => riseIns x o) o).Pairwise (· < ·) ∧ ∀ z, z ∈ l.foldl (fun o x => riseIns x o) o ↔ z ∈ o ∨ z ∈ l := by
    intro l
    induction l with
    | nil => intro o ho; exact ⟨ho, fun z => by simp⟩
    | cons x l ih =>
      intro o ho
      obtain ⟨a, b⟩ := ih (riseIns x o) (riseIns_asc x ho)
      refine ⟨a, fun z => ?_⟩
      rw [List.foldl_cons, b z, mem_riseIns, List.mem_cons]
      constructor
      · rintro ((c | c) | c) <;> simp [c]
      · rintro (c | c | c) <;> simp [c]
  obtain ⟨a, b⟩ := this l [] List.Pairwise.nil
  exact ⟨a, fun z => by rw [show risingF l = l.foldl (fun o x => riseIns x o) [] from rfl, b z]; simp⟩
theorem rising_sort {l : List Int} (h : l.Nodup) : risingF l = sortI l :=
  sorted_unique (fun a b h1 h2 => by omega) (fun a h => by omega) (rising_ok l).1 (sortI_asc h) fun z => by rw [(rising_ok l).2, sortI_mem]

/-! ## The canonical order, by insertion -/
instance (h : Hs) (a b : Int) : Decidable (BefM h a b) :=
  match e1 : idxF h a, e2 : idxF h b with
  | some i, some j =>
    have hi := (idx_some e1).1
    have hj := (idx_some e2).1
    decidable_of_iff (BefN h[i] h[j]) ⟨fun q => ⟨i, j, hi, hj, e1, e2, q⟩, fun ⟨i', j', _, _, f1, f2, q⟩ => by rw [e1] at f1; rw [e2] at f2; cases f1; cases f2; exact q⟩
  | none, _ => isFalse fun ⟨_, _, _, _, f1, _, _⟩ => by rw [e1] at f1; cases f1
  | some _, none => isFalse fun ⟨_, _, _, _, _, f2, _⟩ => by rw [e2] at f2; cases f2
def befIns (h : Hs) (x : Int) : List Int → List Int
  | [] => [x]
  | y :: r => if BefM h y x then y :: befIns h x r else x :: y :: r
def sortedR (h : Hs) (ms : List Int) : List Int := (risingF ms).foldl (fun o x => if (idxF h x).isSome then befIns h x o else o) []
theorem mem_befIns (h : Hs) (x z : Int) : ∀ l : List Int, z ∈ befIns h x l ↔ z = x ∨ z ∈ l
  | [] => by simp [befIns]
  | y :: r => by
    unfold befIns
    split
    · rw [List.mem_cons, mem_befIns h x z r, List.mem_cons]
      constructor
      · rintro (a | a | a) <;> simp [a]
      · rintro (a | a | a) <;> simp [a]
    · simp
theorem befM_total {h : Hs} {a b : Int} (ha : (idxF h a).isSome) (hb : (idxF h b).isSome) (hn : a ≠ b) : BefM h a b ∨ BefM h b a := by
  obtain ⟨i, hi⟩ := Option.isSome_iff_exists.1 ha
  obtain ⟨j, hj⟩ := Option.isSome_iff_exists.1 hb
  obtain ⟨li, ei⟩ := idx_some hi
  obtain ⟨lj, ej⟩ := idx_some hj
  rcases bef_total (a := h[i]) (b := h[j]) (by rw [ei, ej]; exact hn) with c | c
  · exact .inl ⟨i, j, li, lj, hi, hj, c⟩
  · exact .inr ⟨j, i, lj, li, hj, hi, c⟩
theorem befM_trans {h : Hs} {a b c : Int} (p : BefM h a b) (q : BefM h b c) : BefM h a c := by
  obtain ⟨i, j, hi, hj, e1, e2, e3⟩ := p
  obtain ⟨j', k, hj', hk, f1, f2, f3⟩ := q
  rw [e2] at f1; cases f1
  exact ⟨i, k, hi, hk, e1, f2, bef_trans e3 f3⟩
theorem befIns_asc {h : Hs} {x : Int} (hx : (idxF h x).isSome) : ∀ {l : List Int}, l.Pairwise (BefM h) → (∀ y ∈ l, (idxF h y).isSome ∧ y ≠ x) → (befIns h x l).Pairwise (BefM h)
  | [], _, _ => List.pairwise_singleton _ _
  | y :: r, hp, hk => by
    obtain ⟨h1, h2⟩ := List.pairwise_cons.1 hp
    unfold befIns
    split
    · rename_i hb
      refine List.pairwise_cons.2 ⟨fun z hz => ?_, befIns_asc hx h2 fun z hz => hk z (List.mem_cons_of_mem _ hz)⟩
      rcases (mem_befIns h x z r).1 hz with e | e
      · rw [e]; exact hb
      · exact h1 z e
    · rename_i hb
      have hk' := hk y List.mem_cons_self
      have h3 : BefM h x y := (befM_total hx hk'.1 fun e => hk'.2 e.symm).resolve_right hb
      refine List.pairwise_cons.2 ⟨fun z hz => ?_, hp⟩
      rcases List.mem_cons.1 hz with e | e
      · rw [e]; exact h3
      · exact befM_trans h3 (h1 z e)
theorem sortedR_ok (h : Hs) : ∀ (l o : List Int), o.Pairwise (BefM h) → (∀ y ∈ o, (idxF h y).isSome) → l.Nodup → (∀ y ∈ o, y ∉ l) →
    (l.foldl (fun o x => if (idxF h x).isSome then befIns h x o else o) o).Pairwise (BefM h) ∧ ∀ z, z ∈ l.foldl (fun o x => if (idxF h x).isSome then befIns h x o else o) o ↔ z ∈ o ∨ z ∈ l ∧ (idxF h z).isSome
  | [], o, ho, _, _, _ => ⟨ho, fun z => by simp⟩
  | x :: l, o, ho, hk, hn, hd => by
    obtain ⟨hn1, hn2⟩ := List.nodup_cons.1 hn
    rw [List.foldl_cons]
    by_cases hx : (idxF h x).isSome
    · rw [if_pos hx]
      obtain ⟨a, b⟩ := sortedR_ok h l (befIns h x o) (befIns_asc hx ho fun y hy => ⟨hk y hy, fun e => hd y hy (by rw [e]; exact List.mem_cons_self)⟩) (fun y hy => by
        rcases (mem_befIns h x y o).1 hy with e | e
        · rw [e]; exact hx
        · exact hk y e) hn2 fun y hy => by
        rcases (mem_befIns h x y o).1 hy with e | e
        · rw [e]; exact hn1
        · exact fun c => hd y e (List.mem_cons_of_mem _ c)
      refine ⟨a, fun z => ?_⟩
      rw [b z, mem_befIns]
      constructor
      · rintro ((c | c) | ⟨c, d⟩)
        · exact .inr ⟨by rw [c]; exact List.mem_cons_self, by rw [c]; exact hx⟩
        · exact .inl c
        · exact .inr ⟨List.mem_cons_of_mem _ c, d⟩
      · rintro (c | ⟨c, d⟩)
        · exact .inl (.inr c)
        · rcases List.mem_cons.1 c with c | c
          · exact .inl (.inl c)
          · exact .inr ⟨c, d⟩
    · rw [if_neg hx]
      obtain ⟨a, b⟩ := sortedR_ok h l o ho hk hn2 fun y hy c => hd y hy (List.mem_cons_of_mem _ c)
      refine ⟨a, fun z => ?_⟩
      rw [b z]
      constructor
      · rintro (c | ⟨c, d⟩)
        · exact .inl c
        · exact .inr ⟨List.mem_cons_of_mem _ c, d⟩
      · rintro (c | ⟨c, d⟩)
        · exact .inl c
        · rcases List.mem_cons.1 c with c | c
          · rw [c] at d; exact absurd d hx
          · exact .inr ⟨c, d⟩
theorem sorted_ref {h : Hs} (H : His rd R h) (ms : List Int) : sortedR h ms = sortedF h ms := by
  obtain ⟨r1, r2⟩ := rising_ok ms
  obtain ⟨a, b⟩ := sortedR_ok h (risingF ms) [] List.Pairwise.nil (fun y hy => nomatch hy) (r1.imp fun q => by omega) (fun y hy => nomatch hy)
  obtain ⟨c, d⟩ := sorted_ok H ms
  refine sorted_unique (r := BefM h) befM_asymm befM_irrefl a c fun z => ?_
  rw [show sortedR h ms = (risingF ms).foldl (fun o x => if (idxF h x).isSome then befIns h x o else o) [] from rfl, b z, d z, r2 z]
  simp

/-! ## Down, Past, Heads, Before, Level -/
end Go.Proofs.YtalhmpggpjbeaaaGreatDoor
namespace Go.Proofs.YtalhmpggpjbeaaaGreatDoor
open Go
variable {rd : List UInt8 → En × Int} {R : Rg}

def forkB (h : Hs) (a b : Int) : Bool := a != b && !beforeB h a b && !beforeB h b a
theorem forkB_iff (h : Hs) (a b : Int) : forkB h a b = true ↔ ForkM h a b := by
  unfold forkB ForkM
  rw [Bool.and_eq_true, Bool.and_eq_true, Bool.not_eq_true', Bool.not_eq_true', ← Bool.not_eq_true, ← Bool.not_eq_true, before_iff, before_iff, bne_iff_ne, and_assoc]
theorem fork_symm (h : Hs) (a b : Int) : forkB h a b = forkB h b a := by
  rw [Bool.eq_iff_iff, forkB_iff, forkB_iff]
  exact ⟨fun ⟨p, q, r⟩ => ⟨fun e => p e.symm, r, q⟩, fun ⟨p, q, r⟩ => ⟨fun e => p e.symm, r, q⟩⟩
def pairF (h : Hs) (l : List Int) : Option (Int × Int) := l.findSome? fun a => (l.find? fun b => forkB h a b).map fun b => (a, b)
theorem pair_some {h : Hs} {l : List Int} {p : Int × Int} (e : pairF h l = some p) : p.1 ∈ l ∧ p.2 ∈ l ∧ ForkM h p.1 p.2 := by
  obtain ⟨a, ha, e1⟩ := List.exists_of_findSome?_eq_some e
  cases e2 : l.find? fun b => forkB h a b with
  | none => rw [e2] at e1; cases e1
  | some b =>
    rw [e2] at e1
    cases e1
    exact ⟨ha, List.mem_of_find?_eq_some e2, (forkB_iff h a b).1 (List.find?_some e2)⟩
theorem pair_none {h : Hs} {l : List Int} : pairF h l = none ↔ ∀ a ∈ l, ∀ b ∈ l, ¬ ForkM h a b := by
  unfold pairF
  rw [List.findSome?_eq_none_iff]
  refine forall_congr' fun a => forall_congr' fun _ => ?_
  rw [Option.map_eq_none_iff, List.find?_eq_none]
  exact forall_congr' fun b => forall_congr' fun _ => by rw [forkB_iff]
theorem guilty_pair (h : Hs) (a : Int) : GuiltyP h a ↔ (pairF h (ownF h a)).isSome := by
  cases e : pairF h (ownF h a) with
  | none =>
    simp only [Option.isSome_none, Bool.false_eq_true, iff_false]
    rintro ⟨x, hx, y, hy, q⟩
    exact pair_none.1 e x hx y hy q
  | some p =>
    obtain ⟨h1, h2, h3⟩ := pair_some e
    exact ⟨fun _ => rfl, fun _ => ⟨p.1, h1, p.2, h2, h3⟩⟩
/-- The authors of a history, ascending. -/
def authorsF (h : Hs) : List Int := risingF (h.map fun n => n.en.author)
def forksF (h : Hs) : List (Int × Int) := (authorsF h).filterMap fun a => pairF h (ownF h a)
def guiltyF (h : Hs) : List Int := (authorsF h).filter fun a => (pairF h (ownF h a)).isSome
theorem ent_at {h : Hs} (H : His rd R h) {i : Nat} (hi : i < h.length) : entM h h[i].mark = h[i].en := by
  unfold entM
  rw [idx_of H.nodup hi]
  dsimp only
  rw [List.getElem?_eq_getElem hi]
theorem own_author {h : Hs} (H : His rd R h) {a m : Int} (hm : m ∈ ownF h a) : a ∈ authorsF h := by
  obtain ⟨h1, h2⟩ := (mem_own H a m).1 hm
  obtain ⟨i, hi⟩ := Option.isSome_iff_exists.1 h1
  obtain ⟨li, rfl⟩ := idx_some hi
  rw [ent_at H li] at h2
  unfold authorsF
  rw [(rising_ok _).2, ← h2]
  exact List.mem_map.2 ⟨h[i], List.getElem_mem li, rfl⟩
theorem mem_guilty {h : Hs} (H : His rd R h) (a : Int) : a ∈ guiltyF h ↔ GuiltyP h a := by
  unfold guiltyF
  rw [List.mem_filter, ← guilty_pair]
  refine ⟨fun q => q.2, fun q => ⟨?_, q⟩⟩
  obtain ⟨x, hx, _⟩ := id q
  exact own_author H hx
theorem guilty_asc (h : Hs) : (guiltyF h).Pairwise (· < ·) := (rising_ok _).1.filter _
/-- The authors of the pairs are the guilty ones. -/
theorem forks_authors {h : Hs} (H : His rd R h) : (forksF h).map (fun p => (entM h p.1).author) = guiltyF h := by
  unfold forksF guiltyF
  have : ∀ l : List Int, (l.filterMap fun a => pairF h (ownF h a)).map (fun p => (entM h p.1).author) = l.filter fun a => (pairF h (ownF h a)).isSome := by
    intro l
    induction l with
    | nil => rfl
    | cons a l ih =>
      cases e : pairF h (ownF h a) with
      | none => rw [List.filterMap_cons_none (f := fun a => pairF h (ownF h a)) e, List.filter_cons_of_neg (by rw [e]; simp), ih]
      | some p =>
        rw [List.filterMap_cons_some (f := fun a => pairF h (ownF h a)) e, List.filter_cons_of_pos (by rw [e]; rfl), List.map_cons, ih]
        congr 1
        exact ((mem_own H a _).1 (pair_some e).1).2
  exact this _
/-- Convict. -/
def convictF (R : Rg) (h : Hs) (a b : Sg) : Int :=
  if ¬ ValidP R a ∨ ¬ ValidP R b then 17
  else if a.key ≠ b.key then 18
  else if (idxF h a.mark).bind (fun i => h[i]?.map Nd.sg) ≠ some a ∨ (idxF h b.mark).bind (fun i => h[i]?.map Nd.sg) ≠ some b then 19
  else if forkB h a.mark b.mark = false then 21
  else 0
theorem convict_symm (R : Rg) (h : Hs) (a b : Sg) : convictF R h a b = convictF R h b a := by
  unfold convictF
  rw [fork_symm h a.mark b.mark]
  by_cases h1 : ¬ ValidP R a ∨ ¬ ValidP R b
  · rw [if_pos h1, if_pos h1.symm]
  · have h1' : ¬ (¬ ValidP R b ∨ ¬ ValidP R a) := fun c => h1 c.symm
    rw [if_neg h1, if_neg h1']
    by_cases h2 : a.key ≠ b.key
    · rw [if_pos h2, if_pos h2.symm]
    · have h2' : ¬ b.key ≠ a.key := fun c => h2 c.symm
      rw [if_neg h2, if_neg h2']
      by_cases h3 : (idxF h a.mark).bind (fun i => h[i]?.map Nd.sg) ≠ some a ∨ (idxF h b.mark).bind (fun i => h[i]?.map Nd.sg) ≠ some b
      · rw [if_pos h3, if_pos h3.symm]
      · have h3' : ¬ ((idxF h b.mark).bind (fun i => h[i]?.map Nd.sg) ≠ some b ∨ (idxF h a.mark).bind (fun i => h[i]?.map Nd.sg) ≠ some a) := fun c => h3 c.symm
        rw [if_neg h3, if_neg h3']
/-- Who is convicted has forked, and is not straight. -/
theorem convict_guilty {h : Hs} (H : His rd R h) {a b : Sg} (e : convictF R h a b = 0) : a.key = b.key ∧ GuiltyP h a.key ∧ ¬ StraightP h a.key := by
  unfold convictF at e
  split at e
  · cases e
  split at e
  · cases e
  rename_i h1 h2
  split at e
  · cases e
  rename_i h3
  split at e
  · cases e
  rename_i h4
  have hk : a.key = b.key := Decidable.not_not.1 h2
  have one : ∀ {s : Sg}, (idxF h s.mark).bind (fun i => h[i]?.map Nd.sg) = some s → s.mark ∈ ownF h s.key := by
    intro s q
    cases e1 : idxF h s.mark with
    | none => rw [e1] at q; cases q
    | some i =>
      obtain ⟨li, em⟩ := idx_some e1
      rw [e1, Option.bind_some, List.getElem?_eq_getElem li, Option.map_some] at q
      injection q with q
      rw [mem_own H, e1]
      refine ⟨rfl, ?_⟩
      rw [← em, ent_at H li, (H.at li).author, q]
  have ha := one (s := a) (Decidable.byContradiction fun c => h3 (.inl c))
  have hb := one (s := b) (Decidable.byContradiction fun c => h3 (.inr c))
  rw [← hk] at hb
  have hg : GuiltyP h a.key := ⟨_, ha, _, hb, (forkB_iff h _ _).1 (by simpa using h4)⟩
  exact ⟨hk, hg, fun s => straight_guilty H s hg⟩
end Go.Proofs.YtalhmpggpjbeaaaGreatDoor
namespace Go.Proofs.YtalhmpggpjbeaaaGreatDoor
open Go
variable {rd : List UInt8 → En × Int} {R : Rg}

theorem ent_entry (h : Hs) (m : Int) : (entryM h m).1 = entM h m := by
  unfold entryM entM
  cases idxF h m with
  | none => rfl
  | some i => dsimp only; cases h[i]? <;> rfl
def ownStep (h : Hs) (l : List (Int × List Int)) (m : Int) : List (Int × List Int) := putM l (entM h m).author ((l.lookup (entM h m).author).getD [] ++ [m])
def ownL (h : Hs) (ms : List Int) : List (Int × List Int) := ms.foldl (ownStep h) []
theorem ownL_snoc (h : Hs) (ms : List Int) (m : Int) : ownL h (ms ++ [m]) = ownStep h (ownL h ms) m := by unfold ownL; rw [List.foldl_append]; rfl
theorem own_look (h : Hs) (a : Int) : ∀ (ms : List Int) (l : List (Int × List Int)), (ms.foldl (ownStep h) l).lookup a = if (ms.filter fun m => (entM h m).author == a) = [] then l.lookup a else some ((l.lookup a).getD [] ++ ms.filter fun m => (entM h m).author == a)
  | [], l => by simp
  | m :: ms, l => by
    rw [List.foldl_cons, own_look h a ms]
    unfold ownStep
    rw [lookup_put]
    by_cases e : (entM h m).author = a
    · subst e
      rw [if_pos rfl, List.filter_cons_of_pos (by simp)]
      by_cases hn : (ms.filter fun x => (entM h x).author == (entM h m).author) = []
      · rw [if_pos hn, hn, if_neg (by simp)]
      · rw [if_neg hn, if_neg (by simp)]
        simp
    · have e' : ¬ a = (entM h m).author := fun q => e q.symm
      rw [if_neg e', List.filter_cons_of_neg (by simpa using e)]
theorem ownL_look (h : Hs) (ms : List Int) (a : Int) : (ownL h ms).lookup a = if (ms.filter fun m => (entM h m).author == a) = [] then none else some (ms.filter fun m => (entM h m).author == a) := by
  unfold ownL; rw [own_look]; rfl
theorem ownL_get (h : Hs) (a : Int) : ((ownL h (sortedF h (marksF h))).lookup a).getD [] = ownF h a := by
  rw [ownL_look]
  unfold ownF
  split
  · rename_i e; rw [e]; rfl
  · rfl
theorem ownL_nodup (h : Hs) (ms : List Int) : ((ownL h ms).map Prod.fst).Nodup := by
  have : ∀ (ms : List Int) (l : List (Int × List Int)), (l.map Prod.fst).Nodup → ((ms.foldl (ownStep h) l).map Prod.fst).Nodup := by
    intro ms
    induction ms with
    | nil => intro l q; exact q
    | cons m ms ih => intro l q; exact ih _ (nodup_put q _ _)
  exact this ms [] List.nodup_nil
theorem ownL_mem (h : Hs) (ms : List Int) (a : Int) : a ∈ (ownL h ms).map Prod.fst ↔ ∃ m ∈ ms, (entM h m).author = a := by
  have h1 := lookup_none_iff (l := ownL h ms) (x := a)
  rw [ownL_look] at h1
  by_cases e : (ms.filter fun m => (entM h m).author == a) = []
  · rw [if_pos e] at h1
    have h2 := h1.1 rfl
    constructor
    · intro q; exact absurd q h2
    · rintro ⟨m, hm, hx⟩
      have : m ∈ ms.filter fun m => (entM h m).author == a := List.mem_filter.2 ⟨hm, by simpa using hx⟩
      rw [e] at this; cases this
  · rw [if_neg e] at h1
    have h2 : ¬ a ∉ (ownL h ms).map Prod.fst := fun q => by have := h1.2 q; cases this
    constructor
    · intro _
      obtain ⟨m, hm⟩ := List.exists_mem_of_ne_nil _ e
      obtain ⟨h3, h4⟩ := List.mem_filter.1 hm
      exact ⟨m, h3, by simpa using h4⟩
    · intro _; exact Classical.not_not.1 h2
/-- The sorted keys of the map are the authors. -/
theorem own_keys {h : Hs} (H : His rd R h) : sortI ((ownL h (sortedF h (marksF h))).map Prod.fst) = authorsF h := by
  refine sorted_unique (fun a b h1 h2 => by omega) (fun a h => by omega) (sortI_asc (ownL_nodup h _)) (rising_ok _).1 fun z => ?_
  show z ∈ sortI _ ↔ z ∈ authorsF h
  unfold authorsF
  rw [sortI_mem, ownL_mem, (rising_ok _).2, List.mem_map]
  constructor
  · rintro ⟨m, hm, e⟩
    obtain ⟨_, h1⟩ := ((sorted_ok H _).2 m).1 hm
    obtain ⟨i, hi⟩ := Option.isSome_iff_exists.1 h1
    obtain ⟨li, rfl⟩ := idx_some hi
    rw [ent_at H li] at e
    exact ⟨h[i], List.getElem_mem li, e⟩
  · rintro ⟨n, hn, e⟩
    obtain ⟨i, li, rfl⟩ := List.getElem_of_mem hn
    refine ⟨h[i].mark, ((sorted_ok H _).2 _).2 ⟨(mem_marksF h _).2 ?_, ?_⟩, by rw [ent_at H li]; exact e⟩
    · rw [idx_of H.nodup li]; rfl
    · rw [idx_of H.nodup li]; rfl
theorem authors_len {h : Hs} (H : His rd R h) : (authorsF h).length ≤ h.length := by
  rw [← own_keys H]
  unfold sortI
  rw [List.length_mergeSort, List.length_map]
  have : ∀ (ms : List Int) (l : List (Int × List Int)), (l.map Prod.fst).Nodup → (ms.foldl (ownStep h) l).length ≤ l.length + ms.length := by
    intro ms
    induction ms with
    | nil => intro l _; exact Nat.le_refl _
    | cons m ms ih =>
      intro l q
      have h1 := ih (ownStep h l m) (nodup_put q _ _)
      have h2 := len_put q (entM h m).author ((l.lookup (entM h m).author).getD [] ++ [m])
      rw [List.foldl_cons]
      unfold ownStep at h1 ⊢
      rw [List.length_cons]
      split at h2 <;> omega
  have h1 := this (sortedF h (marksF h)) [] List.nodup_nil
  have h2 := (sorted_all H (ms := marksF h) fun m q => (mem_marksF h m).2 q).length_eq
  have h3 : (marksF h).length = h.length := by unfold marksF; rw [(sortI_perm _).length_eq, List.length_map]
  unfold ownL
  simp only [List.length_nil] at h1
  omega
/-- An author of a history is a key. -/
theorem author_key {h : Hs} (H : His rd R h) (hk : ∀ p ∈ R, 0 ≤ p.1 ∧ p.1 < 200) : ∀ n ∈ h, 0 ≤ n.en.author ∧ n.en.author < 200 := by
  intro n hn
  obtain ⟨i, li, rfl⟩ := List.getElem_of_mem hn
  have A := H.at li
  obtain ⟨_, h2⟩ := A.valid
  rw [A.author]
  exact hk _ (List.mem_of_getElem? h2)

/-! ## Who is straight, as it is asked -/
def StraightTo (h : Hs) (a : Int) (k : Nat) : Prop := ∀ i (hi : i < (ownF h a).length), i < k → (entM h (ownF h a)[i]).seq = i ∧ (0 < i → Kn h (ownF h a)[i - 1] (ownF h a)[i])
theorem straight_to {h : Hs} {a : Int} {k : Nat} (hk : (ownF h a).length ≤ k) : StraightTo h a k ↔ StraightP h a :=
  ⟨fun q i hi => q i hi (by omega), fun q i hi _ => q i hi⟩
theorem straight_succ {h : Hs} {a : Int} {k : Nat} (hk : k < (ownF h a).length) : StraightTo h a (k + 1) ↔ StraightTo h a k ∧ (entM h (ownF h a)[k]).seq = k ∧ (0 < k → Kn h (ownF h a)[k - 1] (ownF h a)[k]) := by
  constructor
  · intro q; exact ⟨fun i hi hik => q i hi (by omega), q k hk (by omega)⟩
  · rintro ⟨q, r⟩ i hi hik
    by_cases e : i = k
    · subst e; exact r
    · exact q i hi (by omega)
/-- Who is not known to be straight. -/
theorem straight_not {h : Hs} {a : Int} {k : Nat} (hk : k < (ownF h a).length) (q : ¬ ((entM h (ownF h a)[k]).seq = k ∧ (0 < k → Kn h (ownF h a)[k - 1] (ownF h a)[k]))) : ¬ StraightP h a := fun c => q (c k hk)

/-! ## Pairs, as they are looked for -/
theorem pair_at {h : Hs} {l : List Int} {i k : Nat} (hi : i < l.length) (hk : k < l.length) (h1 : ∀ a ∈ l.take i, ∀ b ∈ l, forkB h a b = false) (h2 : ∀ b ∈ l.take k, forkB h l[i] b = false) (h3 : forkB h l[i] l[k] = true) : pairF h l = some (l[i], l[k]) := by
  unfold pairF
  have e : l = l.take i ++ l[i] :: l.drop (i + 1) := by rw [← List.drop_eq_getElem_cons hi]; exact (List.take_append_drop i l).symm
  have e2 : l = l.take k ++ l[k] :: l.drop (k + 1) := by rw [← List.drop_eq_getElem_cons hk]; exact (List.take_append_drop k l).symm
  have hf : (l.find? fun b => forkB h l[i] b) = some l[k] := by
    rw [List.find?_eq_some_iff_append]
    exact ⟨h3, _, _, e2, fun b hb => by rw [h2 b hb]; rfl⟩
  rw [List.findSome?_eq_some_iff]
  refine ⟨l.take i, l[i], l.drop (i + 1), e, by rw [hf]; rfl, fun a ha => ?_⟩
  rw [Option.map_eq_none_iff, List.find?_eq_none]
  intro b hb
  rw [h1 a ha b hb]
  decide
theorem pair_no {h : Hs} {l : List Int} (h1 : ∀ a ∈ l, ∀ b ∈ l, forkB h a b = false) : pairF h l = none := by
  rw [pair_none]
  intro a ha b hb q
  have := (forkB_iff h a b).2 q
  rw [h1 a ha b hb] at this
  cases this
theorem take_next {P : Int → Prop} {l : List Int} {k : Nat} (hk : k < l.length) (h1 : ∀ b ∈ l.take k, P b) (h2 : P l[k]) : ∀ b ∈ l.take (k + 1), P b := by
  intro b hb
  rw [List.take_succ_eq_append_getElem hk, List.mem_append, List.mem_singleton] at hb
  rcases hb with hb | rfl
  · exact h1 b hb
  · exact h2
/-! ## Convict, by what is read of the history -/
def sgAt (h : Hs) (s : Sg) : Bool := (idxF h s.mark).bind (fun i => h[i]?.map Nd.sg) == some s
theorem convict_eq (R : Rg) (h : Hs) (a b : Sg) : convictF R h a b = if decide (ValidP R a) = false then 17 else if decide (ValidP R b) = false then 17 else if a.key ≠ b.key then 18 else if sgAt h a = false then 19 else if sgAt h b = false then 19 else if forkB h a.mark b.mark = false then 21 else 0 := by
  unfold convictF sgAt
  generalize (idxF h a.mark).bind (fun i => h[i]?.map Nd.sg) = x
  generalize (idxF h b.mark).bind (fun i => h[i]?.map Nd.sg) = y
  by_cases h1 : ValidP R a <;> by_cases h2 : ValidP R b <;> by_cases h3 : a.key = b.key <;> by_cases h4 : x = some a <;> by_cases h5 : y = some b <;> simp [h1, h2, h3, h4, h5]
/-- Two of one author that fork, in a history, convict. -/
theorem convict_ok {h : Hs} (H : His rd R h) {a b : Sg} (ha : (idxF h a.mark).bind (fun i => h[i]?.map Nd.sg) = some a) (hb : (idxF h b.mark).bind (fun i => h[i]?.map Nd.sg) = some b) (hk : a.key = b.key) (hf : ForkM h a.mark b.mark) : convictF R h a b = 0 := by
  have hv : ∀ {s : Sg}, (idxF h s.mark).bind (fun i => h[i]?.map Nd.sg) = some s → ValidP R s := by
    intro s q
    cases e1 : idxF h s.mark with
    | none => rw [e1] at q; cases q
    | some i =>
      obtain ⟨li, em⟩ := idx_some e1
      rw [e1, Option.bind_some, List.getElem?_eq_getElem li, Option.map_some] at q
      injection q with q
      rw [← q]
      exact (H.at li).valid
  unfold convictF
  rw [if_neg (by simp [hv ha, hv hb]), if_neg (by simpa using hk), if_neg (by simp [ha, hb]), if_neg (by rw [(forkB_iff h _ _).2 hf]; decide)]
end Go.Proofs.YtalhmpggpjbeaaaGreatDoor
namespace Go.Proofs.YtalhmpggpjbeaaaGreatDoor
open Go

/-- What each author has written, by insertion. -/
def ownR (h : Hs) (a : Int) : List Int := (sortedR h (risingF (h.map Nd.mark))).filter fun m => (entM h m).author == a
theorem own_ref {rd : List UInt8 → En × Int} {R : Rg} {h : Hs} (H : His rd R h) (a : Int) : ownR h a = ownF h a := by
  unfold ownR ownF
  rw [sorted_ref H, show marksF h = risingF (h.map Nd.mark) from (rising_sort H.nodup).symm]
def forksR (h : Hs) : List (Int × Int) := (authorsF h).filterMap fun a => pairF h (ownR h a)
theorem forks_eq {rd : List UInt8 → En × Int} {R : Rg} {h : Hs} (H : His rd R h) : forksF h = forksR h := by
  unfold forksF forksR
  have : (fun a => pairF h (ownF h a)) = fun a => pairF h (ownR h a) := funext fun a => by rw [own_ref H]
  rw [this]
def straightL (h : Hs) (l : List Int) : Bool := (List.range l.length).all fun i => (entM h (l[i]?.getD 0)).seq == (i : Int) && (i == 0 || beforeB h (l[i - 1]?.getD 0) (l[i]?.getD 0))
theorem straightL_iff (h : Hs) (a : Int) : straightL h (ownF h a) = true ↔ StraightP h a := by
  unfold straightL StraightP
  rw [List.all_eq_true]
  constructor
  · intro q i hi
    have := q i (List.mem_range.2 hi)
    rw [Bool.and_eq_true, Bool.or_eq_true, List.getElem?_eq_getElem hi, Option.getD_some, beq_iff_eq, beq_iff_eq] at this
    refine ⟨this.1, fun h0 => ?_⟩
    rcases this.2 with c | c
    · omega
    · rw [List.getElem?_eq_getElem (show i - 1 < (ownF h a).length by omega), Option.getD_some, before_iff] at c
      exact c
  · intro q i hi
    have hi := List.mem_range.1 hi
    obtain ⟨q1, q2⟩ := q i hi
    rw [Bool.and_eq_true, Bool.or_eq_true, List.getElem?_eq_getElem hi, Option.getD_some, beq_iff_eq, beq_iff_eq]
    refine ⟨q1, ?_⟩
    by_cases h0 : i = 0
    · exact .inl h0
    · right
      rw [List.getElem?_eq_getElem (show i - 1 < (ownF h a).length by omega), Option.getD_some, before_iff]
      exact q2 (by omega)
theorem straight_ref {rd : List UInt8 → En × Int} {R : Rg} {h : Hs} (H : His rd R h) (a : Int) : StraightP h a ↔ straightL h (ownR h a) = true := by rw [own_ref H, straightL_iff]

/-- An entry as nt, of another day. -/
def nd1 (a q : Int) (k : List Int) : En := ⟨a, q, 1, k, 1, 0, 0, 0, 0, -1, [], [], []⟩
def fk0 : Rg × Sg := signF [] 3 (txtF (nt 3 0 []))
def fk1 : Rg × Sg := signF fk0.1 3 (txtF (nt 3 1 [0]))
def fk2 : Rg × Sg := signF fk1.1 3 (txtF (nd1 3 1 [0]))
def fk3 : Rg × Sg := signF fk2.1 4 (txtF (nt 4 0 [1]))
def fkR : Rg := fk3.1
def fkL : List Sg := [fk0.2, fk1.2, fk2.2, fk3.2]
def fkA1 : Hs := (addF rdF fkR [] fk0.2).1
def fkA2 : Hs := (addF rdF fkR fkA1 fk1.2).1
def fkA : Hs := (addF rdF fkR fkA2 fk3.2).1
def fkB3 : Hs := (addF rdF fkR fkA2 fk2.2).1
def fkB : Hs := (addF rdF fkR fkB3 fk3.2).1
theorem fk_len : fkR.length = 4 ∧ fk0.1.length = 1 ∧ fk1.1.length = 2 ∧ fk2.1.length = 3 := by decide +kernel
theorem fk_txt : (txtF (nt 3 0 [])).length ≤ 1000 ∧ (txtF (nt 3 1 [0])).length ≤ 1000 ∧ (txtF (nd1 3 1 [0])).length ≤ 1000 ∧ (txtF (nt 4 0 [1])).length ≤ 1000 := by decide +kernel
theorem fk_adds : (addF rdF fkR [] fk0.2).2 = 0 ∧ (addF rdF fkR fkA1 fk1.2).2 = 0 ∧ (addF rdF fkR fkA2 fk3.2).2 = 0 ∧ (addF rdF fkR fkA2 fk2.2).2 = 0 ∧ (addF rdF fkR fkB3 fk3.2).2 = 0 := by decide +kernel
theorem fk_hisA : His rdF fkR fkA := ((His.nil.add fk0.2).add fk1.2).add fk3.2
theorem fk_hisB : His rdF fkR fkB := (((His.nil.add fk0.2).add fk1.2).add fk2.2).add fk3.2
theorem fk_forksA : forksF fkA = [] := by rw [forks_eq fk_hisA]; decide +kernel
theorem fk_forksB : forksF fkB = [(1, 2)] := by rw [forks_eq fk_hisB]; decide +kernel
theorem fk_guiltyA : guiltyF fkA = [] := by rw [← forks_authors fk_hisA, fk_forksA]; rfl
theorem fk_guiltyB : guiltyF fkB = [3] := by rw [← forks_authors fk_hisB, fk_forksB]; decide +kernel
theorem fk_straightA : StraightP fkA 3 ∧ StraightP fkA 4 ∧ StraightP fkA 7 := by
  rw [straight_ref fk_hisA, straight_ref fk_hisA, straight_ref fk_hisA]; decide +kernel
theorem fk_straightB : ¬ StraightP fkB 3 := by rw [straight_ref fk_hisB]; decide +kernel
theorem fk_convict : convictF fkR fkB fk1.2 fk2.2 = 0 ∧ convictF fkR fkB fk0.2 fk1.2 = 21 ∧ convictF fkR fkB fk1.2 fk1.2 = 21 ∧ convictF fkR fkA fk1.2 fk2.2 = 19 := by decide +kernel
end Go.Proofs.YtalhmpggpjbeaaaGreatDoor
