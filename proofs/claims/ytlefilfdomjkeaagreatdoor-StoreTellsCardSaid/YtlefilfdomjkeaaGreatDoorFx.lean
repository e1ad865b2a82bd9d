/- Appending to a slice that the call owns, one element at a time, and what such a slice reads as. -/
import Derived.Test.YtlefilfdomjkeaaGreatDoorFw
namespace Go.Proofs.YtlefilfdomjkeaaGreatDoor
open Go.RowKit Go.ChangeShapes Go.WideShapes Go.Deep

/-- A string, whatever its length. -/
def kBytes : Knd ByteArray where
  size := 1
  rep _ _ cs x := cs = [.string x]
  len h := by rw [h]; rfl
  keep h _ := h
  mono h _ := h

/-- A slice type and its element type. -/
structure ElemTy (P : Program) (t e : TypeId) (size bytes : Nat) : Prop where
  ht : P.underlying t = some (.slice e)
  hi : ∃ i z, P.info? e = some i ∧ i.zero = some z ∧ i.size = size ∧ i.bytes = bytes ∧ z.cells.size = size
  pos : 0 < size

theorem ElemTy.mk' {P : Program} {t e : TypeId} {size bytes : Nat} {z : Value} (ht : P.underlying t = some (.slice e)) (h : (P.info? e).map (fun i => (i.zero, i.size, i.bytes)) = some (some z, size, bytes)) (hz : z.cells.size = size) (pos : 0 < size) :
    ElemTy P t e size bytes := by
  obtain ⟨i0, hi, hz0, hz1, hz2⟩ := info_parts h
  exact ⟨ht, ⟨i0, z, hi, hz0, hz1, hz2, hz⟩, pos⟩

section
variable {P : Program}

/-- An append to an owned slice: the row stays where it was, or is new. -/
theorem append_own2 {t e : TypeId} {size bytes : Nat} (T : ElemTy P t e size bytes) {w : World} {base : Nat} {v : Value} {n : Nat} {xs : List Value} (hown : w.ownsRow base e size v n xs)
    (ad : Addr) (m c : Nat) (news : List Value) (hl : news.length = m * size) (hnews : ∀ j u, news[j]? = some u → w.cell? (ad.add j) = some u) (h1 : ∀ u ∈ news, u.oneCell' = true)
    (h63 : n + m ≤ maxLen) (hbytes : (n + m) * bytes ≤ 140737488355328) (hbase : base ≤ w.heap.size) (ty : TypeId) :
    ∃ v' w', (Builtin.append_ #[t, t] ty #[v, .slice (some ad) m c]).run P w = .ok v' w' ∧ w'.ownsRow base e size v' (n + m) (xs ++ news) ∧ w.grownBy w' v.ownBlock ∧
      (v'.ownBlock = v.ownBlock ∨ ∃ g, v'.ownBlock = some g ∧ w.heap.size ≤ g) := by
  obtain ⟨ht, ⟨i, z, hi, hz, hsz, hby, hzs⟩, hpos⟩ := T
  obtain ⟨v', w', hr, h2, h3, h4⟩ := run_append_own (P := P) w base t ty e i z size bytes ht hi hz hsz hby hzs hpos v n xs hown ad m c news hl hnews h1 h63 hbytes hbase
  refine ⟨v', w', hr, h2, h3, ?_⟩
  rcases hown.2 with ⟨rfl, rfl⟩ | ⟨g, cap, cur, rfl, hbg, hg, hnc, hcm, hcs, htake⟩
  · by_cases hm : m = 0
    · exact .inl (by rw [h4.2 ⟨rfl, hm⟩])
    · have hr2 := run_append_nil (P := P) w t ty e i z ht hi hz ad m c news (by rw [hsz]; exact hl) hnews (by omega) (by unfold maxLen at h63; omega) (by rw [hby]; simp only [Nat.zero_add] at hbytes; omega)
      rw [hr2] at hr
      injection hr with hv _
      exact .inr ⟨_, by rw [← hv]; rfl, Nat.le_refl _⟩
  · by_cases hroom : n + m ≤ cap
    · have hfit : n * i.size + news.length ≤ cur.size := by rw [hl, hcs, hsz, ← Nat.add_mul]; exact Nat.mul_le_mul_right _ hroom
      have hr2 := run_append_room (P := P) w t ty e i ht hi g n cap cur hg ad m c news (by rw [hsz]; exact hl) hnews h1 hroom hfit
      rw [hr2] at hr
      injection hr with hv _
      exact .inl (by rw [← hv]; rfl)
    · have holds : ∀ j u, xs[j]? = some u → w.cell? ((⟨g, 0, none⟩ : Addr).add j) = some u := hown.cells (g := g) rfl
      have hr2 := run_append_grow (P := P) w t ty e i z ht hi hz ⟨g, 0, none⟩ n cap xs (by rw [hsz]; exact hown.1) holds ad m c news (by rw [hsz]; exact hl) hnews (by omega) (by unfold maxLen at h63; omega) (growslice_fits (by omega) (by rw [hby]; exact hbytes))
      rw [hr2] at hr
      injection hr with hv _
      exact .inr ⟨_, by rw [← hv]; rfl, Nat.le_refl _⟩

/-- An append of one element, whose cells the statement has just laid in a new block. -/
theorem append_one {t e : TypeId} {size bytes : Nat} (T : ElemTy P t e size bytes) {w : World} {base : Nat} {v : Value} {n : Nat} {xs : List Value} (hown : w.ownsRow base e size v n xs)
    (cells : Array Value) (hc : cells.size = size) (h1 : ∀ u ∈ cells, u.oneCell' = true) (h63 : n + 1 ≤ maxLen) (hbytes : (n + 1) * bytes ≤ 140737488355328) (hbase : base ≤ w.heap.size) (ty : TypeId) (fr : Nat × Nat) :
    ∃ v' w', (Builtin.append_ #[t, t] ty #[v, .slice (some ⟨w.heap.size, 0, none⟩) 1 1]).run P (w.alloc (.cells cells e fr)) = .ok v' w' ∧ w'.ownsRow base e size v' (n + 1) (xs ++ cells.toList) ∧
      Upd (fun k => v.ownBlock = some k) w w' ∧ (v'.ownBlock = v.ownBlock ∨ ∃ g, v'.ownBlock = some g ∧ w.heap.size < g) := by
  obtain ⟨v', w', hr, h2, h3, h4⟩ := append_own2 T (hown.alloc (.cells cells e fr)) ⟨w.heap.size, 0, none⟩ 1 1 cells.toList (by simp [hc]) (fun j u hu => by
    have e1 : Addr.add ⟨w.heap.size, 0, none⟩ j = ⟨w.heap.size, j, none⟩ := by unfold Addr.add; split <;> simp_all
    rw [e1, cell_of_block heap_alloc_new]
    simpa using hu) (by simpa using h1) h63 hbytes (by simp; omega) ty
  refine ⟨v', w', hr, h2, ((Upd.refl _ w).alloc _).grown h3 (fun k hk => .inl hk), ?_⟩
  rcases h4 with h4 | ⟨g, hg, hs⟩
  · exact .inl h4
  · exact .inr ⟨g, hg, by simp at hs; omega⟩

theorem ownsRow_upd {S : Nat → Prop} {w w' : World} {base : Nat} {e : TypeId} {size : Nat} {v : Value} {n : Nat} {xs : List Value} (h : w.ownsRow base e size v n xs) (u : Upd S w w') (hS : ∀ g, v.ownBlock = some g → ¬ S g) :
    w'.ownsRow base e size v n xs := by
  obtain ⟨h1, h2⟩ := h
  refine ⟨h1, ?_⟩
  rcases h2 with h2 | ⟨g, cap, cur, rfl, hb, hg, r⟩
  · exact .inl h2
  · exact .inr ⟨g, cap, cur, rfl, hb, by rw [u.block g (heap_lt hg) (hS g rfl)]; exact hg, r⟩

theorem ownsRow_fits {w : World} {base : Nat} {e : TypeId} {size : Nat} {v : Value} {n : Nat} {xs : List Value} (h : w.ownsRow base e size v n xs) : (v = .slice none 0 0 ∧ n = 0) ∨ ∃ g cap, v = .slice (some ⟨g, 0, none⟩) n cap ∧ base ≤ g ∧ g < w.heap.size ∧ n ≤ cap ∧ cap ≤ maxLen := by
  rcases h.2 with h2 | ⟨g, cap, cur, rfl, hb, hg, h3, h4, _⟩
  · exact .inl h2
  · exact .inr ⟨g, cap, rfl, hb, heap_lt hg, h3, h4⟩

/-- An owned slice reads as its elements. -/
theorem ownsRow_rep {α : Type} {K : Knd α} {A : Nat → Prop} {w : World} {base : Nat} {e : TypeId} {v : Value} {l : List α} {xs : List Value} (h : w.ownsRow base e K.size v l.length xs)
    (hx : ∀ i (hi : i < l.length), ∃ cs, K.rep A w cs l[i] ∧ ∀ j, j < K.size → xs[i * K.size + j]? = cs[j]?) (hA : ∀ g, v.ownBlock = some g → A g) : (kSlice K).rep A w [v] l := by
  obtain ⟨h1, ⟨rfl, h0⟩ | ⟨g, cap, cur, rfl, hb, hg, hn, hc, hs, ht⟩⟩ := h
  · exact .inl ⟨none, 0, rfl, Nat.zero_le _, List.length_eq_zero_iff.1 h0⟩
  · refine .inr ⟨g, 0, cap, rfl, hn, hc, hA g rfl, fun i hi => ?_⟩
    obtain ⟨cs, r, hcs⟩ := hx i hi
    refine ⟨cs, r, fun j hj => ?_⟩
    rw [K.len r] at hj
    rw [← hcs j hj, cell_of_block hg, ← ht, List.getElem?_take, if_pos, Nat.zero_add, Array.getElem?_toList]
    calc i * K.size + j < i * K.size + K.size := by omega
      _ = (i + 1) * K.size := by rw [Nat.add_mul, Nat.one_mul]
      _ ≤ l.length * K.size := Nat.mul_le_mul_right _ hi

theorem ownsRow_rep1 {α : Type} {K : Knd α} (h1 : K.size = 1) {A : Nat → Prop} {w : World} {base : Nat} {e : TypeId} {v : Value} {l : List α} (f : α → Value) (h : w.ownsRow base e 1 v l.length (l.map f))
    (hx : ∀ x ∈ l, K.rep A w [f x] x) (hA : ∀ g, v.ownBlock = some g → A g) : (kSlice K).rep A w [v] l := by
  refine ownsRow_rep (e := e) (xs := l.map f) (by rw [h1]; exact h) (fun i hi => ⟨_, hx _ (List.getElem_mem hi), fun j hj => ?_⟩) hA
  rw [h1] at hj ⊢
  obtain rfl : j = 0 := by omega
  simp [hi]
end
end Go.Proofs.YtlefilfdomjkeaaGreatDoor
