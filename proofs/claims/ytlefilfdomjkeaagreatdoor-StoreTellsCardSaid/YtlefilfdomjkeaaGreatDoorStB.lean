/- The memory of a store; walks of its small methods. -/
import Derived.Test.YtlefilfdomjkeaaGreatDoorStA
namespace Go.Proofs.YtlefilfdomjkeaaGreatDoor
open Go.RowKit Go.Deep

/-- The bounds of a store's numbers. -/
structure StOk (S : St) : Prop where
  next : S.next ≤ 900000
  len : S.len ≤ 900000
  ats : ∀ a ∈ S.ats, a ≤ 900000
  same : S.ats.length = S.recs.length
  txt : ∀ r ∈ S.recs, r.length ≤ 1000000
abbrev stC (p : Nat) (F : Fl) (S : St) (vr va : Value) : Array Value := #[.pointer (some ⟨p, 0, none⟩), .int .i64 F.nb, .int .i64 F.np, .int .i64 S.first, .int .i64 S.next, vr, va]
/-- The store in block x: its flash in the blocks p and q; all blocks that it may write are in O. -/
structure StoreAt (w : World) (O : Nat → Prop) (x p q : Nat) (F : Fl) (S : St) (vr va : Value) : Prop where
  head : w.heap[x]? = some (.cells (stC p F S vr va) 72 (0, 0))
  recs : OwnS w vr S.recs
  ats : OwnN w va S.ats
  flash : FlashAt w p q F
  ox : O x
  op : O p
  oq : O q
  ovr : ∀ g, vr.ownBlock = some g → O g
  ova : ∀ g, va.ownBlock = some g → O g
  lt : ∀ k, O k → k < w.heap.size
/-- What a store may have written. -/
def Sto (O : Nat → Prop) (w w' : World) : Prop := Upd (fun k => O k ∧ NoStr w k) w w'
theorem NoStr.back {S : Nat → Prop} {a b : World} {k : Nat} (h : NoStr b k) (u : Upd S a b) (hk : k < a.heap.size) (hS : ¬ S k) : NoStr a k := by
  intro s e; exact h s ((u.block k hk hS).trans e)
theorem Sto.refl (O : Nat → Prop) (w : World) : Sto O w w := Upd.refl _ _
theorem Sto.of0 {O : Nat → Prop} {a b : World} (u : Upd (fun _ => False) a b) : Sto O a b := u.mono fun _ h => h.elim
theorem Sto.trans {O O' : Nat → Prop} {a b c : World} (h : Sto O a b) (k : Sto O' b c) (hO : ∀ i, O' i → O i ∨ a.heap.size ≤ i) : Sto O a c := by
  refine Upd.comp h k fun i hi ht => ?_
  rcases hO i ht.1 with h1 | h1
  · by_cases hs : O i ∧ NoStr a i
    · exact hs
    · exact ⟨h1, ht.2.back h hi hs⟩
  · omega
theorem Sto.then {O : Nat → Prop} {a b c : World} (h : Sto O a b) (k : Sto O b c) : Sto O a c := h.trans k fun _ => .inl
theorem Sto.then0 {O : Nat → Prop} {a b c : World} (h : Sto O a b) (k : Upd (fun _ => False) b c) : Sto O a c := h.then (.of0 k)
/-- What is not the store's stays. -/
theorem Sto.block {O : Nat → Prop} {a b : World} (h : Sto O a b) {k : Nat} (hk : k < a.heap.size) (hO : ¬ O k) : b.heap[k]? = a.heap[k]? := Upd.block h k hk fun e => hO e.1
theorem Sto.size {O : Nat → Prop} {a b : World} (h : Sto O a b) : a.heap.size ≤ b.heap.size := Upd.size h
theorem Sto.env {O : Nat → Prop} {a b : World} (h : Sto O a b) (E : Env a) (hO : ∀ k, O k → 6 ≤ k) : Env b := E.keep h fun k hk => hO k hk.1
section
variable {w : World} {O : Nat → Prop} {x p q : Nat} {F : Fl} {S : St} {vr va : Value}
theorem StoreAt.cells (h : StoreAt w O x p q F S vr va) : (w.cell? ⟨x, 0, none⟩ = some (.pointer (some ⟨p, 0, none⟩)) ∧ w.cell? ⟨x, 1, none⟩ = some (.int .i64 F.nb) ∧ w.cell? ⟨x, 2, none⟩ = some (.int .i64 F.np) ∧ w.cell? ⟨x, 3, none⟩ = some (.int .i64 S.first) ∧
    w.cell? ⟨x, 4, none⟩ = some (.int .i64 S.next) ∧ w.cell? ⟨x, 5, none⟩ = some vr ∧ w.cell? ⟨x, 6, none⟩ = some va) ∧ ∀ o, w.frozen? ⟨x, o, none⟩ = false := by
  refine ⟨⟨?_, ?_, ?_, ?_, ?_, ?_, ?_⟩, fun o => frozen_of_block h.head⟩ <;> rw [cell_of_block h.head] <;> rfl
theorem noStr_x {t : TypeId} {c : Array Value} (ht : t ≠ 9) {k : Nat} (h : w.heap[k]? = some (.cells c t (0, 0))) : NoStr w k := by
  intro s e
  rw [h] at e
  injection e with e
  injection e with _ e _
  exact ht e
theorem StoreAt.noStr (h : StoreAt w O x p q F S vr va) : NoStr w x := noStr_x (by decide) h.head
theorem StoreAt.ne (h : StoreAt w O x p q F S vr va) : x ≠ p ∧ x ≠ q := by
  obtain ⟨cap, h1⟩ := h.flash.head
  obtain ⟨cs, h2, _⟩ := h.flash.rows
  refine ⟨fun e => ?_, fun e => ?_⟩
  · subst e; have := h.head; rw [h1] at this; simp at this
  · subst e; have := h.head; rw [h2] at this; injection this with e; injection e with _ e _; exact absurd e (by decide)
/-- Other memory was written. -/
theorem StoreAt.upd {T : Nat → Prop} {w' : World} (h : StoreAt w O x p q F S vr va) (u : Upd T w w') (hT : ∀ k, O k → ¬ T k) (hS : ∀ k, T k → NoStr w k) : StoreAt w' O x p q F S vr va :=
  ⟨(u.block x (heap_lt h.head) (hT x h.ox)).trans h.head, Own1.upd h.recs u fun g hg => hT g (h.ovr g hg), Own1.upd h.ats u fun g hg => hT g (h.ova g hg), h.flash.upd u (hT p h.op) (hT q h.oq) hS, h.ox, h.op, h.oq, h.ovr, h.ova, fun k hk => Nat.lt_of_lt_of_le (h.lt k hk) u.size⟩
theorem StoreAt.upd0 {w' : World} (h : StoreAt w O x p q F S vr va) (u : Upd (fun _ => False) w w') : StoreAt w' O x p q F S vr va := h.upd u (fun _ _ => id) fun _ h => h.elim
theorem own_ne {e : TypeId} {v : Value} {n : Nat} {xs : List Value} (h : Own1 e w v n xs) {k : Nat} {t : TypeId} {c : Array Value} (hk : w.heap[k]? = some (.cells c t (0, 0))) (ht : e ≠ t) : ∀ g, v.ownBlock = some g → g ≠ k := by
  intro g hg e
  subst e
  obtain ⟨_, ⟨rfl, _⟩ | ⟨g', cap, cur, rfl, _, hb, _⟩⟩ := h.own
  · cases hg
  · injection hg with hg
    subst hg
    rw [hb] at hk
    injection hk with hk
    injection hk with _ hk _
    exact ht hk
/-- The flash was written. -/
theorem StoreAt.flashed {w' : World} {G : Fl} (h : StoreAt w O x p q F S vr va) (u : Upd (fun k => k = p ∨ k = q) w w') (f : FlashAt w' p q G) (hn : G.nb = F.nb) (hk : G.np = F.np) : StoreAt w' O x p q G S vr va := by
  obtain ⟨cap, h1⟩ := h.flash.head
  obtain ⟨cs, h2, _⟩ := h.flash.rows
  refine ⟨?_, Own1.upd h.recs u fun g hg => ?_, Own1.upd h.ats u fun g hg => ?_, f, h.ox, h.op, h.oq, h.ovr, h.ova, fun k hk => Nat.lt_of_lt_of_le (h.lt k hk) u.size⟩
  · rw [u.block x (heap_lt h.head) (by have := h.ne; rintro (e | e); exact this.1 e; exact this.2 e), show stC p G S vr va = stC p F S vr va by unfold stC; rw [hn, hk]]; exact h.head
  · have a := own_ne h.recs h1 (by decide) g hg; have b := own_ne h.recs h2 (by decide) g hg
    rintro (e | e)
    · exact a e
    · exact b e
  · have a := own_ne h.ats h1 (by decide) g hg; have b := own_ne h.ats h2 (by decide) g hg
    rintro (e | e)
    · exact a e
    · exact b e
theorem StoreAt.sto {w' : World} (h : StoreAt w O x p q F S vr va) (u : Upd (fun k => k = p ∨ k = q) w w') : Sto O w w' := u.mono fun k hk => by
  rcases hk with rfl | rfl
  · exact ⟨h.op, h.flash.noStr_p⟩
  · exact ⟨h.oq, h.flash.noStr_q⟩
/-- The store's own fields were written. -/
theorem StoreAt.headed {w' : World} {S' : St} (h : StoreAt w O x p q F S vr va) (u : Upd (· = x) w w') (hh : w'.heap[x]? = some (.cells (stC p F S' vr va) 72 (0, 0))) (hr : S'.recs = S.recs) (ha : S'.ats = S.ats) : StoreAt w' O x p q F S' vr va :=
  ⟨hh, by rw [hr]; exact Own1.upd h.recs u fun g hg => own_ne h.recs h.head (by decide) g hg, by rw [ha]; exact Own1.upd h.ats u fun g hg => own_ne h.ats h.head (by decide) g hg,
   h.flash.upd u (fun e => h.ne.1 e.symm) (fun e => h.ne.2 e.symm) fun k hk => hk ▸ h.noStr, h.ox, h.op, h.oq, h.ovr, h.ova, fun k hk => Nat.lt_of_lt_of_le (h.lt k hk) u.size⟩
theorem StoreAt.sto_x {w' : World} (h : StoreAt w O x p q F S vr va) (u : Upd (· = x) w w') : Sto O w w' := u.mono fun k hk => by subst hk; exact ⟨h.ox, h.noStr⟩
end

/-! ## Small methods -/
section
variable {w : World} {O : Nat → Prop} {x p q : Nat} {F : Fl} {S : St} {vr va : Value}
theorem first_any (h : StoreAt w O x p q F S vr va) : Calls Tryz.prog 20 #[.pointer (some ⟨x, 0, none⟩)] w fun e w' => e = .returned (.int .i64 S.first) ∧ w = w' := by
  obtain ⟨⟨c0, c1, c2, c3, c4, c5, c6⟩, hf⟩ := h.cells
  clear h
  go_enter Tryz.func20, Tryz.ntmps20
  go_wp2_with fail
  go_ret
  exact ⟨rfl, rfl⟩
theorem len_any (h : StoreAt w O x p q F S vr va) (ok : StOk S) : Calls Tryz.prog 21 #[.pointer (some ⟨x, 0, none⟩)] w fun e w' => e = .returned (.int .i64 S.len) ∧ Upd (fun _ => False) w w' := by
  obtain ⟨⟨c0, c1, c2, c3, c4, c5, c6⟩, hf⟩ := h.cells
  obtain ⟨a, cap, rfl, h1, h2⟩ := h.recs.fits
  have hl := ok.len
  have e : S.len = S.first + S.recs.length := rfl
  have hb1 : (S.first : Int) + S.recs.length ≤ 900000 := by omega
  have HE := hid e
  clear h ok e
  go_enter Tryz.func21, Tryz.ntmps21
  go_wp2_with fail
  go_region
  all_goals go_wp2_with fail
  all_goals go_ret
  all_goals exact ⟨by rw [HE.out]; simp, (Upd.refl _ _).drew⟩
end
end Go.Proofs.YtlefilfdomjkeaaGreatDoor
