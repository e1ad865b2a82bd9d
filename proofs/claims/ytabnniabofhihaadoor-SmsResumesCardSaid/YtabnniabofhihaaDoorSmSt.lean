/- A box with one message whose parts come: the box's methods, by the message alone. -/
import Derived.Test.YtabnniabofhihaaDoorSmGot
import Derived.Test.YtabnniabofhihaaDoorSmFew
namespace Go.Proofs.YtabnniabofhihaaDoor
open Go.RowKit Go.Deep

/-- At w, bb is a box, made since wB, in which message id has c parts, those of f, and stands as m. -/
structure St (wB : World) (bb : Nat) (id : Int) (c : Nat) (f : Nat → Bs) (m : Ms) (O : Nat → Prop) (w : World) : Prop where
  box : ∃ bx, IsBox w O bb bx ∧ Got bx id c f m
  own : ∀ k, O k → wB.heap.size ≤ k
  upd : Upd (fun _ => False) wB w
section
variable {wB w w' : World} {bb : Nat} {id : Int} {c : Nat} {f : Nat → Bs} {m : Ms} {O : Nat → Prop}
theorem St.keep (h : St wB bb id c f m O w) (u : Upd (fun _ => False) w w') : St wB bb id c f m O w' :=
  let ⟨bx, h1, h2⟩ := h.box
  ⟨⟨bx, h1.keep u, h2⟩, h.own, h.upd.trans u⟩
theorem St.ok (h : St wB bb id c f m O w) : MsOk m := let ⟨_, h1, h2⟩ := h.box; ms_of h1.ok h2.look
theorem St.lt (h : St wB bb id c f m O w) : ∀ k, O k → 6 ≤ k ∧ k < w.heap.size := let ⟨_, h1, _⟩ := h.box; h1.lt
theorem st_take (s : Bs) (i : Nat) (E : Env w) (h : St wB bb id c f m O w) (hp : partF s = some ⟨id, (i : Nat), (c : Nat), f i⟩) (hl : s.length ≤ 10000000) :
    Calls Tryd.prog 12 #[.pointer (some ⟨bb, 0, none⟩), .string ⟨s.toArray⟩] w fun e w' => e = .returned (.int .i64 0) ∧ ∃ O', St wB bb id c f (addPart m i (f i)) O' w' ∧ (∀ k, O' k → O k ∨ w.heap.size ≤ k) ∧ Upd O w w' := by
  obtain ⟨bx, hb, hg⟩ := h.box
  obtain ⟨ht, hg'⟩ := take_got hg hp
  refine (take_any bb O bx s w E hb hl).mono ?_
  rintro e w' ⟨rfl, O', hb', ho, u⟩
  rw [ht] at hb' ⊢
  refine ⟨rfl, O', ⟨⟨_, hb', hg'⟩, fun k hk => ?_, h.upd.comp u fun j hj hO => ?_⟩, ho, u⟩
  · rcases ho k hk with hk | hk
    · exact h.own k hk
    · exact Nat.le_trans h.upd.size hk
  · have := h.own j hO; omega
theorem st_missing (h : St wB bb id c f m O w) (hid0 : (Lit.int .i64 id).wf = true) :
    Calls Tryd.prog 14 #[.pointer (some ⟨bb, 0, none⟩), .int .i64 id] w fun e w' => ∃ v, e = .returned (.tuple #[v, .int .i64 0]) ∧ kInts.rep (Fresh w w') w' [v] (missL m) ∧ Upd (fun _ => False) w w' := by
  obtain ⟨bx, hb, hg⟩ := h.box
  refine (missing_any bb O bx id w hb hid0).mono ?_
  rintro e w' ⟨v, rfl, hrep, u⟩
  rw [missF_got hg] at hrep ⊢
  exact ⟨v, rfl, hrep, u⟩
theorem st_done (h : St wB bb id c f m O w) (hid0 : (Lit.int .i64 id).wf = true) :
    Calls Tryd.prog 16 #[.pointer (some ⟨bb, 0, none⟩), .int .i64 id] w fun e w' => e = .returned (if missL m = [] then .tuple #[.string ⟨(((List.range c).map f).flatten).toArray⟩, .bool true] else .tuple #[.string ⟨#[]⟩, .bool false]) ∧ Upd (fun _ => False) w w' := by
  obtain ⟨bx, hb, hg⟩ := h.box
  refine (done_any' bb O bx id w hb hid0).mono ?_
  rintro e w' ⟨rfl, u⟩
  rw [done_got hg h.ok]
  refine ⟨?_, u⟩
  split <;> rfl
/-- What is asked for. -/
def askM (id : Int) (m : Ms) : Bs := askL id [] [] (missL m)
theorem st_ask (E : Env w) (hz : 6 ≤ w.heap.size) (h : St wB bb id c f m O w) (hid0 : I64 id) :
    Calls Tryd.prog 15 #[.pointer (some ⟨bb, 0, none⟩), .int .i64 id] w fun e w' => e = .returned (if missL m = [] then .tuple #[.string ⟨#[]⟩, .int .i64 7] else .tuple #[.string ⟨(askM id m).toArray⟩, .int .i64 0]) ∧ Upd (fun _ => False) w w' := by
  obtain ⟨bx, hb, hg⟩ := h.box
  refine (ask_any bb O bx id w E hb hid0 hz).mono ?_
  rintro e w' ⟨rfl, u⟩
  refine ⟨?_, u⟩
  have ha : askF bx id = if missL m = [] then ([], 7) else (askM id m, 0) := by
    unfold askF askM
    rw [missF_got hg]
    dsimp only
    rw [if_neg (by decide)]
  rw [ha]
  split <;> rfl
/-- What the request gives. -/
theorem ask_gives (h : St wB bb id c f m O w) {l : List Bs} (hid : 0 ≤ id ∧ id ≤ maxMark) (hl : l.length = c) (hp : ∀ i (hi : i < l.length), partF l[i] = some ⟨id, (i : Nat), (c : Nat), f i⟩) (hne : missL m ≠ []) :
    ∃ n : Nat, 0 < n ∧ (askM id m).length ≤ 140 ∧ resumeF l (askM id m) = (pick l ((missL m).take n), 0) ∧ (∀ k rq, requestF (askM id m) = some (k, rq) → ∀ x ∈ rq, 0 ≤ x) := by
  obtain ⟨bx, hb, hg⟩ := h.box
  obtain ⟨n, ask, h1, h2, h3, h4, h5⟩ := round_plain hg h.ok hid hl hp hne
  have ha : askF bx id = (askM id m, 0) := by
    unfold askF askM
    rw [missF_got hg]
    dsimp only
    rw [if_neg (by decide), if_neg hne]
  rw [ha] at h2
  injection h2 with h2
  subst h2
  exact ⟨n, h1, h3, h4, h5⟩
end
/-- The first part. -/
theorem take_first {id : Int} {c : Nat} {f : Nat → Bs} {s : Bs} {i : Nat} (hp : partF s = some ⟨id, (i : Nat), (c : Nat), f i⟩) :
    takeF [] s = (0, [(id, ⟨c, [((i : Nat), f i)]⟩)]) ∧ Got [(id, ⟨c, [((i : Nat), f i)]⟩)] id c f ⟨c, [((i : Nat), f i)]⟩ := by
  constructor
  · unfold takeF
    rw [hp]
    rfl
  · refine ⟨by simp, rfl, fun j b hb => ?_⟩
    have hb : (if (j : Int) == (i : Int) then some (f i) else none) = some b := by
      rw [← hb, List.lookup_cons]
      cases ((j : Int) == (i : Int)) <;> rfl
    split at hb
    · rename_i h
      have : j = i := by
        have := eq_of_beq h
        omega
      injection hb with hb
      rw [← hb, this]
    · cases hb
end Go.Proofs.YtabnniabofhihaaDoor
