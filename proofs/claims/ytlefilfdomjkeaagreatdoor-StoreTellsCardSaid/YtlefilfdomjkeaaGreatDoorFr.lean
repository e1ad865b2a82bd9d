/- A region that draws its order, whose loads all come ahead of what writes their cells: what yields in every world that meets S is taken first, S is shown behind each operation up to operation k alone, for k waits for those loads; what is left comes one after the other. -/
import Derived.OrdersHeld
import Derived.Deep.RegionHeld
import Derived.Maps.RangeWalk
import Derived.Test.YtlefilfdomjkeaaGreatDoorFz
namespace Go.Proofs.YtlefilfdomjkeaaGreatDoor
open Go

section
variable {P : Program} {ops : Array Oper} {Q : Exit → Act → World → Prop} {md : Region.Mode} {S : World → Prop} {k : Nat}

def wpAnyG (P : Program) (md : Region.Mode) (ops : Array Oper) (Q : Exit → Act → World → Prop) (S : World → Prop) (k : Nat) : Nat → Array Bool → Act → World → Prop
  | 0, listed, a, w => Region.ready md ops listed = [] ∧ Q .normal a w
  | fuel + 1, listed, a, w =>
    (Region.ready md ops listed = [] → Q .normal a w) ∧
    ∀ i ∈ Region.ready md ops listed, wpOp P ops Q i (fun a' w' => ((listed.setIfInBounds i true).getD k true = false → S w') ∧ wpAnyG P md ops Q S k fuel (listed.setIfInBounds i true) a' w') a w
theorem wpAny_of_g : ∀ (fuel : Nat) (listed : Array Bool) (a : Act) (w : World), wpAnyG P md ops Q S k fuel listed a w → wpAny P md ops Q fuel listed a w
  | 0, _, _, _, h => h
  | fuel + 1, _, _, _, h => ⟨h.1, fun i hi => wpOp_mono (fun a' w' h' => wpAny_of_g fuel _ a' w' h'.2) (h.2 i hi)⟩
theorem wp_region_g {id : Nat} {a : Act} {w : World} (S : World → Prop) (k : Nat) (hm : P.follows .mixedOrders = true) (h : wpAnyG P .any ops Q S k ops.size (Array.replicate ops.size false) a w.drew) : (Code.region id ops true).wp P Q a w :=
  wp_region_any hm (wpAny_of_g _ _ _ _ h)

theorem ready_not {i j : Nat} {oj : Oper} {listed : Array Bool} (hr : i ∈ Region.ready md ops listed) (hj : j ∈ Region.ready md ops listed) (hoj : ops[j]? = some oj) : ∀ e ∈ oj.after, Region.binds md e = true → e.on ≠ i := fun e he hb heq => by
  obtain ⟨_, oj', hoj', hall⟩ := mem_ready.1 hj
  rw [hoj] at hoj'
  injection hoj' with hoj'
  subst hoj'
  have h1 := hall e he hb
  have h0 := (mem_ready.1 hr).1
  rw [heq] at h1
  rcases Nat.lt_or_ge i listed.size with h' | h'
  · simp [h'] at h0 h1; rw [h0] at h1; cases h1
  · simp [Array.getElem?_eq_none h'] at h1

/-- What yields in every world that meets S, where k waits for it. -/
theorem wpAnyG_first {i : Nat} {oi ok : Oper} {v : Value} (hi : ops[i]? = some oi) (hok : ops[k]? = some ok) (hki : k ≠ i) (hwait : ∃ e ∈ ok.after, Region.binds md e = true ∧ e.on = i)
    (hsel : ∀ (j : Nat) (o : Oper) cs b, ops[j]? = some o → o.op ≠ .select cs b) (hQ : ∀ c a w, Q (.panic c) (a.put oi.dst v) w → Q (.panic c) a w) :
    ∀ (fuel : Nat) (listed : Array Bool) (a : Act) (w : World),
      (∀ j oj, ops[j]? = some oj → j ≠ i → listed.getD j true = false → (∀ e ∈ oj.after, Region.binds md e = true → e.on ≠ i) → oi.apart ops oj = true) →
      i ∈ Region.ready md ops listed → listed.getD k true = false → YieldsIf P ops S oi v a → S w →
      wpAnyG P md ops Q S k fuel (listed.setIfInBounds i true) (a.put oi.dst v) w → wpAnyG P md ops Q S k (fuel + 1) listed a w := by
  intro fuel
  induction fuel with
  | zero =>
    intro listed a w _ hr hkl hy hS H
    refine ⟨fun h => (by rw [h] at hr; cases hr), fun j hj => ?_⟩
    by_cases hji : j = i
    · subst hji; exact hy.wpOp hi hS ⟨fun _ => hS, H⟩
    · have := ready_mono hj hji
      rw [H.1] at this
      cases this
  | succ fuel ih =>
    intro listed a w hfree hr hkl hy hS H
    refine ⟨fun h => (by rw [h] at hr; cases hr), fun j hj => ?_⟩
    by_cases hji : j = i
    · subst hji; exact hy.wpOp hi hS ⟨fun _ => hS, H⟩
    · have h1 := H.2 j (ready_mono hj hji)
      obtain ⟨hjun, oj, hoj, hall⟩ := mem_ready.1 hj
      have hnot := ready_not hr hj hoj
      have hjk : j ≠ k := fun e => by
        subst e
        rw [hoj] at hok
        injection hok with hok
        subst hok
        obtain ⟨e, he, hb, hon⟩ := hwait
        exact hnot e he hb hon
      have h2 := wpOp_putIf hoj (hfree j oj hoj hji hjun hnot) (fun cs b => hsel i oi cs b hi) (fun cs b => hsel j oj cs b hoj) hQ hy h1
      have hfree' : ∀ k ok, ops[k]? = some ok → k ≠ i → (listed.setIfInBounds j true).getD k true = false →
          (∀ e ∈ ok.after, Region.binds md e = true → e.on ≠ i) → oi.apart ops ok = true := fun k ok hk hki hun hno => by
        refine hfree k ok hk hki ?_ hno
        by_cases hjk : j = k
        · subst hjk; exact hjun
        · rw [getD_set_ne true hjk] at hun; exact hun
      have hg : ((listed.setIfInBounds i true).setIfInBounds j true).getD k true = false := by
        rw [getD_set_ne true hjk, getD_set_ne true (Ne.symm hki)]; exact hkl
      have hg' : (listed.setIfInBounds j true).getD k true = false := by rw [getD_set_ne true hjk]; exact hkl
      refine wpOp_mono (fun a' w' h3 => ⟨fun _ => h3.2.1 hg, ih (listed.setIfInBounds j true) a' w' hfree' (ready_mono hr (Ne.symm hji)) hg' h3.1 (h3.2.1 hg) ?_⟩) h2
      rw [Array.setIfInBounds_comm _ _ hji]
      exact h3.2.2

/-- What yields in every world that meets S, where k waits for it through others (Lp: k and those on the way). -/
theorem wpAnyG_firstP {i : Nat} {oi : Oper} {v : Value} {Lp : List Nat} (hi : ops[i]? = some oi) (hk : k ∈ Lp) (hw : ∀ c ∈ Lp, ∃ oc, ops[c]? = some oc ∧ ∃ e ∈ oc.after, Region.binds md e = true ∧ (e.on = i ∨ e.on ∈ Lp)) (hiL : i ∉ Lp)
    (hsel : ∀ (j : Nat) (o : Oper) cs b, ops[j]? = some o → o.op ≠ .select cs b) (hQ : ∀ c a w, Q (.panic c) (a.put oi.dst v) w → Q (.panic c) a w) :
    ∀ (fuel : Nat) (listed : Array Bool) (a : Act) (w : World),
      (∀ j oj, ops[j]? = some oj → j ≠ i → listed.getD j true = false → (∀ e ∈ oj.after, Region.binds md e = true → e.on ≠ i) → oi.apart ops oj = true) →
      i ∈ Region.ready md ops listed → (∀ c ∈ Lp, listed.getD c true = false) → YieldsIf P ops S oi v a → S w →
      wpAnyG P md ops Q S k fuel (listed.setIfInBounds i true) (a.put oi.dst v) w → wpAnyG P md ops Q S k (fuel + 1) listed a w := by
  intro fuel
  induction fuel with
  | zero =>
    intro listed a w _ hr hkl hy hS H
    refine ⟨fun h => (by rw [h] at hr; cases hr), fun j hj => ?_⟩
    by_cases hji : j = i
    · subst hji; exact hy.wpOp hi hS ⟨fun _ => hS, H⟩
    · have := ready_mono hj hji
      rw [H.1] at this
      cases this
  | succ fuel ih =>
    intro listed a w hfree hr hkl hy hS H
    refine ⟨fun h => (by rw [h] at hr; cases hr), fun j hj => ?_⟩
    by_cases hji : j = i
    · subst hji; exact hy.wpOp hi hS ⟨fun _ => hS, H⟩
    · have h1 := H.2 j (ready_mono hj hji)
      obtain ⟨hjun, oj, hoj, hall⟩ := mem_ready.1 hj
      have hnot := ready_not hr hj hoj
      have hjL : j ∉ Lp := fun hjL => by
        obtain ⟨oc, hoc, e, he, hb, hon⟩ := hw j hjL
        rw [hoj] at hoc
        injection hoc with hoc
        subst hoc
        rcases hon with hon | hon
        · exact hnot e he hb hon
        · have h2 := hkl _ hon
          have h3 := hall e he hb
          rcases Nat.lt_or_ge e.on listed.size with g | g
          · simp [g] at h2 h3; rw [h2] at h3; cases h3
          · simp [Array.getElem?_eq_none g] at h2
      have hjk : j ≠ k := fun e => hjL (e ▸ hk)
      have h2 := wpOp_putIf hoj (hfree j oj hoj hji hjun hnot) (fun cs b => hsel i oi cs b hi) (fun cs b => hsel j oj cs b hoj) hQ hy h1
      have hfree' : ∀ k ok, ops[k]? = some ok → k ≠ i → (listed.setIfInBounds j true).getD k true = false →
          (∀ e ∈ ok.after, Region.binds md e = true → e.on ≠ i) → oi.apart ops ok = true := fun k ok hk hki hun hno => by
        refine hfree k ok hk hki ?_ hno
        by_cases hjk : j = k
        · subst hjk; exact hjun
        · rw [getD_set_ne true hjk] at hun; exact hun
      have hg : ((listed.setIfInBounds i true).setIfInBounds j true).getD k true = false := by
        rw [getD_set_ne true hjk, getD_set_ne true (fun e => hiL (by rw [e]; exact hk))]; exact hkl k hk
      have hg' : ∀ c ∈ Lp, (listed.setIfInBounds j true).getD c true = false := fun c hc => by rw [getD_set_ne true (fun e => hjL (by rw [e]; exact hc))]; exact hkl c hc
      refine wpOp_mono (fun a' w' h3 => ⟨fun _ => h3.2.1 hg, ih (listed.setIfInBounds j true) a' w' hfree' (ready_mono hr (Ne.symm hji)) hg' h3.1 (h3.2.1 hg) ?_⟩) h2
      rw [Array.setIfInBounds_comm _ _ hji]
      exact h3.2.2

/-- What yields in whatever world. -/
theorem wpAnyG_first0 {i : Nat} {oi : Oper} {v : Value} (hi : ops[i]? = some oi) (hki : k ≠ i)
    (hsel : ∀ (j : Nat) (o : Oper) cs b, ops[j]? = some o → o.op ≠ .select cs b) (hQ : ∀ c a w, Q (.panic c) (a.put oi.dst v) w → Q (.panic c) a w) :
    ∀ (fuel : Nat) (listed : Array Bool) (a : Act) (w : World),
      (∀ j oj, ops[j]? = some oj → j ≠ i → listed.getD j true = false → (∀ e ∈ oj.after, Region.binds md e = true → e.on ≠ i) → oi.apart ops oj = true) →
      i ∈ Region.ready md ops listed → YieldsIf P ops (fun _ => True) oi v a → (listed.getD k true = false → S w) →
      wpAnyG P md ops Q S k fuel (listed.setIfInBounds i true) (a.put oi.dst v) w → wpAnyG P md ops Q S k (fuel + 1) listed a w := by
  intro fuel
  induction fuel with
  | zero =>
    intro listed a w _ hr hy hS H
    refine ⟨fun h => (by rw [h] at hr; cases hr), fun j hj => ?_⟩
    by_cases hji : j = i
    · subst hji; exact hy.wpOp hi trivial ⟨fun h => hS (by rw [getD_set_ne true (Ne.symm hki)] at h; exact h), H⟩
    · have := ready_mono hj hji
      rw [H.1] at this
      cases this
  | succ fuel ih =>
    intro listed a w hfree hr hy hS H
    refine ⟨fun h => (by rw [h] at hr; cases hr), fun j hj => ?_⟩
    by_cases hji : j = i
    · subst hji; exact hy.wpOp hi trivial ⟨fun h => hS (by rw [getD_set_ne true (Ne.symm hki)] at h; exact h), H⟩
    · have h1 := H.2 j (ready_mono hj hji)
      obtain ⟨hjun, oj, hoj, hall⟩ := mem_ready.1 hj
      have hnot := ready_not hr hj hoj
      have h2 := wpOp_putIf hoj (hfree j oj hoj hji hjun hnot) (fun cs b => hsel i oi cs b hi) (fun cs b => hsel j oj cs b hoj) hQ hy h1
      have hfree' : ∀ k ok, ops[k]? = some ok → k ≠ i → (listed.setIfInBounds j true).getD k true = false →
          (∀ e ∈ ok.after, Region.binds md e = true → e.on ≠ i) → oi.apart ops ok = true := fun k ok hk hki hun hno => by
        refine hfree k ok hk hki ?_ hno
        by_cases hjk : j = k
        · subst hjk; exact hjun
        · rw [getD_set_ne true hjk] at hun; exact hun
      have hg : (listed.setIfInBounds j true).getD k true = false → ((listed.setIfInBounds i true).setIfInBounds j true).getD k true = false := fun h => by
        rw [← Array.setIfInBounds_comm _ _ hji, getD_set_ne true (Ne.symm hki)]; exact h
      refine wpOp_mono (fun a' w' h3 => ⟨fun h => h3.2.1 (hg h), ih (listed.setIfInBounds j true) a' w' hfree' (ready_mono hr (Ne.symm hji)) h3.1 (fun h => h3.2.1 (hg h)) ?_⟩) h2
      rw [Array.setIfInBounds_comm _ _ hji]
      exact h3.2.2

/-! ### The moves of a walk -/
def waitsB (md : Region.Mode) (ops : Array Oper) (k i : Nat) : Bool := k != i && ((ops[k]?).map fun o => o.after.any fun e => Region.binds md e && e.on == i).getD false
theorem g_take {i : Nat} {oi : Oper} {v : Value} {fuel : Nat} {listed : Array Bool} {a : Act} {w : World} (hi : ops[i]? = some oi)
    (hs : Region.noSelect ops = true) (hf : Region.free md ops listed i = true) (hr : (Region.ready md ops listed).contains i = true) (hk : (waitsB md ops k i && !listed.getD k true) = true)
    (hQ : ∀ c a w, Q (.panic c) (a.put oi.dst v) w → Q (.panic c) a w) (hy : YieldsIf P ops S oi v a) (hS : S w)
    (h : wpAnyG P md ops Q S k fuel (listed.setIfInBounds i true) (a.put oi.dst v) w) : wpAnyG P md ops Q S k (fuel + 1) listed a w := by
  simp only [waitsB, Bool.and_eq_true, Bool.not_eq_true', bne_iff_ne] at hk
  obtain ⟨⟨hne, hw⟩, hl⟩ := hk
  cases hok : ops[k]? with
  | none => rw [hok] at hw; cases hw
  | some ok =>
    rw [hok] at hw
    simp only [Option.map_some, Option.getD_some] at hw
    obtain ⟨e, he, hb⟩ := Array.any_eq_true'.1 hw
    simp only [Bool.and_eq_true, beq_iff_eq] at hb
    obtain ⟨hb, hon⟩ := hb
    exact wpAnyG_first hi hok hne ⟨e, he, hb, hon⟩ (Region.noSelect_spec hs) hQ fuel listed a w (Region.free_spec hi hf) (by simpa using hr) hl hy hS h
def pathB (md : Region.Mode) (ops : Array Oper) (k i : Nat) (Lp : List Nat) (listed : Array Bool) : Bool :=
  Lp.contains k && !Lp.contains i && Lp.all fun c => !listed.getD c true && ((ops[c]?).map fun o => o.after.any fun e => Region.binds md e && (e.on == i || Lp.contains e.on)).getD false
theorem g_takeP (Lp : List Nat) {i : Nat} {oi : Oper} {v : Value} {fuel : Nat} {listed : Array Bool} {a : Act} {w : World} (hi : ops[i]? = some oi)
    (hs : Region.noSelect ops = true) (hf : Region.free md ops listed i = true) (hr : (Region.ready md ops listed).contains i = true) (hp : pathB md ops k i Lp listed = true)
    (hQ : ∀ c a w, Q (.panic c) (a.put oi.dst v) w → Q (.panic c) a w) (hy : YieldsIf P ops S oi v a) (hS : S w)
    (h : wpAnyG P md ops Q S k fuel (listed.setIfInBounds i true) (a.put oi.dst v) w) : wpAnyG P md ops Q S k (fuel + 1) listed a w := by
  simp only [pathB, Bool.and_eq_true, Bool.not_eq_true', List.all_eq_true] at hp
  obtain ⟨⟨hk, hiL⟩, hall⟩ := hp
  refine wpAnyG_firstP (Lp := Lp) hi (by simpa using hk) (fun c hc => ?_) (by simpa using hiL) (Region.noSelect_spec hs) hQ fuel listed a w (Region.free_spec hi hf) (by simpa using hr) (fun c hc => (hall c hc).1) hy hS h
  have h2 := (hall c hc).2
  cases hoc : ops[c]? with
  | none => rw [hoc] at h2; cases h2
  | some oc =>
    rw [hoc] at h2
    simp only [Option.map_some, Option.getD_some] at h2
    obtain ⟨e, he, hb⟩ := Array.any_eq_true'.1 h2
    simp only [Bool.and_eq_true, Bool.or_eq_true, beq_iff_eq] at hb
    exact ⟨oc, rfl, e, he, hb.1, hb.2.imp id fun h => by simpa using h⟩
theorem g_take0 {i : Nat} {oi : Oper} {v : Value} {fuel : Nat} {listed : Array Bool} {a : Act} {w : World} (hi : ops[i]? = some oi)
    (hs : Region.noSelect ops = true) (hf : Region.free md ops listed i = true) (hr : (Region.ready md ops listed).contains i = true) (hk : k ≠ i)
    (hQ : ∀ c a w, Q (.panic c) (a.put oi.dst v) w → Q (.panic c) a w) (hy : YieldsIf P ops (fun _ => True) oi v a) (hS : listed.getD k true = false → S w)
    (h : wpAnyG P md ops Q S k fuel (listed.setIfInBounds i true) (a.put oi.dst v) w) : wpAnyG P md ops Q S k (fuel + 1) listed a w :=
  wpAnyG_first0 hi hk (Region.noSelect_spec hs) hQ fuel listed a w (Region.free_spec hi hf) (by simpa using hr) hy hS h
theorem Oper.wp_then {o : Oper} {a : Act} {w : World} {K : Act → World → Prop} (h : o.wp P a w K (Exit.then K Q)) : o.wp P a w K Q := by
  unfold Oper.wp at *
  generalize (execOp a.eval o).run P w = r at *
  cases r with
  | ok n w' =>
    cases n <;> simp only [Oper.upon] at h ⊢ <;>
      first
        | exact h
        | exact Calls.mono h (fun e w'' he => by cases e <;> exact he)
  | halt x w' => cases x <;> simp only [Oper.upon] at h ⊢ <;> exact h
/-- The one operation that may come up. -/
theorem g_op {i : Nat} {o : Oper} {fuel : Nat} {listed : Array Bool} {a : Act} {w : World} (hr : Region.ready md ops listed = [i]) (ho : ops[i]? = some o)
    (h : wpList P ops (Exit.then (fun a' w' => ((listed.setIfInBounds i true).getD k true = false → S w') ∧ wpAnyG P md ops Q S k fuel (listed.setIfInBounds i true) a' w') Q) [o] a w) : wpAnyG P md ops Q S k (fuel + 1) listed a w := by
  refine ⟨fun h0 => (by rw [hr] at h0; cases h0), fun j hj => ?_⟩
  rw [hr, List.mem_singleton] at hj
  subst hj
  unfold wpOp
  simp only [ho]
  unfold wpList at h
  split
  · rename_i hw
    rw [if_pos hw] at h
    rcases h with h | ⟨h1, h2⟩
    · exact .inl (Oper.wp_then h)
    · exact .inr ⟨h1, h2⟩
  · rename_i hw
    rw [if_neg hw] at h
    exact h
/-- Two operations may come up. -/
theorem g_two {i j : Nat} {oi oj : Oper} {fuel : Nat} {listed : Array Bool} {a : Act} {w : World} (hr : Region.ready md ops listed = [i, j]) (hi : ops[i]? = some oi) (hj : ops[j]? = some oj)
    (h1 : wpList P ops (Exit.then (fun a' w' => ((listed.setIfInBounds i true).getD k true = false → S w') ∧ wpAnyG P md ops Q S k fuel (listed.setIfInBounds i true) a' w') Q) [oi] a w)
    (h2 : wpList P ops (Exit.then (fun a' w' => ((listed.setIfInBounds j true).getD k true = false → S w') ∧ wpAnyG P md ops Q S k fuel (listed.setIfInBounds j true) a' w') Q) [oj] a w) : wpAnyG P md ops Q S k (fuel + 1) listed a w := by
  have one : ∀ (n : Nat) (o : Oper), ops[n]? = some o →
      wpList P ops (Exit.then (fun a' w' => ((listed.setIfInBounds n true).getD k true = false → S w') ∧ wpAnyG P md ops Q S k fuel (listed.setIfInBounds n true) a' w') Q) [o] a w →
      wpOp P ops Q n (fun a' w' => ((listed.setIfInBounds n true).getD k true = false → S w') ∧ wpAnyG P md ops Q S k fuel (listed.setIfInBounds n true) a' w') a w := fun n o ho h => by
    unfold wpOp
    simp only [ho]
    unfold wpList at h
    split
    · rename_i hw
      rw [if_pos hw] at h
      rcases h with h | ⟨h1, h2⟩
      · exact .inl (Oper.wp_then h)
      · exact .inr ⟨h1, h2⟩
    · rename_i hw
      rw [if_neg hw] at h
      exact h
  refine ⟨fun h0 => (by rw [hr] at h0; cases h0), fun n hn => ?_⟩
  rw [hr] at hn
  rcases List.mem_cons.1 hn with rfl | hn
  · exact one _ _ hi h1
  · rw [List.mem_singleton] at hn
    subst hn
    exact one _ _ hj h2
/-- The one operation that may come up, its guard met. -/
theorem g_want {i : Nat} {o : Oper} {fuel : Nat} {listed : Array Bool} {a : Act} {w : World} (hr : Region.ready md ops listed = [i]) (ho : ops[i]? = some o) (hw : Region.wanted o (yielded ops a.tmps) = true)
    (h : Oper.wp P o a w (wpList P ops (Exit.then (fun a' w' => ((listed.setIfInBounds i true).getD k true = false → S w') ∧ wpAnyG P md ops Q S k fuel (listed.setIfInBounds i true) a' w') Q) [])
      (Exit.then (fun a' w' => ((listed.setIfInBounds i true).getD k true = false → S w') ∧ wpAnyG P md ops Q S k fuel (listed.setIfInBounds i true) a' w') Q)) : wpAnyG P md ops Q S k (fuel + 1) listed a w :=
  g_op hr ho (by unfold wpList; rw [if_pos hw]; exact .inl h)
/-- The one operation that may come up is struck. -/
theorem g_skip {i : Nat} {o : Oper} {fuel : Nat} {listed : Array Bool} {a : Act} {w : World} (hr : Region.ready md ops listed = [i]) (ho : ops[i]? = some o) (hw : Region.wanted o (yielded ops a.tmps) = false)
    (h : ((listed.setIfInBounds i true).getD k true = false → S w) ∧ wpAnyG P md ops Q S k fuel (listed.setIfInBounds i true) (a.put o.dst undef) w) : wpAnyG P md ops Q S k (fuel + 1) listed a w := by
  refine ⟨fun h0 => (by rw [hr] at h0; cases h0), fun j hj => ?_⟩
  rw [hr, List.mem_singleton] at hj
  subst hj
  unfold wpOp
  simp only [ho]
  rw [if_neg (by rw [hw]; decide)]
  exact h
theorem g_done {fuel : Nat} {listed : Array Bool} {a : Act} {w : World} (hr : Region.ready md ops listed = []) (h : Q .normal a w) : wpAnyG P md ops Q S k fuel listed a w := by
  cases fuel with
  | zero => exact ⟨hr, h⟩
  | succ n => exact ⟨fun _ => h, fun i hi => by rw [hr] at hi; cases hi⟩
def chainB (md : Region.Mode) (ops : Array Oper) : List Nat → Array Bool → Bool
  | [], L => (Region.ready md ops L).isEmpty
  | i :: r, L => Region.ready md ops L == [i] && chainB md ops r (L.setIfInBounds i true)
/-- What is left comes in this order; k is the first of it, or has come. -/
theorem g_tail : ∀ (t : List (Nat × Oper)) {fuel : Nat} {listed : Array Bool} {a : Act} {w : World}, (∀ p ∈ t, ops[p.1]? = some p.2) → chainB md ops (t.map (·.1)) listed = true → t.length ≤ fuel →
    (listed.getD k true = true ∨ ∃ p r, t = p :: r ∧ p.1 = k ∧ k < listed.size) → wpList P ops Q (t.map (·.2)) a w → wpAnyG P md ops Q S k fuel listed a w
  | [], fuel, listed, a, w, _, hc, _, _, h => by
    have hr : Region.ready md ops listed = [] := by simpa [chainB] using hc
    cases fuel with
    | zero => exact ⟨hr, h⟩
    | succ n => exact ⟨fun _ => h, fun i hi => by rw [hr] at hi; cases hi⟩
  | p :: t, fuel, listed, a, w, ho, hc, hf, hk, h => by
    simp only [List.map_cons, chainB, Bool.and_eq_true, beq_iff_eq] at hc
    cases fuel with
    | zero => simp at hf
    | succ n =>
      have hl : (listed.setIfInBounds p.1 true).getD k true = true := by
        rcases hk with hk | ⟨p', r, he, hpk, hlt⟩
        · by_cases hpk : p.1 = k
          · subst hpk
            rcases Nat.lt_or_ge p.1 listed.size with g | g
            · simp [g]
            · simp [Array.getElem?_eq_none, g]
          · rw [getD_set_ne true hpk]; exact hk
        · injection he with he _
          subst he
          rw [hpk]
          simp [hlt]
      refine g_op hc.1 (ho p List.mem_cons_self) ?_
      have ih : ∀ a' w', wpList P ops Q (t.map (·.2)) a' w' → ((listed.setIfInBounds p.1 true).getD k true = false → S w') ∧ wpAnyG P md ops Q S k n (listed.setIfInBounds p.1 true) a' w' := fun a' w' h' =>
        ⟨(fun e => by rw [hl] at e; cases e), g_tail t (fun q hq => ho q (List.mem_cons_of_mem _ hq)) hc.2 (by simpa using hf) (.inl hl) h'⟩
      simp only [List.map_cons] at h
      unfold wpList at h ⊢
      split
      · rename_i hw
        rw [if_pos hw] at h
        rcases h with h | ⟨h1, h2⟩
        · refine .inl ?_
          have h3 := Oper.wp_mono (K' := wpList P ops (Exit.then (fun a' w' => ((listed.setIfInBounds p.1 true).getD k true = false → S w') ∧ wpAnyG P md ops Q S k n (listed.setIfInBounds p.1 true) a' w') Q) []) (fun a' w' h' => ih a' w' h') h
          unfold Oper.wp at *
          generalize (execOp a.eval p.2).run P w = r at *
          cases r with
          | ok n w' =>
            cases n <;> simp only [Oper.upon] at h3 ⊢ <;>
              first
                | exact h3
                | exact Calls.mono h3 (fun e w'' he => by cases e <;> exact he)
          | halt x w' => cases x <;> simp only [Oper.upon] at h3 ⊢ <;> exact h3
        · exact .inr ⟨h1, h2⟩
      · rename_i hw
        rw [if_neg hw] at h
        exact ih _ _ h
end
end Go.Proofs.YtlefilfdomjkeaaGreatDoor
