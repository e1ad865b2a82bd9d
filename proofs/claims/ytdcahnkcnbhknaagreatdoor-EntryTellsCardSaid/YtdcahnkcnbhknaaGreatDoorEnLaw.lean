/- Walks: the law's small examples, and its helpers on spans. -/
/- Walks: the laws' helpers. -/
import Derived.Test.YtdcahnkcnbhknaaGreatDoorEnRead
import Derived.Test.YtdcahnkcnbhknaaGreatDoorEnSame
import Derived.Test.YtdcahnkcnbhknaaGreatDoorEnUsesW
import Derived.Test.YtdcahnkcnbhknaaGreatDoorEnTakeW
import Derived.Test.YtdcahnkcnbhknaaGreatDoorEnUnion
namespace Go.Proofs.YtdcahnkcnbhknaaGreatDoor
open Go.RowKit Go.Deep

theorem sps_lit {r l : List Sp} {n : Nat} {w w' : World} {e : Ending} (hr : r = l) (hn : l.length = n) (hw : ∀ s ∈ l, SpWf s) (h : SpsPost r w e w') : ∃ a c, e = .returned (.slice a n c) ∧ kSps.rep (· < w'.heap.size) w' [.slice a n c] l ∧ Upd (fun _ => False) w w' := by
  subst hr hn
  obtain ⟨v, rfl, hown, u⟩ := h
  have hrep := sps_own_rep (A := (· < w'.heap.size)) hown hw (own_new hown)
  obtain ⟨a, c, rfl, _⟩ := slice_open hrep
  exact ⟨a, c, rfl, hrep, u⟩
theorem lit_rep {w : World} {b : Nat} {l : List Sp} (hb : w.heap[b]? = some (.cells (flatS l).toArray 39 (0, 0))) (hw : ∀ s ∈ l, SpWf s) (hl : l.length ≤ maxLen) : kSps.rep (· < w.heap.size) w [.slice (some ⟨b, 0, none⟩) l.length l.length] l :=
  SpBlk.rep (rest := []) (show SpBlk w b l [] by unfold SpBlk; rw [List.append_nil]; exact hb) hw (Nat.le_refl _) hl (heap_lt hb)
theorem spwf {a b c : Int} (h1 : 0 ≤ a ∧ a ≤ 100) (h2 : 0 ≤ b ∧ b ≤ 100) (h3 : 0 ≤ c ∧ c ≤ 100) : SpWf ⟨a, b, c⟩ := ⟨iwf (by dsimp only; omega), iwf (by dsimp only; omega), iwf (by dsimp only; omega)⟩
def smallS (l : List Sp) : Prop := ∀ s ∈ l, (0 ≤ s.mark ∧ s.mark ≤ 100) ∧ (0 ≤ s.fr ∧ s.fr ≤ 100) ∧ (0 ≤ s.to ∧ s.to ≤ 100)
instance (l : List Sp) : Decidable (smallS l) := by unfold smallS; exact inferInstance
theorem smallS.wf {l : List Sp} (h : smallS l) : ∀ s ∈ l, SpWf s := fun s hs => spwf (h s hs).1 (h s hs).2.1 (h s hs).2.2
theorem span_any (m f t : Int) (w : World) : Calls Tryz.prog 41 #[.int .i64 m, .int .i64 f, .int .i64 t] w fun e w' => e = .returned (.agg #[.int .i64 m, .int .i64 f, .int .i64 t]) ∧ Upd (fun _ => False) w w' := by
  go_enter Tryz.func41, Tryz.ntmps41
  go_wp2_with fail
  obtain ⟨W, hW⟩ : ∃ W, W = w.alloc (.cells #[.int .i64 m, .int .i64 f, .int .i64 t] 39 (0, 0)) := ⟨_, rfl⟩
  have hb : W.heap[w.heap.size]? = some (.cells #[.int .i64 m, .int .i64 f, .int .i64 t] 39 (0, 0)) := by rw [hW]; exact heap_alloc_new
  have u : Upd (fun _ => False) w W := by rw [hW]; exact (Upd.refl _ _).alloc _
  rw [← hW]
  obtain ⟨d0, d1, d2⟩ := cells_s (s := ⟨m, f, t⟩) hb
  have U := hid u
  clear hW hb u
  refine bodyPost_ret (v := .agg #[.int .i64 m, .int .i64 f, .int .i64 t]) (by simp [results, Tryz.results41, go_sem, d0, d1, d2]) rfl ?_
  exact ⟨rfl, U.out⟩
theorem vote_any (w : World) : Calls Tryz.prog 42 #[] w fun en w' =>
    ∃ a1 c1, en = .returned (.agg #[.int .i64 3, .int .i64 1, .int .i64 5, .slice a1 2 c1, .int .i64 12, .int .i64 0, .int .i64 0, .int .i64 1, .int .i64 0, .int .i64 7, .slice none 0 0, .slice none 0 0, .string ⟨#[]⟩]) ∧ EnRep (· < w'.heap.size) w' (vVote 1) a1 none none c1 0 0 ∧ Upd (fun _ => False) w w' := by
  go_enter Tryz.func42, Tryz.ntmps42
  go_wp2_with fail
  obtain ⟨W, hW⟩ : ∃ W, W = (w.alloc (.cells #[.int .i64 3, .int .i64 1, .int .i64 5, .slice (some ⟨w.heap.size + 1, 0, none⟩) 2 2, .int .i64 12, .int .i64 0, .int .i64 0, .int .i64 1, .int .i64 0, .int .i64 7, .slice none 0 0, .slice none 0 0, .string ⟨#[]⟩] 25 (0, 0))).alloc (.cells #[.int .i64 2, .int .i64 7] 3 (0, 0)) := ⟨_, rfl⟩
  rw [← hW]
  have hs : (w.alloc (.cells #[.int .i64 3, .int .i64 1, .int .i64 5, .slice (some ⟨w.heap.size + 1, 0, none⟩) 2 2, .int .i64 12, .int .i64 0, .int .i64 0, .int .i64 1, .int .i64 0, .int .i64 7, .slice none 0 0, .slice none 0 0, .string ⟨#[]⟩] 25 (0, 0))).heap.size = w.heap.size + 1 := by simp
  have hb : W.heap[w.heap.size]? = some (.cells #[.int .i64 3, .int .i64 1, .int .i64 5, .slice (some ⟨w.heap.size + 1, 0, none⟩) 2 2, .int .i64 12, .int .i64 0, .int .i64 0, .int .i64 1, .int .i64 0, .int .i64 7, .slice none 0 0, .slice none 0 0, .string ⟨#[]⟩] 25 (0, 0)) := by rw [hW, heap_alloc_old (by simp)]; exact heap_alloc_new
  have hi : IntsBlk W (w.heap.size + 1) [2, 7] := by
    have h := heap_alloc_new (w := w.alloc (.cells #[.int .i64 3, .int .i64 1, .int .i64 5, .slice (some ⟨w.heap.size + 1, 0, none⟩) 2 2, .int .i64 12, .int .i64 0, .int .i64 0, .int .i64 1, .int .i64 0, .int .i64 7, .slice none 0 0, .slice none 0 0, .string ⟨#[]⟩] 25 (0, 0))) (o := .cells #[.int .i64 2, .int .i64 7] 3 (0, 0))
    rw [hs] at h
    unfold IntsBlk
    rw [hW]
    exact h
  have u : Upd (fun _ => False) w W := by rw [hW]; exact ((Upd.refl _ _).alloc _).alloc _
  have d0 : W.cell? ⟨w.heap.size, 0, none⟩ = some (.int .i64 3) := by rw [cell_of_block hb]; rfl
  have d1 : W.cell? ⟨w.heap.size, 1, none⟩ = some (.int .i64 1) := by rw [cell_of_block hb]; rfl
  have d2 : W.cell? ⟨w.heap.size, 2, none⟩ = some (.int .i64 5) := by rw [cell_of_block hb]; rfl
  have d3 : W.cell? ⟨w.heap.size, 3, none⟩ = some (.slice (some ⟨w.heap.size + 1, 0, none⟩) 2 2) := by rw [cell_of_block hb]; rfl
  have d4 : W.cell? ⟨w.heap.size, 4, none⟩ = some (.int .i64 12) := by rw [cell_of_block hb]; rfl
  have d5 : W.cell? ⟨w.heap.size, 5, none⟩ = some (.int .i64 0) := by rw [cell_of_block hb]; rfl
  have d6 : W.cell? ⟨w.heap.size, 6, none⟩ = some (.int .i64 0) := by rw [cell_of_block hb]; rfl
  have d7 : W.cell? ⟨w.heap.size, 7, none⟩ = some (.int .i64 1) := by rw [cell_of_block hb]; rfl
  have d8 : W.cell? ⟨w.heap.size, 8, none⟩ = some (.int .i64 0) := by rw [cell_of_block hb]; rfl
  have d9 : W.cell? ⟨w.heap.size, 9, none⟩ = some (.int .i64 7) := by rw [cell_of_block hb]; rfl
  have d10 : W.cell? ⟨w.heap.size, 10, none⟩ = some (.slice none 0 0) := by rw [cell_of_block hb]; rfl
  have d11 : W.cell? ⟨w.heap.size, 11, none⟩ = some (.slice none 0 0) := by rw [cell_of_block hb]; rfl
  have d12 : W.cell? ⟨w.heap.size, 12, none⟩ = some (.string ⟨#[]⟩) := by rw [cell_of_block hb]; rfl
  have U := hid u; have HI := hid hi
  clear hW hs hb hi u
  refine bodyPost_ret (v := .agg #[.int .i64 3, .int .i64 1, .int .i64 5, .slice (some ⟨w.heap.size + 1, 0, none⟩) 2 2, .int .i64 12, .int .i64 0, .int .i64 0, .int .i64 1, .int .i64 0, .int .i64 7, .slice none 0 0, .slice none 0 0, .string ⟨#[]⟩]) (by simp [results, Tryz.results42, go_sem, d0, d1, d2, d3, d4, d5, d6, d7, d8, d9, d10, d11, d12]) rfl ?_
  refine ⟨_, _, rfl, ⟨?_, .inl ⟨none, 0, rfl, Nat.zero_le _, rfl⟩, .inl ⟨none, 0, rfl, Nat.zero_le _, rfl⟩⟩, U.out⟩
  exact HI.out.rep (cap := 2) (by intro x hx; simp at hx; rcases hx with rfl | rfl <;> decide) (by decide) (by unfold maxLen; decide) HI.out.lt
theorem cells_v {w : World} {p : Nat} {a1 a2 a3 : Option Addr} {c1 c2 c3 : Nat} {t : TypeId} (h : w.heap[p]? = some (.cells (en13 (vVote 1) a1 a2 a3 c1 c2 c3) t (0, 0))) :
    w.cell? ⟨p, 0, none⟩ = some (.int .i64 3) ∧ w.cell? ⟨p, 1, none⟩ = some (.int .i64 1) ∧ w.cell? ⟨p, 2, none⟩ = some (.int .i64 5) ∧ w.cell? ⟨p, 3, none⟩ = some (.slice a1 2 c1) ∧ w.cell? ⟨p, 4, none⟩ = some (.int .i64 12) ∧ w.cell? ⟨p, 5, none⟩ = some (.int .i64 0) ∧ w.cell? ⟨p, 6, none⟩ = some (.int .i64 0) ∧ w.cell? ⟨p, 7, none⟩ = some (.int .i64 1) ∧ w.cell? ⟨p, 8, none⟩ = some (.int .i64 0) ∧ w.cell? ⟨p, 9, none⟩ = some (.int .i64 7) ∧ w.cell? ⟨p, 10, none⟩ = some (.slice a2 0 c2) ∧ w.cell? ⟨p, 11, none⟩ = some (.slice a3 0 c3) ∧ w.cell? ⟨p, 12, none⟩ = some (.string ⟨#[]⟩) := cells13 h
theorem text_lit (a1 a2 a3 : Option Addr) (c1 c2 c3 : Nat) (w : World) (E : Env w) (hu : UsesIn w) (hr : EnRep (· < w.heap.size) w (vVote 1) a1 a2 a3 c1 c2 c3) :
    Calls Tryz.prog 16 #[.agg #[.int .i64 3, .int .i64 1, .int .i64 5, .slice a1 2 c1, .int .i64 12, .int .i64 0, .int .i64 0, .int .i64 1, .int .i64 0, .int .i64 7, .slice a2 0 c2, .slice a3 0 c3, .string ⟨#[]⟩]] w fun en w' => en = .returned (.string ⟨#[51, 59, 49, 59, 53, 59, 50, 91, 50, 59, 55, 59, 93, 49, 50, 59, 48, 59, 48, 59, 49, 59, 48, 59, 55, 59, 48, 91, 93, 48, 59, 48, 58, 44]⟩) ∧ Upd (fun _ => False) w w' :=
  (text_any (vVote 1) a1 a2 a3 c1 c2 c3 w E hu hr (vWf 1 (by unfold I64; omega))).mono fun en w' h => ⟨by rw [h.1, vTxtF]; rfl, h.2⟩
theorem same_lit (a1 a2 a3 b1 b2 b3 : Option Addr) (c1 c2 c3 d1 d2 d3 : Nat) (w : World) {A B : Nat → Prop} (ha : EnRep A w (vVote 1) a1 a2 a3 c1 c2 c3) (hb : EnRep B w (vVote 1) b1 b2 b3 d1 d2 d3) (hA : ∀ g, A g → g < w.heap.size) (hB : ∀ g, B g → g < w.heap.size) :
    Calls Tryz.prog 18 #[.agg #[.int .i64 3, .int .i64 1, .int .i64 5, .slice a1 2 c1, .int .i64 12, .int .i64 0, .int .i64 0, .int .i64 1, .int .i64 0, .int .i64 7, .slice a2 0 c2, .slice a3 0 c3, .string ⟨#[]⟩], .agg #[.int .i64 3, .int .i64 1, .int .i64 5, .slice b1 2 d1, .int .i64 12, .int .i64 0, .int .i64 0, .int .i64 1, .int .i64 0, .int .i64 7, .slice b2 0 d2, .slice b3 0 d3, .string ⟨#[]⟩]] w fun en w' => en = .returned (.bool true) ∧ Upd (fun _ => False) w w' :=
  (same_any (vVote 1) (vVote 1) a1 a2 a3 b1 b2 b3 c1 c2 c3 d1 d2 d3 A B w ha hb hA hB).mono fun en w' h => ⟨by rw [h.1, decide_eq_true rfl], h.2⟩
theorem read_v1 {w w' : World} {en : Ending} (h : ReadPost (vTxt 49) w en w') : ∃ a1 a2 a3 c1 c2 c3, en = .returned (.tuple #[.agg #[.int .i64 3, .int .i64 1, .int .i64 5, .slice a1 2 c1, .int .i64 12, .int .i64 0, .int .i64 0, .int .i64 1, .int .i64 0, .int .i64 7, .slice a2 0 c2, .slice a3 0 c3, .string ⟨#[]⟩], .int .i64 0]) ∧ EnRep (· < w'.heap.size) w' (vVote 1) a1 a2 a3 c1 c2 c3 ∧ Upd (fun _ => False) w w' := by
  obtain ⟨a1, a2, a3, c1, c2, c3, he, hr, u⟩ := h
  rw [vRd1] at he hr
  exact ⟨a1, a2, a3, c1, c2, c3, he, hr.wide fun g hg => hg.2, u⟩
theorem read_v2 {w w' : World} {en : Ending} (h : ReadPost (vTxt 50) w en w') : ∃ a1 a2 a3 c1 c2 c3, en = .returned (.tuple #[.agg #[.int .i64 0, .int .i64 0, .int .i64 0, .slice a1 0 c1, .int .i64 0, .int .i64 0, .int .i64 0, .int .i64 0, .int .i64 0, .int .i64 0, .slice a2 0 c2, .slice a3 0 c3, .string ⟨#[]⟩], .int .i64 2]) ∧ Upd (fun _ => False) w w' := by
  obtain ⟨a1, a2, a3, c1, c2, c3, he, hr, u⟩ := h
  rw [vRd2] at he hr
  exact ⟨a1, a2, a3, c1, c2, c3, he, u⟩
theorem uses_v {w w' : World} {en : Ending} (h : UsesPost 8 w en w') : ∃ a c, en = .returned (.slice a 4 c) ∧ Upd (fun _ => False) w w' := by
  obtain ⟨a, c, he, hr, u⟩ := h
  rw [vUses] at he
  exact ⟨a, c, he, u⟩
theorem take_v {w w' : World} {en : Ending} (h : TakePost (takeC vN 2) w en w') : ∃ a b c d, en = .returned (.tuple #[.slice a 2 c, .slice b 1 d]) ∧ kSps.rep (· < w'.heap.size) w' [.slice a 2 c] [⟨2, 0, 1⟩, ⟨4, 3, 4⟩] ∧ kSps.rep (· < w'.heap.size) w' [.slice b 1 d] [⟨4, 4, 8⟩] ∧ Upd (fun _ => False) w w' := by
  obtain ⟨v1, v2, rfl, o1, o2, u⟩ := h
  rw [vTake] at o1 o2
  have r1 := sps_own_rep (l := [⟨2, 0, 1⟩, ⟨4, 3, 4⟩]) (A := (· < w'.heap.size)) o1 (smallS.wf (by decide)) (own_new o1)
  have r2 := sps_own_rep (l := [⟨4, 4, 8⟩]) (A := (· < w'.heap.size)) o2 (smallS.wf (by decide)) (own_new o2)
  obtain ⟨a, c, rfl, _⟩ := slice_open r1
  obtain ⟨b, d, rfl, _⟩ := slice_open r2
  exact ⟨a, b, c, d, rfl, r1, r2, u⟩
set_option maxRecDepth 100000 in
set_option maxHeartbeats 16000000 in
theorem small_any (w : World) (E : Env w) (hu : UsesIn w) (hz : 6 ≤ w.heap.size) : Calls Tryz.prog 9 #[] w fun en w' => en = .returned (.bool true) ∧ Upd (fun _ => False) w w' := by
  have HE := hid E; have HU := hid hu; have HZ := hid hz
  have UC := hid (Upd.refl (fun _ => False) w)
  clear E hu hz
  go_enter Tryz.func9, Tryz.ntmps9
  go_wp2_with fail
  refine (read_any (vTxt 49) _ HE.out HU.out HZ.out (by decide)).mono ?_
  rintro en r1 hp
  obtain ⟨a1, a2, a3, c1, c2, c3, rfl, rep, u⟩ := read_v1 hp
  obtain ⟨W1, hW1⟩ : ∃ x, x = r1.alloc (.cells #[.int .i64 3, .int .i64 1, .int .i64 5, .slice a1 2 c1, .int .i64 12, .int .i64 0, .int .i64 0, .int .i64 1, .int .i64 0, .int .i64 7, .slice a2 0 c2, .slice a3 0 c3, .string ⟨#[]⟩] 25 (0, 0)) := ⟨_, rfl⟩
  have hb : W1.heap[r1.heap.size]? = some (.cells (en13 (vVote 1) a1 a2 a3 c1 c2 c3) 25 (0, 0)) := by rw [hW1]; exact heap_alloc_new
  have u1 : Upd (fun _ => False) r1 W1 := by rw [hW1]; exact (Upd.refl _ _).alloc _
  obtain ⟨eb, heb⟩ : ∃ x, r1.heap.size = x := ⟨_, rfl⟩
  rw [heb] at hb
  have EB := hid hb; have RE := hid ((rep.keep u1).wide fun g hg => Nat.lt_of_lt_of_le hg u1.size)
  replace UC := hid (UC.out.trans (u.trans u1))
  have HW1 := hid hW1; have HEB := hid heb
  clear hp hb u u1 hW1 rep heb
  go_wp2_with fail
  rw [← HW1.out]
  try rw [HEB.out]
  clear HW1 HEB
  refine (read_any (vTxt 50) _ (HE.out.keep0 UC.out) (HU.out.keep UC.out) (Nat.le_trans HZ.out UC.out.size) (by decide)).mono ?_
  rintro en r2 hp
  obtain ⟨p1, p2, p3, e1, e2, e3, rfl, u⟩ := read_v2 hp
  obtain ⟨W2, hW2⟩ : ∃ x, x = r2.alloc (.cells #[.int .i64 0, .int .i64 0, .int .i64 0, .slice p1 0 e1, .int .i64 0, .int .i64 0, .int .i64 0, .int .i64 0, .int .i64 0, .int .i64 0, .slice p2 0 e2, .slice p3 0 e3, .string ⟨#[]⟩] 25 (0, 0)) := ⟨_, rfl⟩
  replace u : Upd (fun _ => False) W1 W2 := by rw [hW2]; exact u.alloc _
  replace EB := hid ((u.block _ (heap_lt EB.out) id).trans EB.out)
  replace RE := hid ((RE.out.keep u).wide fun g hg => Nat.lt_of_lt_of_le hg u.size)
  replace UC := hid (UC.out.trans u)
  have HW2 := hid hW2
  clear hp u hW2
  go_wp2_with fail
  rw [← HW2.out]
  clear HW2
  refine (usesW_any 8 _ (HU.out.keep UC.out)).mono ?_
  rintro en x0 hp
  obtain ⟨ua, uc, rfl, u⟩ := uses_v hp
  replace EB := hid ((u.block _ (heap_lt EB.out) id).trans EB.out)
  replace RE := hid ((RE.out.keep u).wide fun g hg => Nat.lt_of_lt_of_le hg u.size)
  replace UC := hid (UC.out.trans u)
  clear hp u
  go_wp2_with fail
  refine (span_any 4 3 6 _).mono ?_
  rintro en x1 ⟨rfl, u⟩
  replace EB := hid ((u.block _ (heap_lt EB.out) id).trans EB.out)
  replace RE := hid ((RE.out.keep u).wide fun g hg => Nat.lt_of_lt_of_le hg u.size)
  replace UC := hid (UC.out.trans u)
  clear u
  go_wp2_with fail
  refine (span_any 4 6 8 _).mono ?_
  rintro en x2 ⟨rfl, u⟩
  replace EB := hid ((u.block _ (heap_lt EB.out) id).trans EB.out)
  replace RE := hid ((RE.out.keep u).wide fun g hg => Nat.lt_of_lt_of_le hg u.size)
  replace UC := hid (UC.out.trans u)
  clear u
  go_wp2_with fail
  refine (span_any 2 0 1 _).mono ?_
  rintro en x3 ⟨rfl, u⟩
  replace EB := hid ((u.block _ (heap_lt EB.out) id).trans EB.out)
  replace RE := hid ((RE.out.keep u).wide fun g hg => Nat.lt_of_lt_of_le hg u.size)
  replace UC := hid (UC.out.trans u)
  clear u
  go_wp2_with fail
  refine (span_any 4 9 9 _).mono ?_
  rintro en x4 ⟨rfl, u⟩
  replace EB := hid ((u.block _ (heap_lt EB.out) id).trans EB.out)
  replace RE := hid ((RE.out.keep u).wide fun g hg => Nat.lt_of_lt_of_le hg u.size)
  replace UC := hid (UC.out.trans u)
  clear u
  obtain ⟨LR0, hLR0⟩ : ∃ x, x = x4.alloc (.cells #[.int .i64 4, .int .i64 3, .int .i64 6, .int .i64 4, .int .i64 6, .int .i64 8, .int .i64 2, .int .i64 0, .int .i64 1, .int .i64 4, .int .i64 9, .int .i64 9] 39 (0, 0)) := ⟨_, rfl⟩
  have hb : LR0.heap[x4.heap.size]? = some (.cells (flatS [⟨4, 3, 6⟩, ⟨4, 6, 8⟩, ⟨2, 0, 1⟩, ⟨4, 9, 9⟩]).toArray 39 (0, 0)) := by rw [hLR0]; exact heap_alloc_new
  have u : Upd (fun _ => False) x4 LR0 := by rw [hLR0]; exact (Upd.refl _ _).alloc _
  have HLR0 := hid hLR0
  replace EB := hid ((u.block _ (heap_lt EB.out) id).trans EB.out)
  replace RE := hid ((RE.out.keep u).wide fun g hg => Nat.lt_of_lt_of_le hg u.size)
  replace UC := hid (UC.out.trans u)
  have R0 := hid (lit_rep hb (smallS.wf (by decide)) (by unfold maxLen; decide))
  clear hb u hLR0
  go_wp2_with fail
  rw [← HLR0.out]
  clear HLR0
  refine (norm_any (· < LR0.heap.size) _ [⟨4, 3, 6⟩, ⟨4, 6, 8⟩, ⟨2, 0, 1⟩, ⟨4, 9, 9⟩] _ R0.out (by decide)).mono ?_
  rintro en x5 hp
  obtain ⟨na, nc, rfl, rep, u⟩ := sps_lit vNorm (n := 2) rfl (smallS.wf (by decide)) hp
  replace EB := hid ((u.block _ (heap_lt EB.out) id).trans EB.out)
  replace RE := hid ((RE.out.keep u).wide fun g hg => Nat.lt_of_lt_of_le hg u.size)
  replace R0 := hid (rep_keep R0.out u)
  replace UC := hid (UC.out.trans u)
  have RN := hid rep
  clear hp u rep R0
  go_wp2_with fail
  refine (span_any 4 0 9 _).mono ?_
  rintro en x6 ⟨rfl, u⟩
  replace EB := hid ((u.block _ (heap_lt EB.out) id).trans EB.out)
  replace RE := hid ((RE.out.keep u).wide fun g hg => Nat.lt_of_lt_of_le hg u.size)
  replace RN := hid (rep_keep RN.out u)
  replace UC := hid (UC.out.trans u)
  clear u
  obtain ⟨LRA0, hLRA0⟩ : ∃ x, x = x6.alloc (.cells #[.int .i64 4, .int .i64 0, .int .i64 9] 39 (0, 0)) := ⟨_, rfl⟩
  have hb : LRA0.heap[x6.heap.size]? = some (.cells (flatS [⟨4, 0, 9⟩]).toArray 39 (0, 0)) := by rw [hLRA0]; exact heap_alloc_new
  have u : Upd (fun _ => False) x6 LRA0 := by rw [hLRA0]; exact (Upd.refl _ _).alloc _
  have HLRA0 := hid hLRA0
  replace EB := hid ((u.block _ (heap_lt EB.out) id).trans EB.out)
  replace RE := hid ((RE.out.keep u).wide fun g hg => Nat.lt_of_lt_of_le hg u.size)
  replace RN := hid (rep_keep RN.out u)
  replace UC := hid (UC.out.trans u)
  have RA0 := hid (lit_rep hb (smallS.wf (by decide)) (by unfold maxLen; decide))
  clear hb u hLRA0
  go_wp2_with fail
  rw [← HLRA0.out]
  clear HLRA0
  refine (span_any 4 2 5 _).mono ?_
  rintro en x7 ⟨rfl, u⟩
  skip
  replace EB := hid ((u.block _ (heap_lt EB.out) id).trans EB.out)
  replace RE := hid ((RE.out.keep u).wide fun g hg => Nat.lt_of_lt_of_le hg u.size)
  replace RN := hid (rep_keep RN.out u)
  replace RA0 := hid (rep_keep RA0.out u)
  replace UC := hid (UC.out.trans u)
  clear u
  obtain ⟨LRB0, hLRB0⟩ : ∃ x, x = x7.alloc (.cells #[.int .i64 4, .int .i64 2, .int .i64 5] 39 (0, 0)) := ⟨_, rfl⟩
  have hb : LRB0.heap[x7.heap.size]? = some (.cells (flatS [⟨4, 2, 5⟩]).toArray 39 (0, 0)) := by rw [hLRB0]; exact heap_alloc_new
  have u : Upd (fun _ => False) x7 LRB0 := by rw [hLRB0]; exact (Upd.refl _ _).alloc _
  have HLRB0 := hid hLRB0
  replace EB := hid ((u.block _ (heap_lt EB.out) id).trans EB.out)
  replace RE := hid ((RE.out.keep u).wide fun g hg => Nat.lt_of_lt_of_le hg u.size)
  replace RN := hid (rep_keep RN.out u)
  replace RA0 := hid (rep_keep RA0.out u)
  replace UC := hid (UC.out.trans u)
  have RB0 := hid (lit_rep hb (smallS.wf (by decide)) (by unfold maxLen; decide))
  clear hb u hLRB0
  go_wp2_with fail
  rw [← HLRB0.out]
  clear HLRB0
  refine (minus_any (· < LRB0.heap.size) _ _ [⟨4, 0, 9⟩] [⟨4, 2, 5⟩] _ RA0.out RB0.out (by decide) (by decide)).mono ?_
  rintro en x8 hp
  obtain ⟨ma, mc, rfl, rep, u⟩ := sps_lit vMinus (n := 2) rfl (smallS.wf (by decide)) hp
  replace EB := hid ((u.block _ (heap_lt EB.out) id).trans EB.out)
  replace RE := hid ((RE.out.keep u).wide fun g hg => Nat.lt_of_lt_of_le hg u.size)
  replace RN := hid (rep_keep RN.out u)
  replace RA0 := hid (rep_keep RA0.out u)
  replace RB0 := hid (rep_keep RB0.out u)
  replace UC := hid (UC.out.trans u)
  have RM := hid rep
  clear hp u rep RA0 RB0
  go_wp2_with fail
  refine (take_any (· < _) _ vN 2 _ RN.out (by decide) (by unfold I64; omega)).mono ?_
  rintro en x9 hp
  obtain ⟨fa, ga, fc, gc, rfl, repf, repg, u⟩ := take_v hp
  replace EB := hid ((u.block _ (heap_lt EB.out) id).trans EB.out)
  replace RE := hid ((RE.out.keep u).wide fun g hg => Nat.lt_of_lt_of_le hg u.size)
  replace RN := hid (rep_keep RN.out u)
  replace RM := hid (rep_keep RM.out u)
  replace UC := hid (UC.out.trans u)
  clear u
  have RF := hid repf; have RG := hid repg
  clear hp repf repg
  obtain ⟨xc, hxc⟩ : ∃ x, x = x9 := ⟨_, rfl⟩
  subst hxc
  have Y0 : Hid (xc.drew.heap[eb]? = _) := hid EB.out
  have V0 := hid ((Upd.refl (fun _ => False) xc).drew)
  go_upto_region 7 with (fail)
  first | (go_region_held3 (fun w' => w'.cell? ⟨eb, 0, none⟩ = some (.int .i64 3) ∧ w'.cell? ⟨eb, 1, none⟩ = some (.int .i64 1) ∧ w'.cell? ⟨eb, 2, none⟩ = some (.int .i64 5) ∧ w'.cell? ⟨eb, 3, none⟩ = some (.slice a1 2 c1) ∧ w'.cell? ⟨eb, 4, none⟩ = some (.int .i64 12) ∧ w'.cell? ⟨eb, 5, none⟩ = some (.int .i64 0) ∧ w'.cell? ⟨eb, 6, none⟩ = some (.int .i64 0) ∧ w'.cell? ⟨eb, 7, none⟩ = some (.int .i64 1) ∧ w'.cell? ⟨eb, 8, none⟩ = some (.int .i64 0) ∧ w'.cell? ⟨eb, 9, none⟩ = some (.int .i64 7) ∧ w'.cell? ⟨eb, 10, none⟩ = some (.slice a2 0 c2) ∧ w'.cell? ⟨eb, 11, none⟩ = some (.slice a3 0 c3) ∧ w'.cell? ⟨eb, 12, none⟩ = some (.string ⟨#[]⟩)) (first | with_reducible exact cells_v Y0.out | with_reducible exact cells_v Y1.out | with_reducible exact cells_v Y2.out | with_reducible exact cells_v Y3.out | with_reducible exact cells_v Y4.out | go_keep) (first | (go_at_call 42; have tk := Y2; with_reducible refine (vote_any _).mono ?_; rintro en wy3 ⟨va2, vc2, rfl, vr2, u⟩; have Y3 := hid ((u.block _ (heap_lt Y2.out) id).trans Y2.out); have V3 := hid (V2.out.trans u); have R2 := hid vr2; clear vr2; clear u) | (go_at_call 18; have tk := Y3; with_reducible refine (same_lit _ _ _ _ _ _ _ _ _ _ _ _ _ (RE.out.keep V3.out) R2.out (fun g hg => Nat.lt_of_lt_of_le hg V3.out.size) (fun g hg => hg)).mono ?_; rintro en wy4 ⟨rfl, u⟩; have Y4 := hid ((u.block _ (heap_lt Y3.out) id).trans Y3.out); have V4 := hid (V3.out.trans u); clear u) | (go_at_call 16; with_reducible refine (text_lit _ _ _ _ _ _ _ (HE.out.keep0 (UC.out.trans V1.out)) (HU.out.keep (UC.out.trans V1.out)) R1.out).mono ?_; rintro en wy2 ⟨rfl, u⟩; have Y2 := hid ((u.block _ (heap_lt Y1.out) id).trans Y1.out); have V2 := hid (V1.out.trans u); clear u) | (go_at_call 42; with_reducible refine (vote_any _).mono ?_; rintro en wy1 ⟨va1, vc1, rfl, vr1, u⟩; have Y1 := hid ((u.block _ (heap_lt Y0.out) id).trans Y0.out); have V1 := hid (V0.out.trans u); have R1 := hid vr1; clear vr1; clear u))) | fail
  replace RN := hid (rep_keep RN.out V4.out)
  replace RM := hid (rep_keep RM.out V4.out)
  replace RF := hid (rep_keep RF.out V4.out)
  replace RG := hid (rep_keep RG.out V4.out)
  replace UC := hid (UC.out.trans V4.out)
  clear Y0 Y1 Y2 Y3 Y4 V0 V1 V2 V3 V4 R1 R2 EB RE
  obtain ⟨x10, hxc⟩ : ∃ x, x = wy4 := ⟨_, rfl⟩
  subst hxc
  go_wp2_with fail
  refine (span_any 2 0 1 _).mono ?_
  rintro en x11 ⟨rfl, u⟩
  replace RN := hid (rep_keep RN.out u)
  replace RM := hid (rep_keep RM.out u)
  replace RF := hid (rep_keep RF.out u)
  replace RG := hid (rep_keep RG.out u)
  replace UC := hid (UC.out.trans u)
  clear u
  go_wp2_with fail
  refine (span_any 4 3 8 _).mono ?_
  rintro en x12 ⟨rfl, u⟩
  replace RN := hid (rep_keep RN.out u)
  replace RM := hid (rep_keep RM.out u)
  replace RF := hid (rep_keep RF.out u)
  replace RG := hid (rep_keep RG.out u)
  replace UC := hid (UC.out.trans u)
  clear u
  obtain ⟨LRC1, hLRC1⟩ : ∃ x, x = x12.alloc (.cells #[.int .i64 2, .int .i64 0, .int .i64 1, .int .i64 4, .int .i64 3, .int .i64 8] 39 (0, 0)) := ⟨_, rfl⟩
  have hb : LRC1.heap[x12.heap.size]? = some (.cells (flatS [⟨2, 0, 1⟩, ⟨4, 3, 8⟩]).toArray 39 (0, 0)) := by rw [hLRC1]; exact heap_alloc_new
  have u : Upd (fun _ => False) x12 LRC1 := by rw [hLRC1]; exact (Upd.refl _ _).alloc _
  have HLRC1 := hid hLRC1
  replace RN := hid (rep_keep RN.out u)
  replace RM := hid (rep_keep RM.out u)
  replace RF := hid (rep_keep RF.out u)
  replace RG := hid (rep_keep RG.out u)
  replace UC := hid (UC.out.trans u)
  have RC1 := hid (lit_rep hb (smallS.wf (by decide)) (by unfold maxLen; decide))
  clear hb u hLRC1
  go_wp2_with fail
  rw [← HLRC1.out]
  clear HLRC1
  refine (refSps_any _ _ vN [⟨2, 0, 1⟩, ⟨4, 3, 8⟩] (· < LRC1.heap.size) (· < LRC1.heap.size) _ RN.out RC1.out (fun _ h => h) (fun _ h => h)).mono ?_
  rintro en x13 ⟨rfl, u⟩
  rw [show decide ((vN : List Sp) = [⟨2, 0, 1⟩, ⟨4, 3, 8⟩]) = true from decide_eq_true rfl]
  replace RN := hid (rep_keep RN.out u)
  replace RM := hid (rep_keep RM.out u)
  replace RF := hid (rep_keep RF.out u)
  replace RG := hid (rep_keep RG.out u)
  replace RC1 := hid (rep_keep RC1.out u)
  replace UC := hid (UC.out.trans u)
  clear u RC1
  go_wp2_with fail
  refine (span_any 4 0 2 _).mono ?_
  rintro en x14 ⟨rfl, u⟩
  replace RN := hid (rep_keep RN.out u)
  replace RM := hid (rep_keep RM.out u)
  replace RF := hid (rep_keep RF.out u)
  replace RG := hid (rep_keep RG.out u)
  replace UC := hid (UC.out.trans u)
  clear u
  go_wp2_with fail
  refine (span_any 4 5 9 _).mono ?_
  rintro en x15 ⟨rfl, u⟩
  replace RN := hid (rep_keep RN.out u)
  replace RM := hid (rep_keep RM.out u)
  replace RF := hid (rep_keep RF.out u)
  replace RG := hid (rep_keep RG.out u)
  replace UC := hid (UC.out.trans u)
  clear u
  obtain ⟨LRC2, hLRC2⟩ : ∃ x, x = x15.alloc (.cells #[.int .i64 4, .int .i64 0, .int .i64 2, .int .i64 4, .int .i64 5, .int .i64 9] 39 (0, 0)) := ⟨_, rfl⟩
  have hb : LRC2.heap[x15.heap.size]? = some (.cells (flatS [⟨4, 0, 2⟩, ⟨4, 5, 9⟩]).toArray 39 (0, 0)) := by rw [hLRC2]; exact heap_alloc_new
  have u : Upd (fun _ => False) x15 LRC2 := by rw [hLRC2]; exact (Upd.refl _ _).alloc _
  have HLRC2 := hid hLRC2
  replace RN := hid (rep_keep RN.out u)
  replace RM := hid (rep_keep RM.out u)
  replace RF := hid (rep_keep RF.out u)
  replace RG := hid (rep_keep RG.out u)
  replace UC := hid (UC.out.trans u)
  have RC2 := hid (lit_rep hb (smallS.wf (by decide)) (by unfold maxLen; decide))
  clear hb u hLRC2
  go_wp2_with fail
  rw [← HLRC2.out]
  clear HLRC2
  refine (refSps_any _ _ [⟨4, 0, 2⟩, ⟨4, 5, 9⟩] [⟨4, 0, 2⟩, ⟨4, 5, 9⟩] (· < LRC2.heap.size) (· < LRC2.heap.size) _ RM.out RC2.out (fun _ h => h) (fun _ h => h)).mono ?_
  rintro en x16 ⟨rfl, u⟩
  rw [show decide (([⟨4, 0, 2⟩, ⟨4, 5, 9⟩] : List Sp) = [⟨4, 0, 2⟩, ⟨4, 5, 9⟩]) = true from decide_eq_true rfl]
  replace RN := hid (rep_keep RN.out u)
  replace RM := hid (rep_keep RM.out u)
  replace RF := hid (rep_keep RF.out u)
  replace RG := hid (rep_keep RG.out u)
  replace RC2 := hid (rep_keep RC2.out u)
  replace UC := hid (UC.out.trans u)
  clear u RC2 RM
  go_wp2_with fail
  refine (span_any 2 0 1 _).mono ?_
  rintro en x17 ⟨rfl, u⟩
  replace RN := hid (rep_keep RN.out u)
  replace RF := hid (rep_keep RF.out u)
  replace RG := hid (rep_keep RG.out u)
  replace UC := hid (UC.out.trans u)
  clear u
  go_wp2_with fail
  refine (span_any 4 3 4 _).mono ?_
  rintro en x18 ⟨rfl, u⟩
  replace RN := hid (rep_keep RN.out u)
  replace RF := hid (rep_keep RF.out u)
  replace RG := hid (rep_keep RG.out u)
  replace UC := hid (UC.out.trans u)
  clear u
  obtain ⟨LRC3, hLRC3⟩ : ∃ x, x = x18.alloc (.cells #[.int .i64 2, .int .i64 0, .int .i64 1, .int .i64 4, .int .i64 3, .int .i64 4] 39 (0, 0)) := ⟨_, rfl⟩
  have hb : LRC3.heap[x18.heap.size]? = some (.cells (flatS [⟨2, 0, 1⟩, ⟨4, 3, 4⟩]).toArray 39 (0, 0)) := by rw [hLRC3]; exact heap_alloc_new
  have u : Upd (fun _ => False) x18 LRC3 := by rw [hLRC3]; exact (Upd.refl _ _).alloc _
  have HLRC3 := hid hLRC3
  replace RN := hid (rep_keep RN.out u)
  replace RF := hid (rep_keep RF.out u)
  replace RG := hid (rep_keep RG.out u)
  replace UC := hid (UC.out.trans u)
  have RC3 := hid (lit_rep hb (smallS.wf (by decide)) (by unfold maxLen; decide))
  clear hb u hLRC3
  go_wp2_with fail
  rw [← HLRC3.out]
  clear HLRC3
  refine (refSps_any _ _ [⟨2, 0, 1⟩, ⟨4, 3, 4⟩] [⟨2, 0, 1⟩, ⟨4, 3, 4⟩] (· < LRC3.heap.size) (· < LRC3.heap.size) _ RF.out RC3.out (fun _ h => h) (fun _ h => h)).mono ?_
  rintro en x19 ⟨rfl, u⟩
  rw [show decide (([⟨2, 0, 1⟩, ⟨4, 3, 4⟩] : List Sp) = [⟨2, 0, 1⟩, ⟨4, 3, 4⟩]) = true from decide_eq_true rfl]
  replace RN := hid (rep_keep RN.out u)
  replace RF := hid (rep_keep RF.out u)
  replace RG := hid (rep_keep RG.out u)
  replace RC3 := hid (rep_keep RC3.out u)
  replace UC := hid (UC.out.trans u)
  clear u RC3 RF
  go_wp2_with fail
  refine (span_any 4 4 8 _).mono ?_
  rintro en x20 ⟨rfl, u⟩
  replace RN := hid (rep_keep RN.out u)
  replace RG := hid (rep_keep RG.out u)
  replace UC := hid (UC.out.trans u)
  clear u
  obtain ⟨LRC4, hLRC4⟩ : ∃ x, x = x20.alloc (.cells #[.int .i64 4, .int .i64 4, .int .i64 8] 39 (0, 0)) := ⟨_, rfl⟩
  have hb : LRC4.heap[x20.heap.size]? = some (.cells (flatS [⟨4, 4, 8⟩]).toArray 39 (0, 0)) := by rw [hLRC4]; exact heap_alloc_new
  have u : Upd (fun _ => False) x20 LRC4 := by rw [hLRC4]; exact (Upd.refl _ _).alloc _
  have HLRC4 := hid hLRC4
  replace RN := hid (rep_keep RN.out u)
  replace RG := hid (rep_keep RG.out u)
  replace UC := hid (UC.out.trans u)
  have RC4 := hid (lit_rep hb (smallS.wf (by decide)) (by unfold maxLen; decide))
  clear hb u hLRC4
  go_wp2_with fail
  rw [← HLRC4.out]
  clear HLRC4
  refine (refSps_any _ _ [⟨4, 4, 8⟩] [⟨4, 4, 8⟩] (· < LRC4.heap.size) (· < LRC4.heap.size) _ RG.out RC4.out (fun _ h => h) (fun _ h => h)).mono ?_
  rintro en x21 ⟨rfl, u⟩
  rw [show decide (([⟨4, 4, 8⟩] : List Sp) = [⟨4, 4, 8⟩]) = true from decide_eq_true rfl]
  replace RN := hid (rep_keep RN.out u)
  replace RG := hid (rep_keep RG.out u)
  replace RC4 := hid (rep_keep RC4.out u)
  replace UC := hid (UC.out.trans u)
  clear u RC4 RG
  go_wp2_with fail
  refine (count_any (· < _) _ vN _ RN.out (by decide)).mono ?_
  rintro en x22 ⟨rfl, u⟩
  rw [vCount]
  replace RN := hid (rep_keep RN.out u)
  replace UC := hid (UC.out.trans u)
  clear u
  go_wp2_with fail
  refine (has_any (· < _) _ vN 4 7 _ RN.out).mono ?_
  rintro en x23 ⟨rfl, u⟩
  rw [decide_eq_true vHas1]
  replace RN := hid (rep_keep RN.out u)
  replace UC := hid (UC.out.trans u)
  clear u
  go_wp2_with fail
  refine (has_any (· < _) _ vN 4 8 _ RN.out).mono ?_
  rintro en x24 ⟨rfl, u⟩
  rw [decide_eq_false vHas2]
  replace RN := hid (rep_keep RN.out u)
  replace UC := hid (UC.out.trans u)
  clear u
  go_wp2_with fail
  refine (nrm_any (· < _) _ vN _ RN.out).mono ?_
  rintro en x25 ⟨rfl, u⟩
  rw [decide_eq_true vNrm]
  replace RN := hid (rep_keep RN.out u)
  replace UC := hid (UC.out.trans u)
  clear u
  go_wp2_with fail
  refine (span_any 4 3 6 _).mono ?_
  rintro en x26 ⟨rfl, u⟩
  replace RN := hid (rep_keep RN.out u)
  replace UC := hid (UC.out.trans u)
  clear u
  go_wp2_with fail
  refine (span_any 4 6 8 _).mono ?_
  rintro en x27 ⟨rfl, u⟩
  replace RN := hid (rep_keep RN.out u)
  replace UC := hid (UC.out.trans u)
  clear u
  obtain ⟨LRZ, hLRZ⟩ : ∃ x, x = x27.alloc (.cells #[.int .i64 4, .int .i64 3, .int .i64 6, .int .i64 4, .int .i64 6, .int .i64 8] 39 (0, 0)) := ⟨_, rfl⟩
  have hb : LRZ.heap[x27.heap.size]? = some (.cells (flatS [⟨4, 3, 6⟩, ⟨4, 6, 8⟩]).toArray 39 (0, 0)) := by rw [hLRZ]; exact heap_alloc_new
  have u : Upd (fun _ => False) x27 LRZ := by rw [hLRZ]; exact (Upd.refl _ _).alloc _
  have HLRZ := hid hLRZ
  replace RN := hid (rep_keep RN.out u)
  replace UC := hid (UC.out.trans u)
  have RZ := hid (lit_rep hb (smallS.wf (by decide)) (by unfold maxLen; decide))
  clear hb u hLRZ
  go_wp2_with fail
  rw [← HLRZ.out]
  clear HLRZ
  refine (nrm_any (· < LRZ.heap.size) _ [⟨4, 3, 6⟩, ⟨4, 6, 8⟩] _ RZ.out).mono ?_
  rintro en x28 ⟨rfl, u⟩
  rw [decide_eq_false vNrmNo]
  replace RN := hid (rep_keep RN.out u)
  replace RZ := hid (rep_keep RZ.out u)
  replace UC := hid (UC.out.trans u)
  clear u
  go_wp2_with fail
  go_ret
  exact ⟨rfl, UC.out⟩
end Go.Proofs.YtdcahnkcnbhknaaGreatDoor
namespace Go.Proofs.YtdcahnkcnbhknaaGreatDoor
open Go.RowKit Go.Deep

theorem light_any (a : Option Addr) (c : Nat) (l : List Sp) (w : World) : Calls Tryz.prog 23 #[.slice a l.length c] w fun e w' => e = .returned (.bool (decide (l.length ≤ 30))) ∧ w = w' := by
  go_enter Tryz.func23, Tryz.ntmps23
  go_wp2_with fail
  go_ret
  exact ⟨ret_dec (by omega), rfl⟩
theorem nrm_wf {l : List Sp} (h : Nrm l) : ∀ s ∈ l, SpWf s := fun s hs => ok_wf (h.ok s hs)
/-- A law's list of spans in memory. -/
theorem sps_post {r : List Sp} {w w' : World} {e : Ending} (hw : Nrm r) (h : SpsPost r w e w') : ∃ a c, e = .returned (.slice a r.length c) ∧ kSps.rep (· < w'.heap.size) w' [.slice a r.length c] r ∧ Upd (fun _ => False) w w' := sps_lit rfl rfl (nrm_wf hw) h
theorem take_post {r : List Sp × List Sp} {w w' : World} {e : Ending} (h1 : Nrm r.1) (h2 : Nrm r.2) (h : TakePost r w e w') : ∃ a b c d, e = .returned (.tuple #[.slice a r.1.length c, .slice b r.2.length d]) ∧ kSps.rep (· < w'.heap.size) w' [.slice a r.1.length c] r.1 ∧ kSps.rep (· < w'.heap.size) w' [.slice b r.2.length d] r.2 ∧ Upd (fun _ => False) w w' := by
  obtain ⟨v1, v2, rfl, o1, o2, u⟩ := h
  have r1 := sps_own_rep (A := (· < w'.heap.size)) o1 (nrm_wf h1) (own_new o1)
  have r2 := sps_own_rep (A := (· < w'.heap.size)) o2 (nrm_wf h2) (own_new o2)
  obtain ⟨a, c, rfl, _⟩ := slice_open r1
  obtain ⟨b, d, rfl, _⟩ := slice_open r2
  exact ⟨a, b, c, d, rfl, r1, r2, u⟩
theorem nrmU (a b : List Sp) : Nrm (unionF a b) := (norm_spec _).1
theorem nrmC (a b : List Sp) : Nrm (commonF a b) := (norm_spec _).1
theorem nrmM (a b : List Sp) : Nrm (minusF a b) := (minus_spec a b).1
theorem nrmN (a : List Sp) : Nrm (normF a) := (norm_spec a).1
theorem len_of {w : World} {a : Option Addr} {c n : Nat} {A : Nat → Prop} {l : List Sp} (h : kSps.rep A w [.slice a n c] l) : n = l.length := by
  obtain ⟨_, _, hv, _⟩ := slice_open h
  injection hv with _ h _
end Go.Proofs.YtdcahnkcnbhknaaGreatDoor
