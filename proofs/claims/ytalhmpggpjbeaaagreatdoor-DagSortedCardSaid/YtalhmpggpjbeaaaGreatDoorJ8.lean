/- Walks: the law's small examples, and its helpers on spans. -/
import Derived.Test.YtalhmpggpjbeaaaGreatDoorCEnRead
import Derived.Test.YtalhmpggpjbeaaaGreatDoorCEnSame
import Derived.Test.YtalhmpggpjbeaaaGreatDoorJ5
namespace Go.Proofs.YtalhmpggpjbeaaaGreatDoor
open Go.RowKit Go.Deep

theorem sps_lit {r l : List Sp} {n : Nat} {w w' : World} {e : Ending} (hr : r = l) (hn : l.length = n) (hw : ∀ s ∈ l, SpWf s) (h : SpsPost r w e w') : ∃ a c, e = .returned (.slice a n c) ∧ kSps.rep (· < w'.heap.size) w' [.slice a n c] l ∧ Upd (fun _ => False) w w' := by
  subst hr hn
  obtain ⟨v, rfl, hown, u⟩ := h
  have hrep := sps_own_rep (A := (· < w'.heap.size)) hown hw (own_new hown)
  obtain ⟨a, c, rfl, _⟩ := slice_open hrep
  exact ⟨a, c, rfl, hrep, u⟩
theorem lit_rep {w : World} {b : Nat} {l : List Sp} (hb : w.heap[b]? = some (.cells (flatS l).toArray 126 (0, 0))) (hw : ∀ s ∈ l, SpWf s) (hl : l.length ≤ maxLen) : kSps.rep (· < w.heap.size) w [.slice (some ⟨b, 0, none⟩) l.length l.length] l :=
  SpBlk.rep (rest := []) (show SpBlk w b l [] by unfold SpBlk; rw [List.append_nil]; exact hb) hw (Nat.le_refl _) hl (heap_lt hb)
theorem spwf {a b c : Int} (h1 : 0 ≤ a ∧ a ≤ 100) (h2 : 0 ≤ b ∧ b ≤ 100) (h3 : 0 ≤ c ∧ c ≤ 100) : SpWf ⟨a, b, c⟩ := ⟨iwf (by dsimp only; omega), iwf (by dsimp only; omega), iwf (by dsimp only; omega)⟩
def smallS (l : List Sp) : Prop := ∀ s ∈ l, (0 ≤ s.mark ∧ s.mark ≤ 100) ∧ (0 ≤ s.fr ∧ s.fr ≤ 100) ∧ (0 ≤ s.to ∧ s.to ≤ 100)
instance (l : List Sp) : Decidable (smallS l) := by unfold smallS; exact inferInstance
theorem smallS.wf {l : List Sp} (h : smallS l) : ∀ s ∈ l, SpWf s := fun s hs => spwf (h s hs).1 (h s hs).2.1 (h s hs).2.2
theorem cells_v {w : World} {p : Nat} {a1 a2 a3 : Option Addr} {c1 c2 c3 : Nat} {t : TypeId} (h : w.heap[p]? = some (.cells (en13 (vVote 1) a1 a2 a3 c1 c2 c3) t (0, 0))) :
    w.cell? ⟨p, 0, none⟩ = some (.int .i64 3) ∧ w.cell? ⟨p, 1, none⟩ = some (.int .i64 1) ∧ w.cell? ⟨p, 2, none⟩ = some (.int .i64 5) ∧ w.cell? ⟨p, 3, none⟩ = some (.slice a1 2 c1) ∧ w.cell? ⟨p, 4, none⟩ = some (.int .i64 12) ∧ w.cell? ⟨p, 5, none⟩ = some (.int .i64 0) ∧ w.cell? ⟨p, 6, none⟩ = some (.int .i64 0) ∧ w.cell? ⟨p, 7, none⟩ = some (.int .i64 1) ∧ w.cell? ⟨p, 8, none⟩ = some (.int .i64 0) ∧ w.cell? ⟨p, 9, none⟩ = some (.int .i64 7) ∧ w.cell? ⟨p, 10, none⟩ = some (.slice a2 0 c2) ∧ w.cell? ⟨p, 11, none⟩ = some (.slice a3 0 c3) ∧ w.cell? ⟨p, 12, none⟩ = some (.string ⟨#[]⟩) := cells13 h
theorem text_lit (a1 a2 a3 : Option Addr) (c1 c2 c3 : Nat) (w : World) (E : Env w) (hu : UsesIn w) (hr : EnRep (· < w.heap.size) w (vVote 1) a1 a2 a3 c1 c2 c3) :
    Calls Tryz.prog 76 #[.agg #[.int .i64 3, .int .i64 1, .int .i64 5, .slice a1 2 c1, .int .i64 12, .int .i64 0, .int .i64 0, .int .i64 1, .int .i64 0, .int .i64 7, .slice a2 0 c2, .slice a3 0 c3, .string ⟨#[]⟩]] w fun en w' => en = .returned (.string ⟨#[51, 59, 49, 59, 53, 59, 50, 91, 50, 59, 55, 59, 93, 49, 50, 59, 48, 59, 48, 59, 49, 59, 48, 59, 55, 59, 48, 91, 93, 48, 59, 48, 58, 44]⟩) ∧ Upd (fun _ => False) w w' :=
  (text_any (vVote 1) a1 a2 a3 c1 c2 c3 w E hu hr (vWf 1 (by unfold I64; omega))).mono fun en w' h => ⟨by rw [h.1, vTxtF]; rfl, h.2⟩
theorem same_lit (a1 a2 a3 b1 b2 b3 : Option Addr) (c1 c2 c3 d1 d2 d3 : Nat) (w : World) {A B : Nat → Prop} (ha : EnRep A w (vVote 1) a1 a2 a3 c1 c2 c3) (hb : EnRep B w (vVote 1) b1 b2 b3 d1 d2 d3) (hA : ∀ g, A g → g < w.heap.size) (hB : ∀ g, B g → g < w.heap.size) :
    Calls Tryz.prog 49 #[.agg #[.int .i64 3, .int .i64 1, .int .i64 5, .slice a1 2 c1, .int .i64 12, .int .i64 0, .int .i64 0, .int .i64 1, .int .i64 0, .int .i64 7, .slice a2 0 c2, .slice a3 0 c3, .string ⟨#[]⟩], .agg #[.int .i64 3, .int .i64 1, .int .i64 5, .slice b1 2 d1, .int .i64 12, .int .i64 0, .int .i64 0, .int .i64 1, .int .i64 0, .int .i64 7, .slice b2 0 d2, .slice b3 0 d3, .string ⟨#[]⟩]] w fun en w' => en = .returned (.bool true) ∧ Upd (fun _ => False) w w' :=
  (same_any (vVote 1) (vVote 1) a1 a2 a3 b1 b2 b3 c1 c2 c3 d1 d2 d3 A B w ha hb hA hB).mono fun en w' h => ⟨by rw [h.1, decide_eq_true rfl], h.2⟩
theorem read_v1 {w w' : World} {en : Ending} (h : ReadPost (vTxt 49) w en w') : ∃ a1 a2 a3 c1 c2 c3, en = .returned (.tuple #[.agg #[.int .i64 3, .int .i64 1, .int .i64 5, .slice a1 2 c1, .int .i64 12, .int .i64 0, .int .i64 0, .int .i64 1, .int .i64 0, .int .i64 7, .slice a2 0 c2, .slice a3 0 c3, .string ⟨#[]⟩], .int .i64 0]) ∧ EnRep (· < w'.heap.size) w' (vVote 1) a1 a2 a3 c1 c2 c3 ∧ Upd (fun _ => False) w w' := by
  obtain ⟨a1, a2, a3, c1, c2, c3, he, hr, u⟩ := h
  rw [vRd1] at he hr
  exact ⟨a1, a2, a3, c1, c2, c3, he, hr.wide fun g hg => hg.2, u⟩
theorem read_v2 {w w' : World} {en : Ending} (h : ReadPost (vTxt 50) w en w') : ∃ a1 a2 a3 c1 c2 c3, en = .returned (.tuple #[.agg #[.int .i64 0, .int .i64 0, .int .i64 0, .slice a1 0 c1, .int .i64 0, .int .i64 0, .int .i64 0, .int .i64 0, .int .i64 0, .int .i64 0, .slice a2 0 c2, .slice a3 0 c3, .string ⟨#[]⟩], .int .i64 2]) ∧ Upd (fun _ => False) w w' := by
  obtain ⟨a1, a2, a3, c1, c2, c3, he, hr, u⟩ := h
  rw [vRd2] at he hr
  exact ⟨a1, a2, a3, c1, c2, c3, he, u⟩
theorem take_v {w w' : World} {en : Ending} (h : TakePost (takeC vN 2) w en w') : ∃ a b c d, en = .returned (.tuple #[.slice a 2 c, .slice b 1 d]) ∧ kSps.rep (· < w'.heap.size) w' [.slice a 2 c] [⟨2, 0, 1⟩, ⟨4, 3, 4⟩] ∧ kSps.rep (· < w'.heap.size) w' [.slice b 1 d] [⟨4, 4, 8⟩] ∧ Upd (fun _ => False) w w' := by
  obtain ⟨v1, v2, rfl, o1, o2, u⟩ := h
  rw [vTake] at o1 o2
  have r1 := sps_own_rep (l := [⟨2, 0, 1⟩, ⟨4, 3, 4⟩]) (A := (· < w'.heap.size)) o1 (smallS.wf (by decide)) (own_new o1)
  have r2 := sps_own_rep (l := [⟨4, 4, 8⟩]) (A := (· < w'.heap.size)) o2 (smallS.wf (by decide)) (own_new o2)
  obtain ⟨a, c, rfl, _⟩ := slice_open r1
  obtain ⟨b, d, rfl, _⟩ := slice_open r2
  exact ⟨a, b, c, d, rfl, r1, r2, u⟩
end Go.Proofs.YtalhmpggpjbeaaaGreatDoor
namespace Go.Proofs.YtalhmpggpjbeaaaGreatDoor
open Go.RowKit Go.Deep

theorem nrm_wf {l : List Sp} (h : Nrm l) : ∀ s ∈ l, SpWf s := fun s hs => ok_wf (h.ok s hs)
/-- A law's list of spans in memory. -/
theorem sps_post {r : List Sp} {w w' : World} {e : Ending} (hw : Nrm r) (h : SpsPost r w e w') : ∃ a c, e = .returned (.slice a r.length c) ∧ kSps.rep (· < w'.heap.size) w' [.slice a r.length c] r ∧ Upd (fun _ => False) w w' := sps_lit rfl rfl (nrm_wf hw) h
theorem take_post {r : List Sp × List Sp} {w w' : World} {e : Ending} (h1 : Nrm r.1) (h2 : Nrm r.2) (h : TakePost r w e w') : ∃ a b c d, e = .returned (.tuple #[.slice a r.1.length c, .slice b r.2.length d]) ∧ kSps.rep (· < w'.heap.size) w' [.slice a r.1.length c] r.1 ∧ kSps.rep (· < w'.heap.size) w' [.slice b r.2.length d] r.2 ∧ Upd (fun _ => False) w w' := by
  obtain ⟨v1, v2, rfl, o1, o2, u⟩ := h
  have r1 := sps_own_rep (A := (· < w'.heap.size)) o1 (nrm_wf h1) (own_new o1)
  have r2 := sps_own_rep (A := (· < w'.heap.size)) o2 (nrm_wf h2) (own_new o2)
  obtain ⟨a, c, rfl, _⟩ := slice_open r1
  obtain ⟨b, d, rfl, _⟩ := slice_open r2
  exact ⟨a, b, c, d, rfl, r1, r2, u⟩
theorem nrmU (a b : List Sp) : Nrm (unionF a b) := (norm_spec _).1
theorem nrmC (a b : List Sp) : Nrm (commonF a b) := (norm_spec _).1
theorem nrmM (a b : List Sp) : Nrm (minusF a b) := (minus_spec a b).1
theorem nrmN (a : List Sp) : Nrm (normF a) := (norm_spec a).1
theorem len_of {w : World} {a : Option Addr} {c n : Nat} {A : Nat → Prop} {l : List Sp} (h : kSps.rep A w [.slice a n c] l) : n = l.length := by
  obtain ⟨_, _, hv, _⟩ := slice_open h
  injection hv with _ h _
end Go.Proofs.YtalhmpggpjbeaaaGreatDoor
namespace Go.Proofs.YtalhmpggpjbeaaaGreatDoor
open Go.RowKit Go.Deep

structure EnOk (e : En) : Prop where
  author : I64 e.author
  seq : I64 e.seq
  day : I64 e.day
  kind : I64 e.kind
  circle : I64 e.circle
  who : I64 e.who
  n : I64 e.n
  m : I64 e.m
  ref : I64 e.ref
  knows : ∀ x ∈ e.knows, I64 x
  keys : ∀ x ∈ e.keys, I64 x
  text : e.text.length ≤ maxLen
theorem ints_wf {A : Nat → Prop} {w : World} {v : Value} {l : List Int} (h : kInts.rep A w [v] l) : ∀ x ∈ l, I64 x := by
  obtain ⟨_, _, _, _, _, h3⟩ := slice_open h
  intro x hx
  obtain ⟨i, hi, rfl⟩ := List.mem_iff_getElem.1 hx
  obtain ⟨b, o, _, _, hel⟩ := h3 (Nat.lt_of_le_of_lt (Nat.zero_le _) hi)
  obtain ⟨cs, ⟨_, hw⟩, _⟩ := hel i hi
  exact wfi hw
theorem en_open {A : Nat → Prop} {w : World} {cs : Array Value} {e : En} (h : kEn.rep A w cs.toList e) : ∃ a1 a2 a3 c1 c2 c3, cs = en13 e a1 a2 a3 c1 c2 c3 ∧ EnRep A w e a1 a2 a3 c1 c2 c3 ∧ EnOk e := by
  obtain ⟨_, _, h0, ⟨rfl, h1⟩, _, _, rfl, ⟨rfl, h2⟩, _, _, rfl, ⟨rfl, h3⟩, _, _, rfl, hk, _, _, rfl, ⟨rfl, h5⟩, _, _, rfl, ⟨rfl, h6⟩, _, _, rfl, ⟨rfl, h7⟩, _, _, rfl, ⟨rfl, h8⟩, _, _, rfl, ⟨rfl, h9⟩, _, _, rfl, ⟨rfl, h10⟩, _, _, rfl, hy, _, _, rfl, hs, rfl, ht⟩ := h
  have l1 := kInts.len hk
  have l2 := kInts.len hy
  have l3 := kSps.len hs
  rename_i k1 k2 k3
  obtain ⟨v1, rfl⟩ := List.length_eq_one_iff.1 l1
  obtain ⟨v2, rfl⟩ := List.length_eq_one_iff.1 l2
  obtain ⟨v3, rfl⟩ := List.length_eq_one_iff.1 l3
  obtain ⟨a1, c1, rfl, _⟩ := slice_open hk
  obtain ⟨a2, c2, rfl, _⟩ := slice_open hy
  obtain ⟨a3, c3, rfl, _⟩ := slice_open hs
  refine ⟨a1, a2, a3, c1, c2, c3, ?_, ⟨hk, hy, hs⟩, ⟨wfi h1, wfi h2, wfi h3, wfi h5, wfi h6, wfi h7, wfi h8, wfi h9, wfi h10, ints_wf hk, ints_wf hy, by simpa [ByteArray.size] using ht⟩⟩
  have : cs = cs.toList.toArray := by simp
  rw [this, h0]
  rfl
def FewE (e : En) : Prop := e.knows.length ≤ 60 ∧ e.keys.length ≤ 70 ∧ e.spans.length ≤ 60 ∧ e.text.length ≤ 2100
instance (e : En) : Decidable (FewE e) := by unfold FewE; exact inferInstance
theorem EnOk.wf {e : En} (h : EnOk e) (hf : FewE e) : EnWf e := ⟨⟨Nat.le_trans hf.1 (by decide), h.knows⟩, ⟨Nat.le_trans hf.2.1 (by decide), h.keys⟩, h.n, h.m, h.ref⟩
theorem read_open {s : List UInt8} {w w' : World} {en : Ending} {x : En} {y : Int} (hx : rdF s = (x, y)) (h : ReadPost s w en w') : ∃ a1 a2 a3 c1 c2 c3, en = .returned (.tuple #[.agg #[.int .i64 x.author, .int .i64 x.seq, .int .i64 x.day, .slice a1 x.knows.length c1, .int .i64 x.kind, .int .i64 x.circle, .int .i64 x.who, .int .i64 x.n, .int .i64 x.m, .int .i64 x.ref, .slice a2 x.keys.length c2, .slice a3 x.spans.length c3, .string ⟨x.text.toArray⟩], .int .i64 y]) ∧ EnRep (· < w'.heap.size) w' x a1 a2 a3 c1 c2 c3 ∧ Upd (fun _ => False) w w' := by
  obtain ⟨a1, a2, a3, c1, c2, c3, he, hr, u⟩ := h
  rw [hx] at he hr
  exact ⟨a1, a2, a3, c1, c2, c3, he, hr.wide fun g hg => hg.2, u⟩
end Go.Proofs.YtalhmpggpjbeaaaGreatDoor
