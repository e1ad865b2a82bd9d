/- Walks: the examples of the documentation of meetings (small). -/
import Derived.Test.YtjkmalddfoemhaaGreatDoorJ22
import Derived.Test.YtjkmalddfoemhaaGreatDoorJ20
import Derived.Test.YtjkmalddfoemhaaGreatDoorJ23
import Derived.Test.YtjkmalddfoemhaaGreatDoorJ14
import Derived.BigQuiet
namespace Go.Proofs.YtjkmalddfoemhaaGreatDoor
open Go.RowKit Go.Deep

theorem note12_any (a q : Int) (ka : Option Addr) (n kc : Nat) (w : World) : Calls Tryz.prog 87 #[.int .i64 a, .int .i64 q, .slice ka n kc] w fun e w' => e = .returned (.agg #[.int .i64 a, .int .i64 q, .int .i64 0, .slice ka n kc, .int .i64 1, .int .i64 0, .int .i64 0, .int .i64 0, .int .i64 0, .int .i64 (-1), .slice none 0 0, .slice none 0 0, .string ⟨#[]⟩]) ∧ Upd (fun _ => False) w w' := by
  go_enter Tryz.func87, Tryz.ntmps87
  go_wp2_with fail
  obtain ⟨W, hW⟩ : ∃ W, W = w.alloc (.cells #[.int .i64 a, .int .i64 q, .int .i64 0, .slice ka n kc, .int .i64 1, .int .i64 0, .int .i64 0, .int .i64 0, .int .i64 0, .int .i64 (-1), .slice none 0 0, .slice none 0 0, .string ⟨#[]⟩] 72 (0, 0)) := ⟨_, rfl⟩
  have hb : W.heap[w.heap.size]? = some (.cells #[.int .i64 a, .int .i64 q, .int .i64 0, .slice ka n kc, .int .i64 1, .int .i64 0, .int .i64 0, .int .i64 0, .int .i64 0, .int .i64 (-1), .slice none 0 0, .slice none 0 0, .string ⟨#[]⟩] 72 (0, 0)) := by rw [hW]; exact heap_alloc_new
  have u : Upd (fun _ => False) w W := by rw [hW]; exact (Upd.refl _ _).alloc _
  rw [← hW]
  have d0 : W.cell? ⟨w.heap.size, 0, none⟩ = some (.int .i64 a) := by rw [cell_of_block hb]; rfl
  have d1 : W.cell? ⟨w.heap.size, 1, none⟩ = some (.int .i64 q) := by rw [cell_of_block hb]; rfl
  have d2 : W.cell? ⟨w.heap.size, 2, none⟩ = some (.int .i64 0) := by rw [cell_of_block hb]; rfl
  have d3 : W.cell? ⟨w.heap.size, 3, none⟩ = some (.slice ka n kc) := by rw [cell_of_block hb]; rfl
  have d4 : W.cell? ⟨w.heap.size, 4, none⟩ = some (.int .i64 1) := by rw [cell_of_block hb]; rfl
  have d5 : W.cell? ⟨w.heap.size, 5, none⟩ = some (.int .i64 0) := by rw [cell_of_block hb]; rfl
  have d6 : W.cell? ⟨w.heap.size, 6, none⟩ = some (.int .i64 0) := by rw [cell_of_block hb]; rfl
  have d7 : W.cell? ⟨w.heap.size, 7, none⟩ = some (.int .i64 0) := by rw [cell_of_block hb]; rfl
  have d8 : W.cell? ⟨w.heap.size, 8, none⟩ = some (.int .i64 0) := by rw [cell_of_block hb]; rfl
  have d9 : W.cell? ⟨w.heap.size, 9, none⟩ = some (.int .i64 (-1)) := by rw [cell_of_block hb]; rfl
  have d10 : W.cell? ⟨w.heap.size, 10, none⟩ = some (.slice none 0 0) := by rw [cell_of_block hb]; rfl
  have d11 : W.cell? ⟨w.heap.size, 11, none⟩ = some (.slice none 0 0) := by rw [cell_of_block hb]; rfl
  have d12 : W.cell? ⟨w.heap.size, 12, none⟩ = some (.string ⟨#[]⟩) := by rw [cell_of_block hb]; rfl
  have U := hid u
  clear hW hb u
  refine bodyPost_ret (v := .agg #[.int .i64 a, .int .i64 q, .int .i64 0, .slice ka n kc, .int .i64 1, .int .i64 0, .int .i64 0, .int .i64 0, .int .i64 0, .int .i64 (-1), .slice none 0 0, .slice none 0 0, .string ⟨#[]⟩]) (by simp [results, Tryz.results87, go_sem, d0, d1, d2, d3, d4, d5, d6, d7, d8, d9, d10, d11, d12]) rfl ?_
  exact ⟨rfl, U.out⟩
theorem wp_world12 {P : Program} {Q : Exit → Act → World → Prop} {c : Code} {a : Act} {w w' : World} (h : w' = w) (k : c.wp P Q a w') : c.wp P Q a w := h ▸ k
def Small12 (l : List Int) : Prop := ∀ x ∈ l, -100 ≤ x ∧ x ≤ 100
instance (l : List Int) : Decidable (Small12 l) := by unfold Small12; exact inferInstance
theorem Small12.i64 {l : List Int} (h : Small12 l) : ∀ x ∈ l, I64 x := fun x hx => by have := h x hx; unfold I64; omega
theorem ints_nil12 {A : Nat → Prop} {w : World} : kInts.rep A w [.slice none 0 0] [] := .inl ⟨none, 0, rfl, Nat.zero_le _, rfl⟩
theorem lit_ints12 {w : World} {b : Nat} {l : List Int} {n : Nat} (h : IntsBlk w b l) (hn : l.length = n) (hw : ∀ x ∈ l, I64 x) (hl : n ≤ 100) : kInts.rep (· < w.heap.size) w [.slice (some ⟨b, 0, none⟩) n n] l := by
  subst hn
  exact h.rep (fun x hx => iwf (hw x hx)) (Nat.le_refl _) (by unfold maxLen; omega) h.lt
def sg5Cells (s0 s1 s2 s3 s4 : Sg) : Array Value := #[.int .i64 s0.key, .string ⟨s0.text.toArray⟩, .int .i64 s0.mark, .int .i64 s1.key, .string ⟨s1.text.toArray⟩, .int .i64 s1.mark, .int .i64 s2.key, .string ⟨s2.text.toArray⟩, .int .i64 s2.mark, .int .i64 s3.key, .string ⟨s3.text.toArray⟩, .int .i64 s3.mark, .int .i64 s4.key, .string ⟨s4.text.toArray⟩, .int .i64 s4.mark]
theorem lit_sgs {w : World} {b B : Nat} {s0 s1 s2 s3 s4 : Sg} (h : w.heap[b]? = some (.cells (sg5Cells s0 s1 s2 s3 s4) 49 (0, 0))) (hB : B ≤ b) : SgsAt w B (.slice (some ⟨b, 0, none⟩) 5 5) [s0, s1, s2, s3, s4] :=
  ⟨rfl, .inr ⟨b, 5, _, rfl, hB, h, Nat.le_refl _, by unfold maxLen; decide, rfl, rfl⟩⟩
theorem lit_txs3 {w : World} {b B : Nat} {t0 t1 t2 : List UInt8} (h : w.heap[b]? = some (.cells #[.string ⟨t0.toArray⟩, .string ⟨t1.toArray⟩, .string ⟨t2.toArray⟩] 9 (0, 0))) (hB : B ≤ b) : TxsAt w B (.slice (some ⟨b, 0, none⟩) 3 3) [t0, t1, t2] :=
  ⟨rfl, .inr ⟨b, 3, _, rfl, hB, h, Nat.le_refl _, by unfold maxLen; decide, rfl, rfl⟩⟩
theorem ints04 {w : World} {B n c : Nat} {a : Option Addr} (h : w.ownsRow B 3 1 (.slice a n c) 2 ([0, 4].map fun x : Int => .int .i64 x)) : Calls Tryz.prog 27 #[.slice a n c, .slice (some ⟨w.heap.size, 0, none⟩) 2 2] (w.alloc (.cells #[.int .i64 0, .int .i64 4] 3 (0, 0))) fun e w' => e = .returned (.bool true) ∧ Upd (fun _ => False) (w.alloc (.cells #[.int .i64 0, .int .i64 4] 3 (0, 0))) w' := by
  have u : Upd (fun _ => False) w (w.alloc (.cells #[.int .i64 0, .int .i64 4] 3 (0, 0))) := (Upd.refl _ _).alloc _
  have LB : IntsBlk (w.alloc (.cells #[.int .i64 0, .int .i64 4] 3 (0, 0))) w.heap.size [0, 4] := heap_alloc_new
  have h2 : (w.alloc (.cells #[.int .i64 0, .int .i64 4] 3 (0, 0))).ownsRow B 3 1 (.slice a n c) ([0, 4] : List Int).length ([0, 4].map fun x : Int => .int .i64 x) := ownsRow_upd h u fun _ _ => id
  refine (ints8_any _ _ [0, 4] [0, 4] (· < (w.alloc (.cells #[.int .i64 0, .int .i64 4] 3 (0, 0))).heap.size) (· < (w.alloc (.cells #[.int .i64 0, .int .i64 4] 3 (0, 0))).heap.size) _ (kInts.mono (ints_rep h2 (Small12.i64 (by decide))) fun g hg => hg.2) (lit_ints12 LB rfl (Small12.i64 (by decide)) (by decide)) (fun _ h => h) (fun _ h => h)).mono ?_
  rintro en w' ⟨rfl, u⟩
  exact ⟨by rw [decide_eq_true rfl], u⟩
theorem ints04g {w : World} {B n c b : Nat} {a : Option Addr} (h : w.ownsRow B 3 1 (.slice a n c) 2 ([0, 4].map fun x : Int => .int .i64 x)) (hb : w.heap[b]? = some (.cells #[.int .i64 0, .int .i64 4] 3 (0, 0))) : Calls Tryz.prog 27 #[.slice a n c, .slice (some ⟨b, 0, none⟩) 2 2] w fun e w' => e = .returned (.bool true) ∧ Upd (fun _ => False) w w' := by
  have LB : IntsBlk w b [0, 4] := hb
  have h2 : w.ownsRow B 3 1 (.slice a n c) ([0, 4] : List Int).length ([0, 4].map fun x : Int => .int .i64 x) := h
  refine (ints8_any _ _ [0, 4] [0, 4] (· < w.heap.size) (· < w.heap.size) _ (kInts.mono (ints_rep h2 (Small12.i64 (by decide))) fun g hg => hg.2) (lit_ints12 LB rfl (Small12.i64 (by decide)) (by decide)) (fun _ h => h) (fun _ h => h)).mono ?_
  rintro en w' ⟨rfl, u⟩
  exact ⟨by rw [decide_eq_true rfl], u⟩
theorem rc_one : oneF rcA rcB 1000 = oneC := by
  unfold oneF oneC
  rw [← offC_eq rc_hisA, ← offC_eq rc_hisB, ← gvC_eq rc_hisA]
  rfl
theorem rc_two : twoF rcA rcB 1000 = twoC := by
  unfold twoF twoC
  rw [← offC_eq rc_hisA, ← offC_eq rc_hisB, ← gvC_eq rc_hisB, rc_one]
  rfl
theorem rc_sync : syncA rcR rcA rcB 1000 = takC rcA twoC ∧ syncB rcR rcA rcB 1000 = takC rcB oneC := by
  unfold syncA syncB
  rw [rc_one, rc_two]
  exact ⟨rfl, rfl⟩
theorem rc_hisH : His rdF rcR rcH := rcTo_his 5
theorem rc_given : giveV rcH [49, 59, 48, 59, 49, 59] 1000 = [sgE rc4.2, sgE rc1.2, sgE rc2.2] := by
  have := gvC_eq rc_hisH [49, 59, 48, 59, 49, 59] 1000
  unfold giveV
  rw [this]; exact rc_gives
theorem rc_offH : offerF rcH = [50, 59, 48, 59, 51, 59, 52, 59, 53, 59] := by rw [offC_eq rc_hisH]; exact rc_offers.1
theorem rc_off0 : offerF [] = [48, 59] := by rw [offC_eq (rd := rdF) (R := rcR) His.nil]; exact rc_offers.2
theorem rc_bytes : ((offerF rcA).length : Int) + ((offerF rcB).length : Int) ≤ 1000 := by rw [offC_eq rc_hisA, offC_eq rc_hisB]; exact rc_bud
theorem rc_wf1 : 0 ≤ rc1.2.key ∧ rc1.2.key < 200 ∧ 0 ≤ rc1.2.mark ∧ rc1.2.mark < 4000 ∧ rc1.2.text.length ≤ 1000000 := by
  have l := rc_len
  have t := rc_txt
  have h := sign_sg rc0.1 3 (txtF (nt 3 1 [0]))
  exact ⟨h.1, h.2.1, h.2.2.1, by show (signF rc0.1 3 (txtF (nt 3 1 [0]))).2.mark < _; omega, by show (signF rc0.1 3 (txtF (nt 3 1 [0]))).2.text.length ≤ _; omega⟩
theorem rc_wf2 : 0 ≤ rc2.2.key ∧ rc2.2.key < 200 ∧ 0 ≤ rc2.2.mark ∧ rc2.2.mark < 4000 ∧ rc2.2.text.length ≤ 1000000 := by
  have l := rc_len
  have t := rc_txt
  have h := sign_sg rc1.1 3 (txtF (nt 3 2 [1]))
  exact ⟨h.1, h.2.1, h.2.2.1, by show (signF rc1.1 3 (txtF (nt 3 2 [1]))).2.mark < _; omega, by show (signF rc1.1 3 (txtF (nt 3 2 [1]))).2.text.length ≤ _; omega⟩
theorem rc_wf4 : 0 ≤ rc4.2.key ∧ rc4.2.key < 200 ∧ 0 ≤ rc4.2.mark ∧ rc4.2.mark < 4000 ∧ rc4.2.text.length ≤ 1000000 := by
  have l := rc_len
  have t := rc_txt
  have h := sign_sg rc3.1 4 (txtF (nt 4 0 []))
  exact ⟨h.1, h.2.1, h.2.2.1, by show (signF rc3.1 4 (txtF (nt 4 0 []))).2.mark < _; omega, by show (signF rc3.1 4 (txtF (nt 4 0 []))).2.text.length ≤ _; omega⟩
set_option maxRecDepth 100000 in
set_option maxHeartbeats 16000000 in
theorem rcsmall_any (w : World) (E : Env w) (hu : UsesIn w) (hz : 6 ≤ w.heap.size) : Calls Tryz.prog 16 #[] w fun en w' => en = .returned (.bool true) ∧ Upd (fun _ => False) w w' := by
  have HE := hid E; have HU := hid hu; have HZ := hid hz
  clear E hu hz
  go_enter Tryz.func16, Tryz.ntmps16
  go_wp2_with fail
  refine (rnew_any w HZ.out).mono ?_
  rintro en x0 ⟨rb, rfl, hrb, hri, u⟩
  have UC := hid u
  obtain ⟨Or0, hOr0⟩ : ∃ Or : Nat → Prop, (fun k => w.heap.size ≤ k ∧ k < x0.heap.size) = Or := ⟨_, rfl⟩
  have HO := hid (show ∀ k, Or0 k → w.heap.size ≤ k by rw [← hOr0]; exact fun k hk => hk.1)
  rw [hOr0] at hri
  have HR := hid hri
  clear hri u hOr0
  go_wp2_with fail
  refine (note12_any 3 0 none 0 0 _).mono ?_
  rintro en x1 ⟨rfl, u⟩
  replace UC := hid (UC.out.trans u)
  replace HR := hid (HR.out.keep u)
  clear u
  go_wp2_with fail
  refine (text_nt 3 0 [] 0 rfl none 0 _ (HE.out.keep0 UC.out) (HU.out.keep UC.out) ints_nil12 (Small12.i64 (by decide)) (by decide)).mono ?_
  rintro en x2 ⟨rfl, u⟩
  replace UC := hid (UC.out.trans u)
  replace HR := hid (HR.out.keep u)
  clear u
  obtain ⟨tx, htx⟩ : ∃ t, txtF (nt 3 0 []) = t := ⟨_, rfl⟩
  have HTX := hid htx
  have HTL := hid (show tx.length ≤ 1000000 by have := rc_txt; rw [← htx]; omega)
  rw [htx]
  clear htx
  go_wp2_with fail
  refine (sign_any HR.out 3 tx (by decide) HTL.out (by first | (show ([] : Rg).length ≤ _; decide) | (have := rc_len; omega))).mono ?_
  rintro en x3 ⟨rfl, Or1, q1, q2, q3⟩
  have SME : signF [] 3 tx = rc0 := by rw [← HTX.out]; rfl
  rw [SME] at q1 ⊢
  obtain ⟨s0, hs⟩ : ∃ s, rc0.2 = s := ⟨_, rfl⟩
  have SE0 := hid hs
  rw [hs]
  replace HR := hid q1
  have HO2 := hid (show ∀ k, Or1 k → w.heap.size ≤ k from fun k hk => (q2 k hk).elim (HO.out k) fun z => Nat.le_trans UC.out.size z)
  replace UC := hid (UC.out.comp q3 fun i hi e => by have := HO.out i e; omega)
  replace HO := HO2
  clear q1 q2 q3 SME hs HO2 HTX HTL
  go_wp2_with fail
  obtain ⟨x4, hXA⟩ : ∃ XA, XA = x3.alloc (.cells #[.int .i64 0] 3 (0, 0)) := ⟨_, rfl⟩
  have IB := hid (show IntsBlk x4 x3.heap.size [0] by rw [hXA]; exact heap_alloc_new)
  have u : Upd (fun _ => False) x3 x4 := by rw [hXA]; exact (Upd.refl _ _).alloc _
  obtain ⟨pb5, hpb⟩ : ∃ x, x3.heap.size = x := ⟨_, rfl⟩
  rw [hpb] at IB
  rw [← hXA]
  try rw [hpb]
  clear hXA hpb
  replace UC := hid (UC.out.trans u)
  replace HR := hid (HR.out.keep u)
  clear u
  refine (note12_any 3 1 (some ⟨pb5, 0, none⟩) 1 1 _).mono ?_
  rintro en x6 ⟨rfl, u⟩
  replace UC := hid (UC.out.trans u)
  replace HR := hid (HR.out.keep u)
  replace IB := hid (show IntsBlk x6 pb5 [0] from (u.block _ IB.out.lt id).trans IB.out)
  clear u
  go_wp2_with fail
  refine (text_nt 3 1 [0] 1 rfl (some ⟨pb5, 0, none⟩) 1 _ (HE.out.keep0 UC.out) (HU.out.keep UC.out) (lit_ints12 IB.out rfl (Small12.i64 (by decide)) (by decide)) (Small12.i64 (by decide)) (by decide)).mono ?_
  rintro en x7 ⟨rfl, u⟩
  replace UC := hid (UC.out.trans u)
  replace HR := hid (HR.out.keep u)
  clear IB
  clear u
  obtain ⟨tx, htx⟩ : ∃ t, txtF (nt 3 1 [0]) = t := ⟨_, rfl⟩
  have HTX := hid htx
  have HTL := hid (show tx.length ≤ 1000000 by have := rc_txt; rw [← htx]; omega)
  rw [htx]
  clear htx
  go_wp2_with fail
  refine (sign_any HR.out 3 tx (by decide) HTL.out (by first | (show ([] : Rg).length ≤ _; decide) | (have := rc_len; omega))).mono ?_
  rintro en x8 ⟨rfl, Or2, q1, q2, q3⟩
  have SME : signF rc0.1 3 tx = rc1 := by rw [← HTX.out]; rfl
  rw [SME] at q1 ⊢
  obtain ⟨s1, hs⟩ : ∃ s, rc1.2 = s := ⟨_, rfl⟩
  have SE1 := hid hs
  rw [hs]
  replace HR := hid q1
  have HO2 := hid (show ∀ k, Or2 k → w.heap.size ≤ k from fun k hk => (q2 k hk).elim (HO.out k) fun z => Nat.le_trans UC.out.size z)
  replace UC := hid (UC.out.comp q3 fun i hi e => by have := HO.out i e; omega)
  replace HO := HO2
  clear q1 q2 q3 SME hs HO2 HTX HTL
  go_wp2_with fail
  obtain ⟨x9, hXA⟩ : ∃ XA, XA = x8.alloc (.cells #[.int .i64 1] 3 (0, 0)) := ⟨_, rfl⟩
  have IB := hid (show IntsBlk x9 x8.heap.size [1] by rw [hXA]; exact heap_alloc_new)
  have u : Upd (fun _ => False) x8 x9 := by rw [hXA]; exact (Upd.refl _ _).alloc _
  obtain ⟨pb10, hpb⟩ : ∃ x, x8.heap.size = x := ⟨_, rfl⟩
  rw [hpb] at IB
  rw [← hXA]
  try rw [hpb]
  clear hXA hpb
  replace UC := hid (UC.out.trans u)
  replace HR := hid (HR.out.keep u)
  clear u
  refine (note12_any 3 2 (some ⟨pb10, 0, none⟩) 1 1 _).mono ?_
  rintro en x11 ⟨rfl, u⟩
  replace UC := hid (UC.out.trans u)
  replace HR := hid (HR.out.keep u)
  replace IB := hid (show IntsBlk x11 pb10 [1] from (u.block _ IB.out.lt id).trans IB.out)
  clear u
  go_wp2_with fail
  refine (text_nt 3 2 [1] 1 rfl (some ⟨pb10, 0, none⟩) 1 _ (HE.out.keep0 UC.out) (HU.out.keep UC.out) (lit_ints12 IB.out rfl (Small12.i64 (by decide)) (by decide)) (Small12.i64 (by decide)) (by decide)).mono ?_
  rintro en x12 ⟨rfl, u⟩
  replace UC := hid (UC.out.trans u)
  replace HR := hid (HR.out.keep u)
  clear IB
  clear u
  obtain ⟨tx, htx⟩ : ∃ t, txtF (nt 3 2 [1]) = t := ⟨_, rfl⟩
  have HTX := hid htx
  have HTL := hid (show tx.length ≤ 1000000 by have := rc_txt; rw [← htx]; omega)
  rw [htx]
  clear htx
  go_wp2_with fail
  refine (sign_any HR.out 3 tx (by decide) HTL.out (by first | (show ([] : Rg).length ≤ _; decide) | (have := rc_len; omega))).mono ?_
  rintro en x13 ⟨rfl, Or3, q1, q2, q3⟩
  have SME : signF rc1.1 3 tx = rc2 := by rw [← HTX.out]; rfl
  rw [SME] at q1 ⊢
  obtain ⟨s2, hs⟩ : ∃ s, rc2.2 = s := ⟨_, rfl⟩
  have SE2 := hid hs
  rw [hs]
  replace HR := hid q1
  have HO2 := hid (show ∀ k, Or3 k → w.heap.size ≤ k from fun k hk => (q2 k hk).elim (HO.out k) fun z => Nat.le_trans UC.out.size z)
  replace UC := hid (UC.out.comp q3 fun i hi e => by have := HO.out i e; omega)
  replace HO := HO2
  clear q1 q2 q3 SME hs HO2 HTX HTL
  go_wp2_with fail
  refine (sign_any HR.out 9 [120] (by decide) (by decide) (by first | (show ([] : Rg).length ≤ _; decide) | (have := rc_len; omega))).mono ?_
  rintro en x14 ⟨rfl, Or4, q1, q2, q3⟩
  have SME : signF rc2.1 9 [120] = rc3 := rfl
  rw [SME] at q1 ⊢
  obtain ⟨s3, hs⟩ : ∃ s, rc3.2 = s := ⟨_, rfl⟩
  have SE3 := hid hs
  rw [hs]
  replace HR := hid q1
  have HO2 := hid (show ∀ k, Or4 k → w.heap.size ≤ k from fun k hk => (q2 k hk).elim (HO.out k) fun z => Nat.le_trans UC.out.size z)
  replace UC := hid (UC.out.comp q3 fun i hi e => by have := HO.out i e; omega)
  replace HO := HO2
  clear q1 q2 q3 SME hs HO2
  go_wp2_with fail
  refine (note12_any 4 0 none 0 0 _).mono ?_
  rintro en x15 ⟨rfl, u⟩
  replace UC := hid (UC.out.trans u)
  replace HR := hid (HR.out.keep u)
  clear u
  go_wp2_with fail
  refine (text_nt 4 0 [] 0 rfl none 0 _ (HE.out.keep0 UC.out) (HU.out.keep UC.out) ints_nil12 (Small12.i64 (by decide)) (by decide)).mono ?_
  rintro en x16 ⟨rfl, u⟩
  replace UC := hid (UC.out.trans u)
  replace HR := hid (HR.out.keep u)
  clear u
  obtain ⟨tx, htx⟩ : ∃ t, txtF (nt 4 0 []) = t := ⟨_, rfl⟩
  have HTX := hid htx
  have HTL := hid (show tx.length ≤ 1000000 by have := rc_txt; rw [← htx]; omega)
  rw [htx]
  clear htx
  go_wp2_with fail
  refine (sign_any HR.out 4 tx (by decide) HTL.out (by first | (show ([] : Rg).length ≤ _; decide) | (have := rc_len; omega))).mono ?_
  rintro en x17 ⟨rfl, Or5, q1, q2, q3⟩
  have SME : signF rc3.1 4 tx = rc4 := by rw [← HTX.out]; rfl
  rw [SME] at q1 ⊢
  obtain ⟨s4, hs⟩ : ∃ s, rc4.2 = s := ⟨_, rfl⟩
  have SE4 := hid hs
  rw [hs]
  replace HR := hid q1
  have HO2 := hid (show ∀ k, Or5 k → w.heap.size ≤ k from fun k hk => (q2 k hk).elim (HO.out k) fun z => Nat.le_trans UC.out.size z)
  replace UC := hid (UC.out.comp q3 fun i hi e => by have := HO.out i e; omega)
  replace HO := HO2
  clear q1 q2 q3 SME hs HO2 HTX HTL
  go_upto_region 5 with (fail)
  obtain ⟨x18, hXB⟩ : ∃ z, x17.alloc (.cells (sg5Cells s0 s1 s2 s3 s4) 49 (0, 0)) = z := ⟨_, rfl⟩
  have u : Upd (fun _ => False) x17 x18 := by rw [← hXB]; exact (Upd.refl _ _).alloc _
  obtain ⟨lb, hlb⟩ : ∃ x, x17.heap.size = x := ⟨_, rfl⟩
  have B1 := hid (show x18.heap[lb]? = some (.cells (sg5Cells s0 s1 s2 s3 s4) 49 (0, 0)) by rw [← hXB, ← hlb]; exact heap_alloc_new)
  refine wp_world12 (w' := x18) (hXB.symm.trans rfl) ?_
  try rw [hlb]
  have LW := hid (show w.heap.size ≤ lb by rw [← hlb]; exact UC.out.size)
  have SG := hid (lit_sgs B1.out (Nat.le_refl lb) : SgsAt x18 lb (.slice (some ⟨lb, 0, none⟩) 5 5) [s0, s1, s2, s3, s4])
  clear hXB hlb B1
  replace UC := hid (UC.out.trans u)
  replace HR := hid (HR.out.keep u)
  clear u
  have SGE := hid (show [s0, s1, s2, s3, s4] = rcL by rw [← SE0.out, ← SE1.out, ← SE2.out, ← SE3.out, ← SE4.out]; rfl)
  have RSM := hid rc_small
  have WF1 := hid (show 0 ≤ s1.key ∧ s1.key < 200 ∧ 0 ≤ s1.mark ∧ s1.mark < 4000 ∧ s1.text.length ≤ 1000000 from by rw [← SE1.out]; exact rc_wf1)
  have WF2 := hid (show 0 ≤ s2.key ∧ s2.key < 200 ∧ 0 ≤ s2.mark ∧ s2.mark < 4000 ∧ s2.text.length ≤ 1000000 from by rw [← SE2.out]; exact rc_wf2)
  have WF4 := hid (show 0 ≤ s4.key ∧ s4.key < 200 ∧ 0 ≤ s4.mark ∧ s4.mark < 4000 ∧ s4.text.length ≤ 1000000 from by rw [← SE4.out]; exact rc_wf4)
  rw [SE0.out, SE1.out, SE2.out, SE3.out, SE4.out] at RSM
  have RLN := hid (show rcR.length ≤ 60 by have := rc_len.1; omega)
  have HRX := hid (show IsRing x18 Or5 rb rcR from HR.out)
  clear HR
  have CELL := hid (fun (y : World) (row : SgsAt y lb (.slice (some ⟨lb, 0, none⟩) 5 5) [s0, s1, s2, s3, s4]) => (show (y.cell? ⟨lb, 0, none⟩ = some (.int .i64 s0.key) ∧ y.cell? ⟨lb, 1, none⟩ = some (.string ⟨s0.text.toArray⟩) ∧ y.cell? ⟨lb, 2, none⟩ = some (.int .i64 s0.mark)) ∧ (y.cell? ⟨lb, 3, none⟩ = some (.int .i64 s1.key) ∧ y.cell? ⟨lb, 4, none⟩ = some (.string ⟨s1.text.toArray⟩) ∧ y.cell? ⟨lb, 5, none⟩ = some (.int .i64 s1.mark)) ∧ (y.cell? ⟨lb, 6, none⟩ = some (.int .i64 s2.key) ∧ y.cell? ⟨lb, 7, none⟩ = some (.string ⟨s2.text.toArray⟩) ∧ y.cell? ⟨lb, 8, none⟩ = some (.int .i64 s2.mark)) ∧ (y.cell? ⟨lb, 9, none⟩ = some (.int .i64 s3.key) ∧ y.cell? ⟨lb, 10, none⟩ = some (.string ⟨s3.text.toArray⟩) ∧ y.cell? ⟨lb, 11, none⟩ = some (.int .i64 s3.mark)) ∧ (y.cell? ⟨lb, 12, none⟩ = some (.int .i64 s4.key) ∧ y.cell? ⟨lb, 13, none⟩ = some (.string ⟨s4.text.toArray⟩) ∧ y.cell? ⟨lb, 14, none⟩ = some (.int .i64 s4.mark)) from by
    obtain ⟨g', cap', e2, _, _, _, _, hc⟩ := SgsAt.get row (show 0 < 5 by decide)
    cases e2
    exact ⟨hc 0 (show 0 < 5 by decide), hc 1 (show 1 < 5 by decide), hc 2 (show 2 < 5 by decide), hc 3 (show 3 < 5 by decide), hc 4 (show 4 < 5 by decide)⟩))
  go_wp2_with fail
  refine (hnew_any rb _ (Nat.le_trans HZ.out UC.out.size)).mono ?_
  rintro en x19 ⟨bh, rfl, hb, hn, u⟩
  obtain ⟨Oh, hO⟩ : ∃ O : Nat → Prop, (fun k => x18.heap.size ≤ k ∧ k < x19.heap.size) = O := ⟨_, rfl⟩
  rw [hO] at hn
  have NEW := hid (show ∀ k, Oh k → x18.heap.size ≤ k by rw [← hO]; exact fun k hk => hk.1)
  have HRC := HRX
  replace HRX := hid (HRX.out.keep u)
  have SGL := hid (show lb < x18.heap.size from (SgsAt.get SG.out (show 0 < 5 by decide)).elim fun g hg => hg.elim fun c hc => by obtain ⟨e, _, _, _, h2, _⟩ := hc; cases e; exact h2)
  have Hh := hid (show HPre x19 Oh Or5 bh rb [] rcR from ⟨hn, ⟨HRX.out, HE.out.keep0 (UC.out.trans u), HU.out.keep (UC.out.trans u), Nat.le_trans HZ.out (Nat.le_trans UC.out.size u.size)⟩, His.nil, fun k hk hk' => by have h1 := (HRC.out.lt k hk).2; have h2 := NEW.out k hk'; omega, RLN.out⟩)
  have Wh := hid (show ∀ k, Oh k → w.heap.size ≤ k ∧ lb < k from fun k hk => by have := NEW.out k hk; have := UC.out.size; have := SGL.out; exact ⟨by omega, by omega⟩)
  replace UC := hid (UC.out.trans u)
  replace SG := hid (ownsRow_upd SG.out u fun _ _ => id : SgsAt x19 lb (.slice (some ⟨lb, 0, none⟩) 5 5) [s0, s1, s2, s3, s4])
  clear hn u hO hb NEW SGL HRC
  go_wp2_with fail
  refine (hnew_any rb _ (Nat.le_trans HZ.out UC.out.size)).mono ?_
  rintro en x20 ⟨bn, rfl, hb, hn, u⟩
  obtain ⟨On, hO⟩ : ∃ O : Nat → Prop, (fun k => x19.heap.size ≤ k ∧ k < x20.heap.size) = O := ⟨_, rfl⟩
  rw [hO] at hn
  have NEW := hid (show ∀ k, On k → x19.heap.size ≤ k by rw [← hO]; exact fun k hk => hk.1)
  have HRC := HRX
  replace HRX := hid (HRX.out.keep u)
  have SGL := hid (show lb < x19.heap.size from (SgsAt.get SG.out (show 0 < 5 by decide)).elim fun g hg => hg.elim fun c hc => by obtain ⟨e, _, _, _, h2, _⟩ := hc; cases e; exact h2)
  have Hn := hid (show HPre x20 On Or5 bn rb [] rcR from ⟨hn, ⟨HRX.out, HE.out.keep0 (UC.out.trans u), HU.out.keep (UC.out.trans u), Nat.le_trans HZ.out (Nat.le_trans UC.out.size u.size)⟩, His.nil, fun k hk hk' => by have h1 := (HRC.out.lt k hk).2; have h2 := NEW.out k hk'; omega, RLN.out⟩)
  have Wn := hid (show ∀ k, On k → w.heap.size ≤ k ∧ lb < k from fun k hk => by have := NEW.out k hk; have := UC.out.size; have := SGL.out; exact ⟨by omega, by omega⟩)
  have Dnh := hid (show ∀ k, On k → ¬ Oh k from fun k hk hk' => by have h1 := (Hh.out.his.lt k hk').2; have h2 := NEW.out k hk; omega)
  have Dhn := hid (show ∀ k, Oh k → ¬ On k from fun k hk hk' => Dnh.out k hk' hk)
  replace Hh := hid (Hh.out.keep u)
  replace UC := hid (UC.out.trans u)
  replace SG := hid (ownsRow_upd SG.out u fun _ _ => id : SgsAt x20 lb (.slice (some ⟨lb, 0, none⟩) 5 5) [s0, s1, s2, s3, s4])
  clear hn u hO hb NEW SGL HRC
  go_wp2_with fail
  refine (hnew_any rb _ (Nat.le_trans HZ.out UC.out.size)).mono ?_
  rintro en x21 ⟨ba, rfl, hb, hn, u⟩
  obtain ⟨Oa, hO⟩ : ∃ O : Nat → Prop, (fun k => x20.heap.size ≤ k ∧ k < x21.heap.size) = O := ⟨_, rfl⟩
  rw [hO] at hn
  have NEW := hid (show ∀ k, Oa k → x20.heap.size ≤ k by rw [← hO]; exact fun k hk => hk.1)
  have HRC := HRX
  replace HRX := hid (HRX.out.keep u)
  have SGL := hid (show lb < x20.heap.size from (SgsAt.get SG.out (show 0 < 5 by decide)).elim fun g hg => hg.elim fun c hc => by obtain ⟨e, _, _, _, h2, _⟩ := hc; cases e; exact h2)
  have Ha := hid (show HPre x21 Oa Or5 ba rb [] rcR from ⟨hn, ⟨HRX.out, HE.out.keep0 (UC.out.trans u), HU.out.keep (UC.out.trans u), Nat.le_trans HZ.out (Nat.le_trans UC.out.size u.size)⟩, His.nil, fun k hk hk' => by have h1 := (HRC.out.lt k hk).2; have h2 := NEW.out k hk'; omega, RLN.out⟩)
  have Wa := hid (show ∀ k, Oa k → w.heap.size ≤ k ∧ lb < k from fun k hk => by have := NEW.out k hk; have := UC.out.size; have := SGL.out; exact ⟨by omega, by omega⟩)
  have Dah := hid (show ∀ k, Oa k → ¬ Oh k from fun k hk hk' => by have h1 := (Hh.out.his.lt k hk').2; have h2 := NEW.out k hk; omega)
  have Dha := hid (show ∀ k, Oh k → ¬ Oa k from fun k hk hk' => Dah.out k hk' hk)
  have Dan := hid (show ∀ k, Oa k → ¬ On k from fun k hk hk' => by have h1 := (Hn.out.his.lt k hk').2; have h2 := NEW.out k hk; omega)
  have Dna := hid (show ∀ k, On k → ¬ Oa k from fun k hk hk' => Dan.out k hk' hk)
  replace Hh := hid (Hh.out.keep u)
  replace Hn := hid (Hn.out.keep u)
  replace UC := hid (UC.out.trans u)
  replace SG := hid (ownsRow_upd SG.out u fun _ _ => id : SgsAt x21 lb (.slice (some ⟨lb, 0, none⟩) 5 5) [s0, s1, s2, s3, s4])
  clear hn u hO hb NEW SGL HRC
  go_wp2_with fail
  refine (hnew_any rb _ (Nat.le_trans HZ.out UC.out.size)).mono ?_
  rintro en x22 ⟨bb, rfl, hb, hn, u⟩
  obtain ⟨Ob, hO⟩ : ∃ O : Nat → Prop, (fun k => x21.heap.size ≤ k ∧ k < x22.heap.size) = O := ⟨_, rfl⟩
  rw [hO] at hn
  have NEW := hid (show ∀ k, Ob k → x21.heap.size ≤ k by rw [← hO]; exact fun k hk => hk.1)
  have HRC := HRX
  replace HRX := hid (HRX.out.keep u)
  have SGL := hid (show lb < x21.heap.size from (SgsAt.get SG.out (show 0 < 5 by decide)).elim fun g hg => hg.elim fun c hc => by obtain ⟨e, _, _, _, h2, _⟩ := hc; cases e; exact h2)
  have Hb := hid (show HPre x22 Ob Or5 bb rb [] rcR from ⟨hn, ⟨HRX.out, HE.out.keep0 (UC.out.trans u), HU.out.keep (UC.out.trans u), Nat.le_trans HZ.out (Nat.le_trans UC.out.size u.size)⟩, His.nil, fun k hk hk' => by have h1 := (HRC.out.lt k hk).2; have h2 := NEW.out k hk'; omega, RLN.out⟩)
  have Wb := hid (show ∀ k, Ob k → w.heap.size ≤ k ∧ lb < k from fun k hk => by have := NEW.out k hk; have := UC.out.size; have := SGL.out; exact ⟨by omega, by omega⟩)
  have Dbh := hid (show ∀ k, Ob k → ¬ Oh k from fun k hk hk' => by have h1 := (Hh.out.his.lt k hk').2; have h2 := NEW.out k hk; omega)
  have Dhb := hid (show ∀ k, Oh k → ¬ Ob k from fun k hk hk' => Dbh.out k hk' hk)
  have Dbn := hid (show ∀ k, Ob k → ¬ On k from fun k hk hk' => by have h1 := (Hn.out.his.lt k hk').2; have h2 := NEW.out k hk; omega)
  have Dnb := hid (show ∀ k, On k → ¬ Ob k from fun k hk hk' => Dbn.out k hk' hk)
  have Dba := hid (show ∀ k, Ob k → ¬ Oa k from fun k hk hk' => by have h1 := (Ha.out.his.lt k hk').2; have h2 := NEW.out k hk; omega)
  have Dab := hid (show ∀ k, Oa k → ¬ Ob k from fun k hk hk' => Dba.out k hk' hk)
  replace Hh := hid (Hh.out.keep u)
  replace Hn := hid (Hn.out.keep u)
  replace Ha := hid (Ha.out.keep u)
  replace UC := hid (UC.out.trans u)
  replace SG := hid (ownsRow_upd SG.out u fun _ _ => id : SgsAt x22 lb (.slice (some ⟨lb, 0, none⟩) 5 5) [s0, s1, s2, s3, s4])
  clear hn u hO hb NEW SGL HRC
  obtain ⟨k0, k1, k2⟩ := (CELL.out _ SG.out).1
  go_wp2_with fail
  refine (add_any (sg_pre (s := s0) Ha.out RSM.out.1)).mono ?_
  rintro en x23 ⟨rfl, Oa1, q1, q2, q3⟩
  rw [← SE0.out] at q1 ⊢
  rw [rc_adds.1]
  clear k0 k1 k2
  have Eha := hid (show ∀ k, Oh k → ¬ Oa1 k from fun k hk hk' => (q2 k hk').elim (Dha.out k hk) fun c => by have := (Hh.out.his.lt k hk).2; omega)
  have Ena := hid (show ∀ k, On k → ¬ Oa1 k from fun k hk hk' => (q2 k hk').elim (Dna.out k hk) fun c => by have := (Hn.out.his.lt k hk).2; omega)
  have Eba := hid (show ∀ k, Ob k → ¬ Oa1 k from fun k hk hk' => (q2 k hk').elim (Dba.out k hk) fun c => by have := (Hb.out.his.lt k hk).2; omega)
  have EW := hid (show ∀ k, Oa1 k → w.heap.size ≤ k ∧ lb < k from fun k hk => (q2 k hk).elim (Wa.out k) fun c => by have h1 := UC.out.size; have h2 := (SgsAt.get SG.out (show 0 < 5 by decide)).elim (fun g hg => hg.elim fun c hc => by obtain ⟨e, _, _, _, h2, _⟩ := hc; cases e; exact (h2 : lb < _)); exact ⟨by omega, by omega⟩)
  replace Hh := hid (Hh.out.upd q3 Dha.out Ha.out.apart fun k hk => (Ha.out.his.lt k hk).1)
  replace Hn := hid (Hn.out.upd q3 Dna.out Ha.out.apart fun k hk => (Ha.out.his.lt k hk).1)
  replace Hb := hid (Hb.out.upd q3 Dba.out Ha.out.apart fun k hk => (Ha.out.his.lt k hk).1)
  replace SG := hid (ownsRow_upd SG.out q3 (fun j hj e => by injection hj with hj; have hj : lb = j := hj; have := (Wa.out _ e).2; omega) : SgsAt x23 lb (.slice (some ⟨lb, 0, none⟩) 5 5) [s0, s1, s2, s3, s4])
  replace UC := hid (UC.out.comp q3 fun i hi e => by have := (Wa.out i e).1; omega)
  replace Ha := hid (show HPre x23 Oa1 Or5 ba rb rcA rcR from Ha.out.grown q3 q1 rc_hisA q2)
  replace Dha := Eha
  replace Dah := hid (show ∀ k, Oa1 k → ¬ Oh k from fun k hk hk' => Dha.out k hk' hk)
  clear Eha
  replace Dna := Ena
  replace Dan := hid (show ∀ k, Oa1 k → ¬ On k from fun k hk hk' => Dna.out k hk' hk)
  clear Ena
  replace Dba := Eba
  replace Dab := hid (show ∀ k, Oa1 k → ¬ Ob k from fun k hk hk' => Dba.out k hk' hk)
  clear Eba
  replace Wa := EW
  clear EW q1 q2 q3
  obtain ⟨k0, k1, k2⟩ := (CELL.out _ SG.out).2.2.2.2
  go_wp2_with fail
  refine (add_any (sg_pre (s := s4) Hb.out RSM.out.2.2.2.2)).mono ?_
  rintro en x24 ⟨rfl, Ob1, q1, q2, q3⟩
  rw [← SE4.out] at q1 ⊢
  rw [rc_adds.2]
  clear k0 k1 k2
  have Ehb := hid (show ∀ k, Oh k → ¬ Ob1 k from fun k hk hk' => (q2 k hk').elim (Dhb.out k hk) fun c => by have := (Hh.out.his.lt k hk).2; omega)
  have Enb := hid (show ∀ k, On k → ¬ Ob1 k from fun k hk hk' => (q2 k hk').elim (Dnb.out k hk) fun c => by have := (Hn.out.his.lt k hk).2; omega)
  have Eab := hid (show ∀ k, Oa1 k → ¬ Ob1 k from fun k hk hk' => (q2 k hk').elim (Dab.out k hk) fun c => by have := (Ha.out.his.lt k hk).2; omega)
  have EW := hid (show ∀ k, Ob1 k → w.heap.size ≤ k ∧ lb < k from fun k hk => (q2 k hk).elim (Wb.out k) fun c => by have h1 := UC.out.size; have h2 := (SgsAt.get SG.out (show 0 < 5 by decide)).elim (fun g hg => hg.elim fun c hc => by obtain ⟨e, _, _, _, h2, _⟩ := hc; cases e; exact (h2 : lb < _)); exact ⟨by omega, by omega⟩)
  replace Hh := hid (Hh.out.upd q3 Dhb.out Hb.out.apart fun k hk => (Hb.out.his.lt k hk).1)
  replace Hn := hid (Hn.out.upd q3 Dnb.out Hb.out.apart fun k hk => (Hb.out.his.lt k hk).1)
  replace Ha := hid (Ha.out.upd q3 Dab.out Hb.out.apart fun k hk => (Hb.out.his.lt k hk).1)
  replace SG := hid (ownsRow_upd SG.out q3 (fun j hj e => by injection hj with hj; have hj : lb = j := hj; have := (Wb.out _ e).2; omega) : SgsAt x24 lb (.slice (some ⟨lb, 0, none⟩) 5 5) [s0, s1, s2, s3, s4])
  replace UC := hid (UC.out.comp q3 fun i hi e => by have := (Wb.out i e).1; omega)
  replace Hb := hid (show HPre x24 Ob1 Or5 bb rb rcB rcR from Hb.out.grown q3 q1 rc_hisB q2)
  replace Dhb := Ehb
  replace Dbh := hid (show ∀ k, Ob1 k → ¬ Oh k from fun k hk hk' => Dhb.out k hk' hk)
  clear Ehb
  replace Dnb := Enb
  replace Dbn := hid (show ∀ k, Ob1 k → ¬ On k from fun k hk hk' => Dnb.out k hk' hk)
  clear Enb
  replace Dab := Eab
  replace Dba := hid (show ∀ k, Ob1 k → ¬ Oa1 k from fun k hk hk' => Dab.out k hk' hk)
  clear Eab
  replace Wb := EW
  clear EW q1 q2 q3
  have START := hid (show ∃ Oh, HPre x24 Oh Or5 bh rb (rcTo 0) rcR ∧ HPre x24 On Or5 bn rb [] rcR ∧ HPre x24 Oa1 Or5 ba rb rcA rcR ∧ HPre x24 Ob1 Or5 bb rb rcB rcR ∧ SgsAt x24 lb (.slice (some ⟨lb, 0, none⟩) 5 5) [s0, s1, s2, s3, s4] ∧ (∀ k, Oh k → ¬ On k ∧ ¬ Oa1 k ∧ ¬ Ob1 k) ∧ (∀ k, Oh k → w.heap.size ≤ k ∧ lb < k) ∧ Upd (fun _ => False) w x24 from ⟨Oh, Hh.out, Hn.out, Ha.out, Hb.out, SG.out, fun k hk => ⟨Dhn.out k hk, Dha.out k hk, Dhb.out k hk⟩, Wh.out, UC.out⟩)
  clear Hh Hn Ha Hb SG Dhn Dha Dhb Dnh Dah Dbh Wh Wn UC
  go_wp2_with fail
  go_loopg [7, 8] 5 (fun gg s7 s8 wr => ∃ k : Nat, k ≤ 5 ∧ gg = 5 - k ∧ s8 = .int .i64 k ∧ s7 = .bool true ∧ ∃ Oh, HPre wr Oh Or5 bh rb (rcTo k) rcR ∧ HPre wr On Or5 bn rb [] rcR ∧ HPre wr Oa1 Or5 ba rb rcA rcR ∧ HPre wr Ob1 Or5 bb rb rcB rcR ∧ SgsAt wr lb (.slice (some ⟨lb, 0, none⟩) 5 5) [s0, s1, s2, s3, s4] ∧ (∀ k, Oh k → ¬ On k ∧ ¬ Oa1 k ∧ ¬ Ob1 k) ∧ (∀ k, Oh k → w.heap.size ≤ k ∧ lb < k) ∧ Upd (fun _ => False) w wr)
  case atStart => exact ⟨0, Nat.zero_le _, rfl, rfl, rfl, START.out⟩
  case round =>
    obtain ⟨k, hk, hg, rfl, rfl, Oh, q1, q2, q3, q4, q5, q6, q7, q8⟩ := hrel
    have Hh := hid q1; have Hn := hid q2; have Ha := hid q3; have Hb := hid q4; have SG := hid q5; have DD := hid q6; have Wh := hid q7; have UC := hid q8; have HG := hid hg
    clear q1 q2 q3 q4 q5 q6 q7 q8 hg START
    have Dnh := hid (show ∀ k, On k → ¬ Oh k from fun k a b => (DD.out k b).1 a)
    have Dah := hid (show ∀ k, Oa1 k → ¬ Oh k from fun k a b => (DD.out k b).2.1 a)
    have Dbh := hid (show ∀ k, Ob1 k → ¬ Oh k from fun k a b => (DD.out k b).2.2 a)
    clear DD
    by_cases hlt : k < 5
    case pos =>
      as_aux_lemma =>
      have hlti : (k : Int) < 5 := by omega
      have hk1 : (k : Int) + 1 ≤ 1000 := by omega
      have hkl : k < rcL.length := hlt
      have hkl' : k < [s0, s1, s2, s3, s4].length := hlt
      obtain ⟨g2, cap2, e1, _, _, _, _, hc⟩ := SgsAt.get SG.out (show 0 < 5 by decide)
      cases e1
      obtain ⟨m0, m1, m2⟩ := hc k hkl'
      obtain ⟨s, hse⟩ : ∃ s, [s0, s1, s2, s3, s4][k] = s := ⟨_, rfl⟩
      have hse2 : rcL[k] = s := (List.getElem_of_eq SGE.out.symm hkl).trans hse
      have SM := hid (show SgSmall s from rcL_small s (by rw [← hse2]; exact List.getElem_mem hkl))
      have STEP := hid (show rcTo (k + 1) = (addF rdF rcR (rcTo k) s).1 from (rcTo_succ hkl).trans (congrArg (fun z => (addF rdF rcR (rcTo k) z).1) hse2))
      have ZERO := hid (show (addF rdF rcR (rcTo k) s).2 = 0 ↔ k ≠ 3 by rw [← hse2]; exact rc_loop k hkl)
      rw [hse] at m0 m1 m2
      clear hc hse hse2
      go_wp2_with fail
      refine (add_any (sg_pre Hh.out SM.out)).mono ?_
      rintro en y1 ⟨rfl, Oh2, q1, q2, q3⟩
      clear m0 m1 m2
      obtain ⟨er, her⟩ : ∃ e, (addF rdF rcR (rcTo k) s).2 = e := ⟨_, rfl⟩
      rw [her] at ZERO ⊢
      clear her
      have Enh := hid (show ∀ k, On k → ¬ Oh2 k from fun k hk hk' => (q2 k hk').elim (Dnh.out k hk) fun c => by have := (Hn.out.his.lt k hk).2; omega)
      have Eah := hid (show ∀ k, Oa1 k → ¬ Oh2 k from fun k hk hk' => (q2 k hk').elim (Dah.out k hk) fun c => by have := (Ha.out.his.lt k hk).2; omega)
      have Ebh := hid (show ∀ k, Ob1 k → ¬ Oh2 k from fun k hk hk' => (q2 k hk').elim (Dbh.out k hk) fun c => by have := (Hb.out.his.lt k hk).2; omega)
      have EW := hid (show ∀ k, Oh2 k → w.heap.size ≤ k ∧ lb < k from fun k hk => (q2 k hk).elim (Wh.out k) fun c => by have h1 := UC.out.size; have h2 := (SgsAt.get SG.out (show 0 < 5 by decide)).elim (fun g hg => hg.elim fun c hc => by obtain ⟨e, _, _, _, h2, _⟩ := hc; cases e; exact (h2 : lb < _)); exact ⟨by omega, by omega⟩)
      replace Hn := hid (Hn.out.upd q3 Dnh.out Hh.out.apart fun k hk => (Hh.out.his.lt k hk).1)
      replace Ha := hid (Ha.out.upd q3 Dah.out Hh.out.apart fun k hk => (Hh.out.his.lt k hk).1)
      replace Hb := hid (Hb.out.upd q3 Dbh.out Hh.out.apart fun k hk => (Hh.out.his.lt k hk).1)
      replace SG := hid (ownsRow_upd SG.out q3 (fun j hj e => by injection hj with hj; have hj : lb = j := hj; have := (Wh.out _ e).2; omega) : SgsAt y1 lb (.slice (some ⟨lb, 0, none⟩) 5 5) [s0, s1, s2, s3, s4])
      replace UC := hid (UC.out.comp q3 fun i hi e => by have := (Wh.out i e).1; omega)
      replace Hh := hid (show HPre y1 Oh2 Or5 bh rb (rcTo (k + 1)) rcR from Hh.out.grown q3 (by rw [STEP.out]; exact q1) (rcTo_his _) q2)
      replace Dnh := Enh
      replace Dhn := hid (show ∀ k, Oh2 k → ¬ On k from fun k hk hk' => Dnh.out k hk' hk)
      clear Enh
      replace Dah := Eah
      replace Dha := hid (show ∀ k, Oh2 k → ¬ Oa1 k from fun k hk hk' => Dah.out k hk' hk)
      clear Eah
      replace Dbh := Ebh
      replace Dhb := hid (show ∀ k, Oh2 k → ¬ Ob1 k from fun k hk hk' => Dbh.out k hk' hk)
      clear Ebh
      replace Wh := EW
      clear EW q1 q2 q3
      by_cases h3 : k = 3
      case pos =>
        have e0 : (er == 0) = false := beq_eq_false_iff_ne.2 fun q => absurd h3 (ZERO.out.1 q)
        have e1 : ((k : Int) != 3) = false := by rw [h3]; rfl
        have e2 : ¬ er = 0 := fun q => absurd h3 (ZERO.out.1 q)
        subst h3
        go_wp2_with fail
        go_roundg (5 - (3 + 1))
        case measure => have := HG.out; omega
        case rel => exact ⟨3 + 1, by omega, rfl, by go_num, rfl, Oh2, Hh.out, Hn.out, Ha.out, Hb.out, SG.out, fun k hk => ⟨Dhn.out k hk, Dha.out k hk, Dhb.out k hk⟩, Wh.out, UC.out⟩
      have er0 : er = 0 := ZERO.out.2 h3
      subst er0
      have e1 : ((k : Int) != 3) = true := bne_iff_ne.2 (by omega)
      have e2 : ¬ (k : Int) = 3 := by omega
      clear ZERO
      go_wp2_with fail
      go_roundg (5 - (k + 1))
      case measure => have := HG.out; omega
      case rel => exact ⟨k + 1, by omega, rfl, by go_num, rfl, Oh2, Hh.out, Hn.out, Ha.out, Hb.out, SG.out, fun k hk => ⟨Dhn.out k hk, Dha.out k hk, Dhb.out k hk⟩, Wh.out, UC.out⟩
    as_aux_lemma =>
    obtain rfl : k = 5 := by omega
    have Hh := hid (show HPre wr Oh Or5 bh rb rcH rcR from Hh.out)
    have DD := hid (fun k (hk : Oh k) => (⟨fun c => Dah.out k c hk, fun c => Dbh.out k c hk⟩ : ¬ Oa1 k ∧ ¬ Ob1 k))
    clear hk hlt HG Dnh Dah Dbh Wh
    go_wp2_with fail
    refine (readO_any [49, 59, 51, 59, 51, 59] _ Hh.out.gnd.env Hh.out.gnd.six (by decide)).mono ?_
    rintro en z1 ⟨v1, rfl, ho, u⟩
    rw [rc_reads.1]
    dsimp only
    replace Hh := hid (Hh.out.keep u); replace Hn := hid (Hn.out.keep u); replace Ha := hid (Ha.out.keep u); replace Hb := hid (Hb.out.keep u); replace SG := hid (ownsRow_upd SG.out u fun _ _ => id : SgsAt z1 lb (.slice (some ⟨lb, 0, none⟩) 5 5) [s0, s1, s2, s3, s4]); replace UC := hid (UC.out.trans u)
    clear ho u
    go_wp2_with fail
    refine (readO_any [50, 59, 48, 59, 51, 59, 51, 59, 53, 59] _ Hh.out.gnd.env Hh.out.gnd.six (by decide)).mono ?_
    rintro en z2 ⟨v2, rfl, ho, u⟩
    rw [rc_reads.2.1]
    dsimp only
    replace Hh := hid (Hh.out.keep u); replace Hn := hid (Hn.out.keep u); replace Ha := hid (Ha.out.keep u); replace Hb := hid (Hb.out.keep u); replace SG := hid (ownsRow_upd SG.out u fun _ _ => id : SgsAt z2 lb (.slice (some ⟨lb, 0, none⟩) 5 5) [s0, s1, s2, s3, s4]); replace UC := hid (UC.out.trans u)
    clear ho u
    go_wp2_with fail
    refine (give_any Hh.out [49, 59, 48, 59, 49, 59] (by decide) 1000 (by unfold I64; decide)).mono ?_
    rintro en z3 ⟨v3, rfl, ho, u⟩
    rw [rc_given] at ho
    rw [rc_reads.2.2]
    have HaY := hid (Ha.out); have HbY := hid (Hb.out)
    replace Hh := hid (Hh.out.keep u); replace Hn := hid (Hn.out.keep u); replace Ha := hid (Ha.out.keep u); replace Hb := hid (Hb.out.keep u); replace SG := hid (ownsRow_upd SG.out u fun _ _ => id : SgsAt z3 lb (.slice (some ⟨lb, 0, none⟩) 5 5) [s0, s1, s2, s3, s4]); replace UC := hid (UC.out.trans u)
    have RT := hid ho
    obtain ⟨a3, c3, rfl, h31, h32⟩ := own_slice RT.out
    have h32 : c3 ≤ 9223372036854775807 := h32
    clear ho u
    have Z3 := hid (show ∀ k, Oa1 k ∨ Ob1 k → k < z2.heap.size from fun k hk => hk.elim (fun q => (HaY.out.his.lt k q).2) fun q => (HbY.out.his.lt k q).2)
    go_wp2_with fail
    refine (sync_any Ha.out Hb.out Dab.out 1000 rc_bytes (by decide)).mono ?_
    rintro en z4 ⟨nn, rfl, Oa2, Ob2, p1, p2, p3, p4, u4⟩
    rw [rc_sync.1] at p1 ⊢
    rw [rc_sync.2] at p2 ⊢
    rw [rc_marks.1, rc_marks.2]
    rw [decide_eq_true rfl]
    have RTL := hid (fun g hg => txs_lt (l := [sgE rc4.2, sgE rc1.2, sgE rc2.2]) RT.out g hg)
    replace RT := hid (ownsRow_upd RT.out u4 fun g hg e => by have h1 := (RTL.out g hg).1; have h2 := Z3.out g e; omega)
    replace SG := hid (ownsRow_upd SG.out u4 (fun j hj e => by injection hj with hj; have hj : lb = j := hj; rcases e with e | e; (have := (Wa.out _ e).2; omega); (have := (Wb.out _ e).2; omega)) : SgsAt z4 lb (.slice (some ⟨lb, 0, none⟩) 5 5) [s0, s1, s2, s3, s4])
    replace Hh := hid (Hh.out.upd u4 (fun k hk e => by have := DD.out k hk; rcases e with e | e; exact this.1 e; exact this.2 e) (fun k hk e => by rcases e with e | e; exact Ha.out.apart k hk e; exact Hb.out.apart k hk e) fun k e => by rcases e with e | e; exact (Ha.out.his.lt k e).1; exact (Hb.out.his.lt k e).1)
    replace Hn := hid (Hn.out.upd u4 (fun k hk e => by rcases e with e | e; exact Dna.out k hk e; exact Dnb.out k hk e) (fun k hk e => by rcases e with e | e; exact Ha.out.apart k hk e; exact Hb.out.apart k hk e) fun k e => by rcases e with e | e; exact (Ha.out.his.lt k e).1; exact (Hb.out.his.lt k e).1)
    replace UC := hid (UC.out.comp u4 fun i hi e => by rcases e with e | e; (have := (Wa.out _ e).1; omega); (have := (Wb.out _ e).1; omega))
    replace Ha := hid p1; replace Hb := hid p2
    clear p1 p2 p3 p4 u4 Z3 RTL DD HaY HbY
    have t5 : ((5 : Int) == 5) = true := rfl
    go_wp2_with fail
    refine (offer_any Hh.out).mono ?_
    rintro en z5 ⟨rfl, u⟩
    rw [rc_offH]
    replace RT := hid (ownsRow_upd RT.out u fun _ _ => id)
    replace Hh := hid (Hh.out.keep u); replace Hn := hid (Hn.out.keep u); replace Ha := hid (Ha.out.keep u); replace Hb := hid (Hb.out.keep u); replace SG := hid (ownsRow_upd SG.out u fun _ _ => id : SgsAt z5 lb (.slice (some ⟨lb, 0, none⟩) 5 5) [s0, s1, s2, s3, s4]); replace UC := hid (UC.out.trans u)
    clear u
    go_wp2_with fail
    refine (offer_any Hn.out).mono ?_
    rintro en z6 ⟨rfl, u⟩
    rw [rc_off0]
    replace RT := hid (ownsRow_upd RT.out u fun _ _ => id)
    replace Hh := hid (Hh.out.keep u); replace Hn := hid (Hn.out.keep u); replace Ha := hid (Ha.out.keep u); replace Hb := hid (Hb.out.keep u); replace SG := hid (ownsRow_upd SG.out u fun _ _ => id : SgsAt z6 lb (.slice (some ⟨lb, 0, none⟩) 5 5) [s0, s1, s2, s3, s4]); replace UC := hid (UC.out.trans u)
    clear u
    obtain ⟨t0, ht0⟩ : ∃ t, sgE ⟨s4.key, s4.text, s4.mark⟩ = t := ⟨_, rfl⟩
    obtain ⟨t1, ht1⟩ : ∃ t, sgE ⟨s1.key, s1.text, s1.mark⟩ = t := ⟨_, rfl⟩
    obtain ⟨t2, ht2⟩ : ∃ t, sgE ⟨s2.key, s2.text, s2.mark⟩ = t := ⟨_, rfl⟩
    have TE := hid (show [sgE rc4.2, sgE rc1.2, sgE rc2.2] = [t0, t1, t2] by rw [← ht0, ← ht1, ← ht2, SE4.out, SE1.out, SE2.out])
    rw [TE.out] at RT
    replace RT := hid (show TxsAt z6 _ (.slice a3 3 c3) [t0, t1, t2] from RT.out)
    have KT := hid (fun (y : World) (u : Upd (fun _ => False) z6 y) => (show TxsAt y _ (.slice a3 3 c3) [t0, t1, t2] from ownsRow_upd RT.out u fun _ _ => id))
    have TL3 := hid (show [t0, t1, t2].length ≤ 1000 by simp)
    have LT3 := hid (fun (y : World) => (lit_txs3 heap_alloc_new (Nat.zero_le _) : TxsAt (y.alloc (.cells #[.string ⟨t0.toArray⟩, .string ⟨t1.toArray⟩, .string ⟨t2.toArray⟩] 9 (0, 0))) 0 (.slice (some ⟨y.heap.size, 0, none⟩) 3 3) [t0, t1, t2]))
    have CV := hid (fun (y : World) (B : Nat) (a : Option Addr) (c : Nat) (h : y.ownsRow B 3 1 (.slice a ([0, 4] : List Int).length c) ([0, 4] : List Int).length (([0, 4] : List Int).map fun x => .int .i64 x)) => (show y.ownsRow B 3 1 (.slice a 2 c) 2 (([0, 4] : List Int).map fun x : Int => .int .i64 x) from h))
    have T4 := hid ht0; have T1 := hid ht1; have T2 := hid ht2
    have KEEP := hid (fun (y : World) (u : Upd (fun _ => False) z6 y) => (show (y.cell? ⟨lb, 12, none⟩ = some (.int .i64 s4.key) ∧ y.cell? ⟨lb, 13, none⟩ = some (.string ⟨s4.text.toArray⟩) ∧ y.cell? ⟨lb, 14, none⟩ = some (.int .i64 s4.mark)) ∧ (y.cell? ⟨lb, 3, none⟩ = some (.int .i64 s1.key) ∧ y.cell? ⟨lb, 4, none⟩ = some (.string ⟨s1.text.toArray⟩) ∧ y.cell? ⟨lb, 5, none⟩ = some (.int .i64 s1.mark)) ∧ (y.cell? ⟨lb, 6, none⟩ = some (.int .i64 s2.key) ∧ y.cell? ⟨lb, 7, none⟩ = some (.string ⟨s2.text.toArray⟩) ∧ y.cell? ⟨lb, 8, none⟩ = some (.int .i64 s2.mark)) from by
      obtain ⟨_, c1, c2, _, c4⟩ := CELL.out y (ownsRow_upd SG.out u fun _ _ => id)
      exact ⟨c4, c1, c2⟩))
    have qV0 := hid ((Upd.refl (fun _ => False) z6).drew)
    clear ht0 ht1 ht2 CELL TE
    go_upto_region 21 with (fail)
    try rw [show ([sgE rc4.2, sgE rc1.2, sgE rc2.2] : List (List UInt8)).length = 3 from rfl]
    first | (go_region_held3 (fun y => (y.cell? ⟨lb, 12, none⟩ = some (.int .i64 s4.key) ∧ y.cell? ⟨lb, 13, none⟩ = some (.string ⟨s4.text.toArray⟩) ∧ y.cell? ⟨lb, 14, none⟩ = some (.int .i64 s4.mark)) ∧ (y.cell? ⟨lb, 3, none⟩ = some (.int .i64 s1.key) ∧ y.cell? ⟨lb, 4, none⟩ = some (.string ⟨s1.text.toArray⟩) ∧ y.cell? ⟨lb, 5, none⟩ = some (.int .i64 s1.mark)) ∧ (y.cell? ⟨lb, 6, none⟩ = some (.int .i64 s2.key) ∧ y.cell? ⟨lb, 7, none⟩ = some (.string ⟨s2.text.toArray⟩) ∧ y.cell? ⟨lb, 8, none⟩ = some (.int .i64 s2.mark))) (first | with_reducible exact KEEP.out _ (qV0.out) | with_reducible exact KEEP.out _ (qV1.out) | with_reducible exact KEEP.out _ (qV2.out) | with_reducible exact KEEP.out _ (qV3.out) | with_reducible exact KEEP.out _ (qV3.out.alloc _) | with_reducible exact KEEP.out _ (qV4.out) | with_reducible exact KEEP.out _ (qV4.out.alloc _) | with_reducible exact KEEP.out _ (qV5.out) | with_reducible exact KEEP.out _ (qV5.out.alloc _) | with_reducible exact KEEP.out _ (qV6.out) | with_reducible exact KEEP.out _ (qV6.out.alloc _) | with_reducible exact KEEP.out _ (qV7.out) | with_reducible exact KEEP.out _ (qV7.out.alloc _) | with_reducible exact KEEP.out _ (qV8.out) | go_keep) (first | (go_at_call 90; with_reducible refine (show Calls _ _ _ _ (fun e w' => e = .returned (.string ⟨t0.toArray⟩) ∧ Upd (fun _ => False) _ w') from by rw [← T4.out]; exact text12_any s4.key s4.mark s4.text _ WF4.out.1 WF4.out.2.1 WF4.out.2.2.1 WF4.out.2.2.2.1 WF4.out.2.2.2.2).mono ?_; rintro en wq1 ⟨rfl, u⟩; have qV1 := hid ((qV0.out).trans u); clear u) | (go_at_call 90; with_reducible refine (show Calls _ _ _ _ (fun e w' => e = .returned (.string ⟨t1.toArray⟩) ∧ Upd (fun _ => False) _ w') from by rw [← T1.out]; exact text12_any s1.key s1.mark s1.text _ WF1.out.1 WF1.out.2.1 WF1.out.2.2.1 WF1.out.2.2.2.1 WF1.out.2.2.2.2).mono ?_; rintro en wq2 ⟨rfl, u⟩; have qV2 := hid ((qV1.out).trans u); clear u) | (go_at_call 90; with_reducible refine (show Calls _ _ _ _ (fun e w' => e = .returned (.string ⟨t2.toArray⟩) ∧ Upd (fun _ => False) _ w') from by rw [← T2.out]; exact text12_any s2.key s2.mark s2.text _ WF2.out.1 WF2.out.2.1 WF2.out.2.2.1 WF2.out.2.2.2.1 WF2.out.2.2.2.2).mono ?_; rintro en wq3 ⟨rfl, u⟩; have qV3 := hid ((qV2.out).trans u); clear u) | (go_at_call 89; with_reducible refine (texts12_any _ _ _ _ [t0, t1, t2] _ (KT.out _ (qV3.out.alloc _)) (LT3.out _) TL3.out).mono ?_; rintro en wq4 ⟨rfl, u⟩; have qV4 := hid ((qV3.out.alloc _).trans u); clear u) | (go_at_call 21; (with_reducible refine (hmarks_any (Ha.out.keep (qV4.out)).his).mono ?_); rintro en wq5 ⟨v, rfl, ho, u⟩; rw [rc_marks.1] at ho; obtain ⟨va5, vc5, rfl, _, _⟩ := own_slice ho; have qOA := hid (CV.out _ _ _ _ ho); have qV5 := hid ((qV4.out).trans u); clear ho u) | (go_at_call 21; (with_reducible refine (hmarks_any (Ha.out.keep (qV4.out.alloc _)).his).mono ?_); rintro en wq5 ⟨v, rfl, ho, u⟩; rw [rc_marks.1] at ho; obtain ⟨va5, vc5, rfl, _, _⟩ := own_slice ho; have qOA := hid (CV.out _ _ _ _ ho); have qV5 := hid ((qV4.out.alloc _).trans u); have qOAB := hid (show wq5.heap[wq4.heap.size]? = some (.cells #[.int .i64 0, .int .i64 4] 3 (0, 0)) from (u.block _ (heap_lt heap_alloc_new) id).trans heap_alloc_new); clear ho u) | (go_at_call 27; with_reducible refine (ints04 qOA.out).mono ?_; rintro en wq6 ⟨rfl, u⟩; have qV6 := hid ((qV5.out.alloc _).trans u); clear u) | (go_at_call 27; with_reducible refine (ints04g qOA.out qOAB.out).mono ?_; rintro en wq6 ⟨rfl, u⟩; have qV6 := hid ((qV5.out).trans u); clear u) | (go_at_call 21; (with_reducible refine (hmarks_any (Hb.out.keep (qV6.out)).his).mono ?_); rintro en wq7 ⟨v, rfl, ho, u⟩; rw [rc_marks.2] at ho; obtain ⟨va7, vc7, rfl, _, _⟩ := own_slice ho; have qOB := hid (CV.out _ _ _ _ ho); have qV7 := hid ((qV6.out).trans u); clear ho u) | (go_at_call 21; (with_reducible refine (hmarks_any (Hb.out.keep (qV6.out.alloc _)).his).mono ?_); rintro en wq7 ⟨v, rfl, ho, u⟩; rw [rc_marks.2] at ho; obtain ⟨va7, vc7, rfl, _, _⟩ := own_slice ho; have qOB := hid (CV.out _ _ _ _ ho); have qV7 := hid ((qV6.out.alloc _).trans u); have qOBB := hid (show wq7.heap[wq6.heap.size]? = some (.cells #[.int .i64 0, .int .i64 4] 3 (0, 0)) from (u.block _ (heap_lt heap_alloc_new) id).trans heap_alloc_new); clear ho u) | (go_at_call 27; with_reducible refine (ints04 qOB.out).mono ?_; rintro en wq8 ⟨rfl, u⟩; have qV8 := hid ((qV7.out.alloc _).trans u); clear u) | (go_at_call 27; with_reducible refine (ints04g qOB.out qOBB.out).mono ?_; rintro en wq8 ⟨rfl, u⟩; have qV8 := hid ((qV7.out).trans u); clear u))) | fail
    all_goals (go_wp2_with fail; go_ret; exact ⟨rfl, UC.out.trans qV8.out⟩)
end Go.Proofs.YtjkmalddfoemhaaGreatDoor
