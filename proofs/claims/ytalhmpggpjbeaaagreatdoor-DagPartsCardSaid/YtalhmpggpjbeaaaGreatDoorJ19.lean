/- Walks: the examples of the documentation (small). -/
import Derived.Test.YtalhmpggpjbeaaaGreatDoorJ18
import Derived.Test.YtalhmpggpjbeaaaGreatDoorJ13
import Derived.Test.YtalhmpggpjbeaaaGreatDoorJ4
namespace Go.Proofs.YtalhmpggpjbeaaaGreatDoor
open Go.RowKit Go.Deep

theorem sm_small : SgSmall sm1.2 ∧ SgSmall sm2.2 ∧ SgSmall sm3.2 ∧ SgSmall sm4.2 := by
  have l := sm_len
  have t := sm_txt
  have h1 := sign_sg [] 3 (txtF (nt 3 0 []))
  have h2 := sign_sg sm1.1 3 (txtF (nt 3 1 [0]))
  have h3 := sign_sg sm2.1 4 (txtF (nt 4 0 []))
  have h4 := sign_sg sm3.1 4 (txtF (nt 4 1 [1, 2]))
  have z : ([] : Rg).length = 0 := rfl
  exact ⟨⟨⟨h1.1, Int.le_of_lt h1.2.1⟩, ⟨h1.2.2.1, by show (signF [] 3 (txtF (nt 3 0 []))).2.mark ≤ _; omega⟩, by show (signF [] 3 (txtF (nt 3 0 []))).2.text.length ≤ _; omega⟩,
    ⟨⟨h2.1, Int.le_of_lt h2.2.1⟩, ⟨h2.2.2.1, by show (signF sm1.1 3 (txtF (nt 3 1 [0]))).2.mark ≤ _; omega⟩, by show (signF sm1.1 3 (txtF (nt 3 1 [0]))).2.text.length ≤ _; omega⟩,
    ⟨⟨h3.1, Int.le_of_lt h3.2.1⟩, ⟨h3.2.2.1, by show (signF sm2.1 4 (txtF (nt 4 0 []))).2.mark ≤ _; omega⟩, by show (signF sm2.1 4 (txtF (nt 4 0 []))).2.text.length ≤ _; omega⟩,
    ⟨⟨h4.1, Int.le_of_lt h4.2.1⟩, ⟨h4.2.2.1, by show (signF sm3.1 4 (txtF (nt 4 1 [1, 2]))).2.mark ≤ _; omega⟩, by show (signF sm3.1 4 (txtF (nt 4 1 [1, 2]))).2.text.length ≤ _; omega⟩⟩
theorem ints_nil {A : Nat → Prop} {w : World} : kInts.rep A w [.slice none 0 0] [] := .inl ⟨none, 0, rfl, Nat.zero_le _, rfl⟩
theorem lit_ints {w : World} {b : Nat} {l : List Int} {n : Nat} (h : IntsBlk w b l) (hn : l.length = n) (hw : ∀ x ∈ l, I64 x) (hl : n ≤ 100) : kInts.rep (· < w.heap.size) w [.slice (some ⟨b, 0, none⟩) n n] l := by
  subst hn
  exact h.rep (fun x hx => iwf (hw x hx)) (Nat.le_refl _) (by unfold maxLen; omega) h.lt
def Small9 (l : List Int) : Prop := ∀ x ∈ l, -100 ≤ x ∧ x ≤ 100
instance (l : List Int) : Decidable (Small9 l) := by unfold Small9; exact inferInstance
theorem Small9.i64 {l : List Int} (h : Small9 l) : ∀ x ∈ l, I64 x := fun x hx => by have := h x hx; unfold I64; omega
set_option maxRecDepth 100000 in
set_option maxHeartbeats 16000000 in
theorem small_any (w : World) (E : Env w) (hu : UsesIn w) (hz : 6 ≤ w.heap.size) : Calls Tryz.prog 13 #[] w fun en w' => en = .returned (.bool true) ∧ Upd (fun _ => False) w w' := by
  have HE := hid E; have HU := hid hu; have HZ := hid hz
  clear E hu hz
  go_enter Tryz.func13, Tryz.ntmps13
  go_wp2_with fail
  refine (rnew_any w HZ.out).mono ?_
  rintro en x0 ⟨rb, rfl, hrb, hri, u⟩
  have UC := hid u
  obtain ⟨Or0, hOr0⟩ : ∃ Or : Nat → Prop, (fun k => w.heap.size ≤ k ∧ k < x0.heap.size) = Or := ⟨_, rfl⟩
  have HO := hid (show ∀ k, Or0 k → w.heap.size ≤ k by rw [← hOr0]; exact fun k hk => hk.1)
  rw [hOr0] at hri
  have HR := hid hri
  clear hri u hOr0
  go_wp2_with fail
  refine (note_any 3 0 none 0 0 _).mono ?_
  rintro en x1 ⟨rfl, u⟩
  replace UC := hid (UC.out.trans u)
  replace HR := hid (HR.out.keep u)
  clear u
  go_wp2_with fail
  refine (text_nt 3 0 [] 0 rfl none 0 _ (HE.out.keep0 UC.out) (HU.out.keep UC.out) ints_nil (Small9.i64 (by decide)) (by decide)).mono ?_
  rintro en x2 ⟨rfl, u⟩
  replace UC := hid (UC.out.trans u)
  replace HR := hid (HR.out.keep u)
  clear u
  obtain ⟨tx, htx⟩ : ∃ t, txtF (nt 3 0 []) = t := ⟨_, rfl⟩
  have HTX := hid htx
  have HTL := hid (show tx.length ≤ 1000000 by have := sm_txt; rw [← htx]; omega)
  rw [htx]
  clear htx
  go_wp2_with fail
  refine (sign_any HR.out 3 tx (by decide) HTL.out (by first | (show ([] : Rg).length ≤ _; decide) | (have := sm_len; omega))).mono ?_
  rintro en x3 ⟨rfl, Or1, q1, q2, q3⟩
  have SME : signF [] 3 tx = sm1 := by rw [← HTX.out]; rfl
  rw [SME] at q1 ⊢
  obtain ⟨s1, hs⟩ : ∃ s, sm1.2 = s := ⟨_, rfl⟩
  have SE1 := hid hs
  rw [hs]
  replace HR := hid q1
  have HO2 := hid (show ∀ k, Or1 k → w.heap.size ≤ k from fun k hk => (q2 k hk).elim (HO.out k) fun z => Nat.le_trans UC.out.size z)
  replace UC := hid (UC.out.comp q3 fun i hi e => by have := HO.out i e; omega)
  replace HO := HO2
  clear q1 q2 q3 SME hs HO2 HTX HTL
  go_upto_region 5 with (fail)
  obtain ⟨x4, hXB⟩ : ∃ XB, XB = x3.alloc (.cells #[.int .i64 s1.key, .string ⟨s1.text.toArray⟩, .int .i64 s1.mark] 36 (0, 0)) := ⟨_, rfl⟩
  have u : Upd (fun _ => False) x3 x4 := by rw [hXB]; exact (Upd.refl _ _).alloc _
  obtain ⟨sb1, hsb⟩ : ∃ x, x3.heap.size = x := ⟨_, rfl⟩
  have B1 := hid (show x4.heap[sb1]? = some (.cells #[.int .i64 s1.key, .string ⟨s1.text.toArray⟩, .int .i64 s1.mark] 36 (0, 0)) by rw [hXB, ← hsb]; exact heap_alloc_new)
  have NB1 := hid (show ¬ Or1 sb1 from fun z => by have := (HR.out.lt _ z).2; omega)
  rw [← hXB]
  try rw [hsb]
  clear hXB hsb
  replace UC := hid (UC.out.trans u)
  replace HR := hid (HR.out.keep u)
  clear u
  go_wp2_with fail
  obtain ⟨x5, hXA⟩ : ∃ XA, XA = x4.alloc (.cells #[.int .i64 0] 3 (0, 0)) := ⟨_, rfl⟩
  have IB := hid (show IntsBlk x5 x4.heap.size [0] by rw [hXA]; exact heap_alloc_new)
  have u : Upd (fun _ => False) x4 x5 := by rw [hXA]; exact (Upd.refl _ _).alloc _
  obtain ⟨pb6, hpb⟩ : ∃ x, x4.heap.size = x := ⟨_, rfl⟩
  rw [hpb] at IB
  rw [← hXA]
  try rw [hpb]
  clear hXA hpb
  replace UC := hid (UC.out.trans u)
  replace HR := hid (HR.out.keep u)
  replace B1 := hid ((u.block _ (heap_lt B1.out) id).trans B1.out)
  clear u
  refine (note_any 3 1 (some ⟨pb6, 0, none⟩) 1 1 _).mono ?_
  rintro en x7 ⟨rfl, u⟩
  replace UC := hid (UC.out.trans u)
  replace HR := hid (HR.out.keep u)
  replace B1 := hid ((u.block _ (heap_lt B1.out) id).trans B1.out)
  replace IB := hid (show IntsBlk x7 pb6 [0] from (u.block _ IB.out.lt id).trans IB.out)
  clear u
  go_wp2_with fail
  refine (text_nt 3 1 [0] 1 rfl (some ⟨pb6, 0, none⟩) 1 _ (HE.out.keep0 UC.out) (HU.out.keep UC.out) (lit_ints IB.out rfl (Small9.i64 (by decide)) (by decide)) (Small9.i64 (by decide)) (by decide)).mono ?_
  rintro en x8 ⟨rfl, u⟩
  replace UC := hid (UC.out.trans u)
  replace HR := hid (HR.out.keep u)
  replace B1 := hid ((u.block _ (heap_lt B1.out) id).trans B1.out)
  clear IB
  clear u
  obtain ⟨tx, htx⟩ : ∃ t, txtF (nt 3 1 [0]) = t := ⟨_, rfl⟩
  have HTX := hid htx
  have HTL := hid (show tx.length ≤ 1000000 by have := sm_txt; rw [← htx]; omega)
  rw [htx]
  clear htx
  go_wp2_with fail
  refine (sign_any HR.out 3 tx (by decide) HTL.out (by first | (show ([] : Rg).length ≤ _; decide) | (have := sm_len; omega))).mono ?_
  rintro en x9 ⟨rfl, Or2, q1, q2, q3⟩
  have SME : signF sm1.1 3 tx = sm2 := by rw [← HTX.out]; rfl
  rw [SME] at q1 ⊢
  obtain ⟨s2, hs⟩ : ∃ s, sm2.2 = s := ⟨_, rfl⟩
  have SE2 := hid hs
  rw [hs]
  replace HR := hid q1
  have HO2 := hid (show ∀ k, Or2 k → w.heap.size ≤ k from fun k hk => (q2 k hk).elim (HO.out k) fun z => Nat.le_trans UC.out.size z)
  replace UC := hid (UC.out.comp q3 fun i hi e => by have := HO.out i e; omega)
  have NX1 := hid (show ¬ Or2 sb1 from fun z => (q2 _ z).elim NB1.out fun z => by have := heap_lt B1.out; omega)
  replace B1 := hid ((q3.block _ (heap_lt B1.out) NB1.out).trans B1.out)
  replace NB1 := NX1
  clear NX1
  replace HO := HO2
  clear q1 q2 q3 SME hs HO2 HTX HTL
  go_upto_region 6 with (fail)
  obtain ⟨x10, hXB⟩ : ∃ XB, XB = x9.alloc (.cells #[.int .i64 s2.key, .string ⟨s2.text.toArray⟩, .int .i64 s2.mark] 36 (0, 0)) := ⟨_, rfl⟩
  have u : Upd (fun _ => False) x9 x10 := by rw [hXB]; exact (Upd.refl _ _).alloc _
  obtain ⟨sb2, hsb⟩ : ∃ x, x9.heap.size = x := ⟨_, rfl⟩
  have B2 := hid (show x10.heap[sb2]? = some (.cells #[.int .i64 s2.key, .string ⟨s2.text.toArray⟩, .int .i64 s2.mark] 36 (0, 0)) by rw [hXB, ← hsb]; exact heap_alloc_new)
  have NB2 := hid (show ¬ Or2 sb2 from fun z => by have := (HR.out.lt _ z).2; omega)
  rw [← hXB]
  try rw [hsb]
  clear hXB hsb
  replace UC := hid (UC.out.trans u)
  replace HR := hid (HR.out.keep u)
  replace B1 := hid ((u.block _ (heap_lt B1.out) id).trans B1.out)
  clear u
  go_wp2_with fail
  refine (note_any 4 0 none 0 0 _).mono ?_
  rintro en x11 ⟨rfl, u⟩
  replace UC := hid (UC.out.trans u)
  replace HR := hid (HR.out.keep u)
  replace B1 := hid ((u.block _ (heap_lt B1.out) id).trans B1.out)
  replace B2 := hid ((u.block _ (heap_lt B2.out) id).trans B2.out)
  clear u
  go_wp2_with fail
  refine (text_nt 4 0 [] 0 rfl none 0 _ (HE.out.keep0 UC.out) (HU.out.keep UC.out) ints_nil (Small9.i64 (by decide)) (by decide)).mono ?_
  rintro en x12 ⟨rfl, u⟩
  replace UC := hid (UC.out.trans u)
  replace HR := hid (HR.out.keep u)
  replace B1 := hid ((u.block _ (heap_lt B1.out) id).trans B1.out)
  replace B2 := hid ((u.block _ (heap_lt B2.out) id).trans B2.out)
  clear u
  obtain ⟨tx, htx⟩ : ∃ t, txtF (nt 4 0 []) = t := ⟨_, rfl⟩
  have HTX := hid htx
  have HTL := hid (show tx.length ≤ 1000000 by have := sm_txt; rw [← htx]; omega)
  rw [htx]
  clear htx
  go_wp2_with fail
  refine (sign_any HR.out 4 tx (by decide) HTL.out (by first | (show ([] : Rg).length ≤ _; decide) | (have := sm_len; omega))).mono ?_
  rintro en x13 ⟨rfl, Or3, q1, q2, q3⟩
  have SME : signF sm2.1 4 tx = sm3 := by rw [← HTX.out]; rfl
  rw [SME] at q1 ⊢
  obtain ⟨s3, hs⟩ : ∃ s, sm3.2 = s := ⟨_, rfl⟩
  have SE3 := hid hs
  rw [hs]
  replace HR := hid q1
  have HO2 := hid (show ∀ k, Or3 k → w.heap.size ≤ k from fun k hk => (q2 k hk).elim (HO.out k) fun z => Nat.le_trans UC.out.size z)
  replace UC := hid (UC.out.comp q3 fun i hi e => by have := HO.out i e; omega)
  have NX1 := hid (show ¬ Or3 sb1 from fun z => (q2 _ z).elim NB1.out fun z => by have := heap_lt B1.out; omega)
  replace B1 := hid ((q3.block _ (heap_lt B1.out) NB1.out).trans B1.out)
  replace NB1 := NX1
  clear NX1
  have NX2 := hid (show ¬ Or3 sb2 from fun z => (q2 _ z).elim NB2.out fun z => by have := heap_lt B2.out; omega)
  replace B2 := hid ((q3.block _ (heap_lt B2.out) NB2.out).trans B2.out)
  replace NB2 := NX2
  clear NX2
  replace HO := HO2
  clear q1 q2 q3 SME hs HO2 HTX HTL
  go_upto_region 7 with (fail)
  obtain ⟨x14, hXB⟩ : ∃ XB, XB = x13.alloc (.cells #[.int .i64 s3.key, .string ⟨s3.text.toArray⟩, .int .i64 s3.mark] 36 (0, 0)) := ⟨_, rfl⟩
  have u : Upd (fun _ => False) x13 x14 := by rw [hXB]; exact (Upd.refl _ _).alloc _
  obtain ⟨sb3, hsb⟩ : ∃ x, x13.heap.size = x := ⟨_, rfl⟩
  have B3 := hid (show x14.heap[sb3]? = some (.cells #[.int .i64 s3.key, .string ⟨s3.text.toArray⟩, .int .i64 s3.mark] 36 (0, 0)) by rw [hXB, ← hsb]; exact heap_alloc_new)
  have NB3 := hid (show ¬ Or3 sb3 from fun z => by have := (HR.out.lt _ z).2; omega)
  rw [← hXB]
  try rw [hsb]
  clear hXB hsb
  replace UC := hid (UC.out.trans u)
  replace HR := hid (HR.out.keep u)
  replace B1 := hid ((u.block _ (heap_lt B1.out) id).trans B1.out)
  replace B2 := hid ((u.block _ (heap_lt B2.out) id).trans B2.out)
  clear u
  go_wp2_with fail
  obtain ⟨x15, hXA⟩ : ∃ XA, XA = x14.alloc (.cells #[.int .i64 1, .int .i64 2] 3 (0, 0)) := ⟨_, rfl⟩
  have IB := hid (show IntsBlk x15 x14.heap.size [1, 2] by rw [hXA]; exact heap_alloc_new)
  have u : Upd (fun _ => False) x14 x15 := by rw [hXA]; exact (Upd.refl _ _).alloc _
  obtain ⟨pb16, hpb⟩ : ∃ x, x14.heap.size = x := ⟨_, rfl⟩
  rw [hpb] at IB
  rw [← hXA]
  try rw [hpb]
  clear hXA hpb
  replace UC := hid (UC.out.trans u)
  replace HR := hid (HR.out.keep u)
  replace B1 := hid ((u.block _ (heap_lt B1.out) id).trans B1.out)
  replace B2 := hid ((u.block _ (heap_lt B2.out) id).trans B2.out)
  replace B3 := hid ((u.block _ (heap_lt B3.out) id).trans B3.out)
  clear u
  refine (note_any 4 1 (some ⟨pb16, 0, none⟩) 2 2 _).mono ?_
  rintro en x17 ⟨rfl, u⟩
  replace UC := hid (UC.out.trans u)
  replace HR := hid (HR.out.keep u)
  replace B1 := hid ((u.block _ (heap_lt B1.out) id).trans B1.out)
  replace B2 := hid ((u.block _ (heap_lt B2.out) id).trans B2.out)
  replace B3 := hid ((u.block _ (heap_lt B3.out) id).trans B3.out)
  replace IB := hid (show IntsBlk x17 pb16 [1, 2] from (u.block _ IB.out.lt id).trans IB.out)
  clear u
  go_wp2_with fail
  refine (text_nt 4 1 [1, 2] 2 rfl (some ⟨pb16, 0, none⟩) 2 _ (HE.out.keep0 UC.out) (HU.out.keep UC.out) (lit_ints IB.out rfl (Small9.i64 (by decide)) (by decide)) (Small9.i64 (by decide)) (by decide)).mono ?_
  rintro en x18 ⟨rfl, u⟩
  replace UC := hid (UC.out.trans u)
  replace HR := hid (HR.out.keep u)
  replace B1 := hid ((u.block _ (heap_lt B1.out) id).trans B1.out)
  replace B2 := hid ((u.block _ (heap_lt B2.out) id).trans B2.out)
  replace B3 := hid ((u.block _ (heap_lt B3.out) id).trans B3.out)
  clear IB
  clear u
  obtain ⟨tx, htx⟩ : ∃ t, txtF (nt 4 1 [1, 2]) = t := ⟨_, rfl⟩
  have HTX := hid htx
  have HTL := hid (show tx.length ≤ 1000000 by have := sm_txt; rw [← htx]; omega)
  rw [htx]
  clear htx
  go_wp2_with fail
  refine (sign_any HR.out 4 tx (by decide) HTL.out (by first | (show ([] : Rg).length ≤ _; decide) | (have := sm_len; omega))).mono ?_
  rintro en x19 ⟨rfl, Or4, q1, q2, q3⟩
  have SME : signF sm3.1 4 tx = sm4 := by rw [← HTX.out]; rfl
  rw [SME] at q1 ⊢
  obtain ⟨s4, hs⟩ : ∃ s, sm4.2 = s := ⟨_, rfl⟩
  have SE4 := hid hs
  rw [hs]
  replace HR := hid q1
  have HO2 := hid (show ∀ k, Or4 k → w.heap.size ≤ k from fun k hk => (q2 k hk).elim (HO.out k) fun z => Nat.le_trans UC.out.size z)
  replace UC := hid (UC.out.comp q3 fun i hi e => by have := HO.out i e; omega)
  have NX1 := hid (show ¬ Or4 sb1 from fun z => (q2 _ z).elim NB1.out fun z => by have := heap_lt B1.out; omega)
  replace B1 := hid ((q3.block _ (heap_lt B1.out) NB1.out).trans B1.out)
  replace NB1 := NX1
  clear NX1
  have NX2 := hid (show ¬ Or4 sb2 from fun z => (q2 _ z).elim NB2.out fun z => by have := heap_lt B2.out; omega)
  replace B2 := hid ((q3.block _ (heap_lt B2.out) NB2.out).trans B2.out)
  replace NB2 := NX2
  clear NX2
  have NX3 := hid (show ¬ Or4 sb3 from fun z => (q2 _ z).elim NB3.out fun z => by have := heap_lt B3.out; omega)
  replace B3 := hid ((q3.block _ (heap_lt B3.out) NB3.out).trans B3.out)
  replace NB3 := NX3
  clear NX3
  replace HO := HO2
  clear q1 q2 q3 SME hs HO2 HTX HTL
  go_upto_region 8 with (fail)
  obtain ⟨x20, hXB⟩ : ∃ XB, XB = x19.alloc (.cells #[.int .i64 s4.key, .string ⟨s4.text.toArray⟩, .int .i64 s4.mark] 36 (0, 0)) := ⟨_, rfl⟩
  have u : Upd (fun _ => False) x19 x20 := by rw [hXB]; exact (Upd.refl _ _).alloc _
  obtain ⟨sb4, hsb⟩ : ∃ x, x19.heap.size = x := ⟨_, rfl⟩
  have B4 := hid (show x20.heap[sb4]? = some (.cells #[.int .i64 s4.key, .string ⟨s4.text.toArray⟩, .int .i64 s4.mark] 36 (0, 0)) by rw [hXB, ← hsb]; exact heap_alloc_new)
  have NB4 := hid (show ¬ Or4 sb4 from fun z => by have := (HR.out.lt _ z).2; omega)
  rw [← hXB]
  try rw [hsb]
  clear hXB hsb
  replace UC := hid (UC.out.trans u)
  replace HR := hid (HR.out.keep u)
  replace B1 := hid ((u.block _ (heap_lt B1.out) id).trans B1.out)
  replace B2 := hid ((u.block _ (heap_lt B2.out) id).trans B2.out)
  replace B3 := hid ((u.block _ (heap_lt B3.out) id).trans B3.out)
  clear u
  go_wp2_with fail
  refine (hnew_any rb _ (Nat.le_trans HZ.out UC.out.size)).mono ?_
  rintro en x21 ⟨b, rfl, hb, hn, u⟩
  obtain ⟨O0, hO0⟩ : ∃ O : Nat → Prop, (fun k => x20.heap.size ≤ k ∧ k < x21.heap.size) = O := ⟨_, rfl⟩
  rw [hO0] at hn
  have HH := hid (show HPre x21 O0 Or4 b rb [] sm4.1 from ⟨hn, ⟨HR.out.keep u, HE.out.keep0 (UC.out.trans u), HU.out.keep (UC.out.trans u), Nat.le_trans HZ.out (Nat.le_trans UC.out.size u.size)⟩, His.nil, fun k hk hk' => by rw [← hO0] at hk'; have := (HR.out.lt k hk).2; omega, by have := sm_len; omega⟩)
  have HW := hid (show ∀ k, O0 k → w.heap.size ≤ k from fun k hk => by rw [← hO0] at hk; exact Nat.le_trans UC.out.size hk.1)
  replace NB1 := hid (show ¬ O0 sb1 from fun z => by rw [← hO0] at z; have := heap_lt B1.out; omega)
  replace NB2 := hid (show ¬ O0 sb2 from fun z => by rw [← hO0] at z; have := heap_lt B2.out; omega)
  replace NB3 := hid (show ¬ O0 sb3 from fun z => by rw [← hO0] at z; have := heap_lt B3.out; omega)
  replace NB4 := hid (show ¬ O0 sb4 from fun z => by rw [← hO0] at z; have := heap_lt B4.out; omega)
  replace UC := hid (UC.out.trans u)
  replace B1 := hid ((u.block _ (heap_lt B1.out) id).trans B1.out)
  replace B2 := hid ((u.block _ (heap_lt B2.out) id).trans B2.out)
  replace B3 := hid ((u.block _ (heap_lt B3.out) id).trans B3.out)
  replace B4 := hid ((u.block _ (heap_lt B4.out) id).trans B4.out)
  clear hn u hO0 hb HR
  go_wp2_with fail
  refine (hnew_nil _).mono ?_
  rintro en x22 ⟨rfl, rfl⟩
  obtain ⟨k0, k1, k2, kf⟩ := cells3 B2.out
  go_wp2_with fail
  refine (add_any (sg_pre (s := s2) HH.out (by rw [← SE2.out]; exact sm_small.2.1))).mono ?_
  rintro en x22 ⟨rfl, O1, q1, q2, q3⟩
  rw [← SE2.out] at q1 ⊢
  rw [sm_adds.1]
  rw [sm_none] at q1
  replace HH := hid (HH.out.grown q3 (h' := []) q1 His.nil q2)
  have HW2 := hid (show ∀ k, O1 k → w.heap.size ≤ k from fun k hk => (q2 k hk).elim (HW.out k) fun z => Nat.le_trans UC.out.size z)
  replace UC := hid (UC.out.comp q3 fun i hi e => by have := HW.out i e; omega)
  have NX1 := hid (show ¬ O1 sb1 from fun z => (q2 _ z).elim NB1.out fun z => by have := heap_lt B1.out; omega)
  replace B1 := hid ((q3.block _ (heap_lt B1.out) NB1.out).trans B1.out)
  replace NB1 := NX1
  clear NX1
  have NX2 := hid (show ¬ O1 sb2 from fun z => (q2 _ z).elim NB2.out fun z => by have := heap_lt B2.out; omega)
  replace B2 := hid ((q3.block _ (heap_lt B2.out) NB2.out).trans B2.out)
  replace NB2 := NX2
  clear NX2
  have NX3 := hid (show ¬ O1 sb3 from fun z => (q2 _ z).elim NB3.out fun z => by have := heap_lt B3.out; omega)
  replace B3 := hid ((q3.block _ (heap_lt B3.out) NB3.out).trans B3.out)
  replace NB3 := NX3
  clear NX3
  have NX4 := hid (show ¬ O1 sb4 from fun z => (q2 _ z).elim NB4.out fun z => by have := heap_lt B4.out; omega)
  replace B4 := hid ((q3.block _ (heap_lt B4.out) NB4.out).trans B4.out)
  replace NB4 := NX4
  clear NX4
  replace HW := HW2
  clear q1 q2 q3 HW2 k0 k1 k2 kf
  obtain ⟨k0, k1, k2, kf⟩ := cells3 B1.out
  go_wp2_with fail
  refine (add_any (sg_pre (s := s1) HH.out (by rw [← SE1.out]; exact sm_small.1))).mono ?_
  rintro en x23 ⟨rfl, O2, q1, q2, q3⟩
  rw [← SE1.out] at q1 ⊢
  rw [sm_adds.2.1]
  replace HH := hid (HH.out.grown q3 (h' := smA) q1 (HH.out.plain.add sm1.2) q2)
  have HW2 := hid (show ∀ k, O2 k → w.heap.size ≤ k from fun k hk => (q2 k hk).elim (HW.out k) fun z => Nat.le_trans UC.out.size z)
  replace UC := hid (UC.out.comp q3 fun i hi e => by have := HW.out i e; omega)
  have NX1 := hid (show ¬ O2 sb1 from fun z => (q2 _ z).elim NB1.out fun z => by have := heap_lt B1.out; omega)
  replace B1 := hid ((q3.block _ (heap_lt B1.out) NB1.out).trans B1.out)
  replace NB1 := NX1
  clear NX1
  have NX2 := hid (show ¬ O2 sb2 from fun z => (q2 _ z).elim NB2.out fun z => by have := heap_lt B2.out; omega)
  replace B2 := hid ((q3.block _ (heap_lt B2.out) NB2.out).trans B2.out)
  replace NB2 := NX2
  clear NX2
  have NX3 := hid (show ¬ O2 sb3 from fun z => (q2 _ z).elim NB3.out fun z => by have := heap_lt B3.out; omega)
  replace B3 := hid ((q3.block _ (heap_lt B3.out) NB3.out).trans B3.out)
  replace NB3 := NX3
  clear NX3
  have NX4 := hid (show ¬ O2 sb4 from fun z => (q2 _ z).elim NB4.out fun z => by have := heap_lt B4.out; omega)
  replace B4 := hid ((q3.block _ (heap_lt B4.out) NB4.out).trans B4.out)
  replace NB4 := NX4
  clear NX4
  replace HW := HW2
  clear q1 q2 q3 HW2 k0 k1 k2 kf
  obtain ⟨k0, k1, k2, kf⟩ := cells3 B2.out
  go_wp2_with fail
  refine (add_any (sg_pre (s := s2) HH.out (by rw [← SE2.out]; exact sm_small.2.1))).mono ?_
  rintro en x24 ⟨rfl, O3, q1, q2, q3⟩
  rw [← SE2.out] at q1 ⊢
  rw [sm_adds.2.2.1]
  replace HH := hid (HH.out.grown q3 (h' := smB) q1 (HH.out.plain.add sm2.2) q2)
  have HW2 := hid (show ∀ k, O3 k → w.heap.size ≤ k from fun k hk => (q2 k hk).elim (HW.out k) fun z => Nat.le_trans UC.out.size z)
  replace UC := hid (UC.out.comp q3 fun i hi e => by have := HW.out i e; omega)
  have NX1 := hid (show ¬ O3 sb1 from fun z => (q2 _ z).elim NB1.out fun z => by have := heap_lt B1.out; omega)
  replace B1 := hid ((q3.block _ (heap_lt B1.out) NB1.out).trans B1.out)
  replace NB1 := NX1
  clear NX1
  have NX2 := hid (show ¬ O3 sb2 from fun z => (q2 _ z).elim NB2.out fun z => by have := heap_lt B2.out; omega)
  replace B2 := hid ((q3.block _ (heap_lt B2.out) NB2.out).trans B2.out)
  replace NB2 := NX2
  clear NX2
  have NX3 := hid (show ¬ O3 sb3 from fun z => (q2 _ z).elim NB3.out fun z => by have := heap_lt B3.out; omega)
  replace B3 := hid ((q3.block _ (heap_lt B3.out) NB3.out).trans B3.out)
  replace NB3 := NX3
  clear NX3
  have NX4 := hid (show ¬ O3 sb4 from fun z => (q2 _ z).elim NB4.out fun z => by have := heap_lt B4.out; omega)
  replace B4 := hid ((q3.block _ (heap_lt B4.out) NB4.out).trans B4.out)
  replace NB4 := NX4
  clear NX4
  replace HW := HW2
  clear q1 q2 q3 HW2 k0 k1 k2 kf
  obtain ⟨k0, k1, k2, kf⟩ := cells3 B3.out
  go_wp2_with fail
  refine (add_any (sg_pre (s := s3) HH.out (by rw [← SE3.out]; exact sm_small.2.2.1))).mono ?_
  rintro en x25 ⟨rfl, O4, q1, q2, q3⟩
  rw [← SE3.out] at q1 ⊢
  rw [sm_adds.2.2.2.1]
  replace HH := hid (HH.out.grown q3 (h' := smC) q1 (HH.out.plain.add sm3.2) q2)
  have HW2 := hid (show ∀ k, O4 k → w.heap.size ≤ k from fun k hk => (q2 k hk).elim (HW.out k) fun z => Nat.le_trans UC.out.size z)
  replace UC := hid (UC.out.comp q3 fun i hi e => by have := HW.out i e; omega)
  have NX1 := hid (show ¬ O4 sb1 from fun z => (q2 _ z).elim NB1.out fun z => by have := heap_lt B1.out; omega)
  replace B1 := hid ((q3.block _ (heap_lt B1.out) NB1.out).trans B1.out)
  replace NB1 := NX1
  clear NX1
  have NX2 := hid (show ¬ O4 sb2 from fun z => (q2 _ z).elim NB2.out fun z => by have := heap_lt B2.out; omega)
  replace B2 := hid ((q3.block _ (heap_lt B2.out) NB2.out).trans B2.out)
  replace NB2 := NX2
  clear NX2
  have NX3 := hid (show ¬ O4 sb3 from fun z => (q2 _ z).elim NB3.out fun z => by have := heap_lt B3.out; omega)
  replace B3 := hid ((q3.block _ (heap_lt B3.out) NB3.out).trans B3.out)
  replace NB3 := NX3
  clear NX3
  have NX4 := hid (show ¬ O4 sb4 from fun z => (q2 _ z).elim NB4.out fun z => by have := heap_lt B4.out; omega)
  replace B4 := hid ((q3.block _ (heap_lt B4.out) NB4.out).trans B4.out)
  replace NB4 := NX4
  clear NX4
  replace HW := HW2
  clear q1 q2 q3 HW2 k0 k1 k2 kf
  obtain ⟨k0, k1, k2, kf⟩ := cells3 B4.out
  go_wp2_with fail
  refine (add_any (sg_pre (s := s4) HH.out (by rw [← SE4.out]; exact sm_small.2.2.2))).mono ?_
  rintro en x26 ⟨rfl, O5, q1, q2, q3⟩
  rw [← SE4.out] at q1 ⊢
  rw [sm_adds.2.2.2.2.1]
  replace HH := hid (HH.out.grown q3 (h' := smD) q1 (HH.out.plain.add sm4.2) q2)
  have HW2 := hid (show ∀ k, O5 k → w.heap.size ≤ k from fun k hk => (q2 k hk).elim (HW.out k) fun z => Nat.le_trans UC.out.size z)
  replace UC := hid (UC.out.comp q3 fun i hi e => by have := HW.out i e; omega)
  have NX1 := hid (show ¬ O5 sb1 from fun z => (q2 _ z).elim NB1.out fun z => by have := heap_lt B1.out; omega)
  replace B1 := hid ((q3.block _ (heap_lt B1.out) NB1.out).trans B1.out)
  replace NB1 := NX1
  clear NX1
  have NX2 := hid (show ¬ O5 sb2 from fun z => (q2 _ z).elim NB2.out fun z => by have := heap_lt B2.out; omega)
  replace B2 := hid ((q3.block _ (heap_lt B2.out) NB2.out).trans B2.out)
  replace NB2 := NX2
  clear NX2
  have NX3 := hid (show ¬ O5 sb3 from fun z => (q2 _ z).elim NB3.out fun z => by have := heap_lt B3.out; omega)
  replace B3 := hid ((q3.block _ (heap_lt B3.out) NB3.out).trans B3.out)
  replace NB3 := NX3
  clear NX3
  have NX4 := hid (show ¬ O5 sb4 from fun z => (q2 _ z).elim NB4.out fun z => by have := heap_lt B4.out; omega)
  replace B4 := hid ((q3.block _ (heap_lt B4.out) NB4.out).trans B4.out)
  replace NB4 := NX4
  clear NX4
  replace HW := HW2
  clear q1 q2 q3 HW2 k0 k1 k2 kf
  obtain ⟨k0, k1, k2, kf⟩ := cells3 B1.out
  go_wp2_with fail
  refine (add_any (sg_pre (s := s1) HH.out (by rw [← SE1.out]; exact sm_small.1))).mono ?_
  rintro en x27 ⟨rfl, O6, q1, q2, q3⟩
  rw [← SE1.out] at q1 ⊢
  rw [sm_adds.2.2.2.2.2]
  rw [sm_again] at q1
  replace HH := hid (HH.out.grown q3 (h' := smD) q1 sm_hisD q2)
  have HW2 := hid (show ∀ k, O6 k → w.heap.size ≤ k from fun k hk => (q2 k hk).elim (HW.out k) fun z => Nat.le_trans UC.out.size z)
  replace UC := hid (UC.out.comp q3 fun i hi e => by have := HW.out i e; omega)
  have NX1 := hid (show ¬ O6 sb1 from fun z => (q2 _ z).elim NB1.out fun z => by have := heap_lt B1.out; omega)
  replace B1 := hid ((q3.block _ (heap_lt B1.out) NB1.out).trans B1.out)
  replace NB1 := NX1
  clear NX1
  have NX2 := hid (show ¬ O6 sb2 from fun z => (q2 _ z).elim NB2.out fun z => by have := heap_lt B2.out; omega)
  replace B2 := hid ((q3.block _ (heap_lt B2.out) NB2.out).trans B2.out)
  replace NB2 := NX2
  clear NX2
  have NX3 := hid (show ¬ O6 sb3 from fun z => (q2 _ z).elim NB3.out fun z => by have := heap_lt B3.out; omega)
  replace B3 := hid ((q3.block _ (heap_lt B3.out) NB3.out).trans B3.out)
  replace NB3 := NX3
  clear NX3
  have NX4 := hid (show ¬ O6 sb4 from fun z => (q2 _ z).elim NB4.out fun z => by have := heap_lt B4.out; omega)
  replace B4 := hid ((q3.block _ (heap_lt B4.out) NB4.out).trans B4.out)
  replace NB4 := NX4
  clear NX4
  replace HW := HW2
  clear q1 q2 q3 HW2 k0 k1 k2 kf
  go_wp2_with fail
  refine (hlen_any HH.out.his).mono ?_
  rintro en xx ⟨rfl, rfl⟩
  rw [sm_idx.2.2.2.2.2]
  clear B1 NB1 SE1 B2 NB2 SE2 B3 NB3 SE3 B4 NB4 SE4
  go_upto_region 12 with (fail)
  go_wp2_with fail
  obtain ⟨x29, hXA⟩ : ∃ XA, XA = x27.alloc (.cells #[.int .i64 1] 3 (0, 0)) := ⟨_, rfl⟩
  have IB := hid (show IntsBlk x29 x27.heap.size [1] by rw [hXA]; exact heap_alloc_new)
  have u : Upd (fun _ => False) x27 x29 := by rw [hXA]; exact (Upd.refl _ _).alloc _
  obtain ⟨pb30, hpb⟩ : ∃ x, x27.heap.size = x := ⟨_, rfl⟩
  rw [hpb] at IB
  rw [← hXA]
  try rw [hpb]
  clear hXA hpb
  replace UC := hid (UC.out.trans u)
  replace HH := hid (HH.out.keep u)
  clear u
  refine (hrestrict_any HH.out (· < x29.heap.size) (.slice (some ⟨pb30, 0, none⟩) 1 1) [1] (lit_ints IB.out rfl (Small9.i64 (by decide)) (by decide))).mono ?_
  rintro en x31 ⟨b2, OS0, rfl, q1, q2, u⟩
  have HS := hid (show HPre x31 OS0 Or4 b2 rb smS sm4.1 from HH.out.made u q1 sm_hisS q2)
  have DS := hid (show ∀ k, OS0 k → ¬ O6 k from fun k hk hk' => by have := q2 k hk; have := (HH.out.his.lt k hk').2; omega)
  have HV := hid (show ∀ k, OS0 k → w.heap.size ≤ k from fun k hk => Nat.le_trans UC.out.size (q2 k hk))
  replace UC := hid (UC.out.trans u)
  replace HH := hid (HH.out.keep u)
  clear u q1 q2 IB
  go_wp2_with fail
  refine (hpast_any HH.out.his 3 (by decide)).mono ?_
  rintro en x32 ⟨v, rfl, ho, u⟩
  replace UC := hid (UC.out.trans u)
  replace HH := hid (HH.out.keep u)
  replace HS := hid (HS.out.keep u)
  have OW := hid ho
  obtain ⟨va, vc, rfl, _, _⟩ := own_slice ho
  clear ho u
  go_wp2_with fail
  obtain ⟨x33, hXA⟩ : ∃ XA, XA = x32.alloc (.cells #[.int .i64 0, .int .i64 1, .int .i64 2] 3 (0, 0)) := ⟨_, rfl⟩
  have IB := hid (show IntsBlk x33 x32.heap.size [0, 1, 2] by rw [hXA]; exact heap_alloc_new)
  have u : Upd (fun _ => False) x32 x33 := by rw [hXA]; exact (Upd.refl _ _).alloc _
  have LU0 := hid u
  obtain ⟨pb34, hpb⟩ : ∃ x, x32.heap.size = x := ⟨_, rfl⟩
  rw [hpb] at IB
  rw [← hXA]
  try rw [hpb]
  clear hXA hpb
  replace UC := hid (UC.out.trans u)
  replace HH := hid (HH.out.keep u)
  replace HS := hid (HS.out.keep u)
  clear u
  refine (ints8_any _ (.slice (some ⟨pb34, 0, none⟩) 3 3) (pastF smD 3) [0, 1, 2] (· < x33.heap.size) (· < x33.heap.size) _ (kInts.mono (ints_rep (ownsRow_upd OW.out (LU0.out) fun _ _ => id) (by rw [sm_past]; exact Small9.i64 (by decide))) fun g hg => hg.2) (lit_ints IB.out rfl (Small9.i64 (by decide)) (by decide)) (fun _ h => h) (fun _ h => h)).mono ?_
  rintro en x35 ⟨rfl, u⟩
  rw [sm_past, decide_eq_true rfl]
  replace UC := hid (UC.out.trans u)
  replace HH := hid (HH.out.keep u)
  replace HS := hid (HS.out.keep u)
  clear u OW IB LU0
  go_wp2_with fail
  refine (hlevel_any HH.out.his 3 (by decide)).mono ?_
  rintro en xx ⟨rfl, rfl⟩
  rw [sm_level.1]
  go_wp2_with fail
  refine (hheads_any HH.out.his).mono ?_
  rintro en x36 ⟨v, rfl, ho, u⟩
  replace UC := hid (UC.out.trans u)
  replace HH := hid (HH.out.keep u)
  replace HS := hid (HS.out.keep u)
  have OW := hid ho
  obtain ⟨va, vc, rfl, _, _⟩ := own_slice ho
  clear ho u
  go_wp2_with fail
  obtain ⟨x37, hXA⟩ : ∃ XA, XA = x36.alloc (.cells #[.int .i64 3] 3 (0, 0)) := ⟨_, rfl⟩
  have IB := hid (show IntsBlk x37 x36.heap.size [3] by rw [hXA]; exact heap_alloc_new)
  have u : Upd (fun _ => False) x36 x37 := by rw [hXA]; exact (Upd.refl _ _).alloc _
  have LU0 := hid u
  obtain ⟨pb38, hpb⟩ : ∃ x, x36.heap.size = x := ⟨_, rfl⟩
  rw [hpb] at IB
  rw [← hXA]
  try rw [hpb]
  clear hXA hpb
  replace UC := hid (UC.out.trans u)
  replace HH := hid (HH.out.keep u)
  replace HS := hid (HS.out.keep u)
  clear u
  refine (ints8_any _ (.slice (some ⟨pb38, 0, none⟩) 1 1) (headsF smD) [3] (· < x37.heap.size) (· < x37.heap.size) _ (kInts.mono (ints_rep (ownsRow_upd OW.out (LU0.out) fun _ _ => id) (by rw [sm_heads]; exact Small9.i64 (by decide))) fun g hg => hg.2) (lit_ints IB.out rfl (Small9.i64 (by decide)) (by decide)) (fun _ h => h) (fun _ h => h)).mono ?_
  rintro en x39 ⟨rfl, u⟩
  rw [sm_heads, decide_eq_true rfl]
  replace UC := hid (UC.out.trans u)
  replace HH := hid (HH.out.keep u)
  replace HS := hid (HS.out.keep u)
  clear u OW IB LU0
  go_wp2_with fail
  obtain ⟨x40, hXA⟩ : ∃ XA, XA = x39.alloc (.cells #[.int .i64 3, .int .i64 2, .int .i64 1, .int .i64 0, .int .i64 9] 3 (0, 0)) := ⟨_, rfl⟩
  have IB := hid (show IntsBlk x40 x39.heap.size [3, 2, 1, 0, 9] by rw [hXA]; exact heap_alloc_new)
  have u : Upd (fun _ => False) x39 x40 := by rw [hXA]; exact (Upd.refl _ _).alloc _
  have LU0 := hid u
  obtain ⟨pb41, hpb⟩ : ∃ x, x39.heap.size = x := ⟨_, rfl⟩
  rw [hpb] at IB
  rw [← hXA]
  try rw [hpb]
  clear hXA hpb
  replace UC := hid (UC.out.trans u)
  replace HH := hid (HH.out.keep u)
  replace HS := hid (HS.out.keep u)
  clear u
  have IB5 := IB
  clear IB LU0
  refine (hsorted_any HH.out.his HH.out.plain HH.out.few (· < x40.heap.size) (.slice (some ⟨pb41, 0, none⟩) 5 5) [3, 2, 1, 0, 9] (lit_ints IB5.out rfl (Small9.i64 (by decide)) (by decide))).mono ?_
  rintro en x42 ⟨v, rfl, ho, u⟩
  replace UC := hid (UC.out.trans u)
  replace HH := hid (HH.out.keep u)
  replace HS := hid (HS.out.keep u)
  have OW := hid ho
  obtain ⟨va, vc, rfl, _, _⟩ := own_slice ho
  clear ho u IB5
  go_wp2_with fail
  obtain ⟨x43, hXA⟩ : ∃ XA, XA = x42.alloc (.cells #[.int .i64 0, .int .i64 2, .int .i64 1, .int .i64 3] 3 (0, 0)) := ⟨_, rfl⟩
  have IB := hid (show IntsBlk x43 x42.heap.size [0, 2, 1, 3] by rw [hXA]; exact heap_alloc_new)
  have u : Upd (fun _ => False) x42 x43 := by rw [hXA]; exact (Upd.refl _ _).alloc _
  have LU0 := hid u
  obtain ⟨pb44, hpb⟩ : ∃ x, x42.heap.size = x := ⟨_, rfl⟩
  rw [hpb] at IB
  rw [← hXA]
  try rw [hpb]
  clear hXA hpb
  replace UC := hid (UC.out.trans u)
  replace HH := hid (HH.out.keep u)
  replace HS := hid (HS.out.keep u)
  clear u
  refine (ints8_any _ (.slice (some ⟨pb44, 0, none⟩) 4 4) (sortedF smD [3, 2, 1, 0, 9]) [0, 2, 1, 3] (· < x43.heap.size) (· < x43.heap.size) _ (kInts.mono (ints_rep (ownsRow_upd OW.out (LU0.out) fun _ _ => id) (by rw [sm_sorted]; exact Small9.i64 (by decide))) fun g hg => hg.2) (lit_ints IB.out rfl (Small9.i64 (by decide)) (by decide)) (fun _ h => h) (fun _ h => h)).mono ?_
  rintro en x45 ⟨rfl, u⟩
  rw [sm_sorted, decide_eq_true rfl]
  replace UC := hid (UC.out.trans u)
  replace HH := hid (HH.out.keep u)
  replace HS := hid (HS.out.keep u)
  clear u OW IB LU0
  go_upto_region 16 with (fail)
  go_wp2_with fail
  refine (hmarks_any HS.out.his).mono ?_
  rintro en x46 ⟨v, rfl, ho, u⟩
  replace UC := hid (UC.out.trans u)
  replace HH := hid (HH.out.keep u)
  replace HS := hid (HS.out.keep u)
  have OW := hid ho
  obtain ⟨va, vc, rfl, _, _⟩ := own_slice ho
  clear ho u
  go_wp2_with fail
  obtain ⟨x47, hXA⟩ : ∃ XA, XA = x46.alloc (.cells #[.int .i64 0, .int .i64 1] 3 (0, 0)) := ⟨_, rfl⟩
  have IB := hid (show IntsBlk x47 x46.heap.size [0, 1] by rw [hXA]; exact heap_alloc_new)
  have u : Upd (fun _ => False) x46 x47 := by rw [hXA]; exact (Upd.refl _ _).alloc _
  have LU0 := hid u
  obtain ⟨pb48, hpb⟩ : ∃ x, x46.heap.size = x := ⟨_, rfl⟩
  rw [hpb] at IB
  rw [← hXA]
  try rw [hpb]
  clear hXA hpb
  replace UC := hid (UC.out.trans u)
  replace HH := hid (HH.out.keep u)
  replace HS := hid (HS.out.keep u)
  clear u
  refine (ints8_any _ (.slice (some ⟨pb48, 0, none⟩) 2 2) (marksF smS) [0, 1] (· < x47.heap.size) (· < x47.heap.size) _ (kInts.mono (ints_rep (ownsRow_upd OW.out (LU0.out) fun _ _ => id) (by rw [sm_smarks]; exact Small9.i64 (by decide))) fun g hg => hg.2) (lit_ints IB.out rfl (Small9.i64 (by decide)) (by decide)) (fun _ h => h) (fun _ h => h)).mono ?_
  rintro en x49 ⟨rfl, u⟩
  rw [sm_smarks, decide_eq_true rfl]
  replace UC := hid (UC.out.trans u)
  replace HH := hid (HH.out.keep u)
  replace HS := hid (HS.out.keep u)
  clear u OW IB LU0
  go_wp2_with fail
  refine (hbefore_any HH.out.his 0 3 (by decide) (by decide)).mono ?_
  rintro en xx ⟨rfl, rfl⟩
  rw [sm_level.2.1]
  go_wp2_with fail
  refine (hbefore_any HH.out.his 2 1 (by decide) (by decide)).mono ?_
  rintro en xx ⟨rfl, rfl⟩
  rw [sm_level.2.2]
  go_wp2_with fail
  refine (hjoin_any HH.out HS.out.his sm_hisS).mono ?_
  rintro en x50 ⟨rfl, OJ, q1, q2, q3⟩
  rw [sm_joinH.1]
  have HS2 := hid (HS.out.upd q3 DS.out HH.out.apart fun k hk => (HH.out.his.lt k hk).1)
  have DS2 := hid (show ∀ k, OS0 k → ¬ OJ k from fun k hk hk' => (q2 k hk').elim (DS.out k hk) fun z => by have := (HS.out.his.lt k hk).2; omega)
  replace HH := hid (show HPre x50 OJ Or4 b rb smH sm4.1 from HH.out.grown q3 q1 sm_joinH.2.1 q2)
  replace UC := hid (UC.out.comp q3 fun i hi e => by have := HW.out i e; omega)
  clear q1 q2 q3 HS DS HW
  go_wp2_with fail
  refine (hjoin_any HS2.out HH.out.his sm_joinH.2.1).mono ?_
  rintro en x51 ⟨rfl, OT, q1, q2, q3⟩
  rw [sm_joinT.1]
  have HH2 := hid (HH.out.upd q3 (fun k hk hk' => DS2.out k hk' hk) HS2.out.apart fun k hk => (HS2.out.his.lt k hk).1)
  have HT := hid (show HPre x51 OT Or4 b2 rb smT sm4.1 from HS2.out.grown q3 q1 sm_joinT.2.1 q2)
  replace UC := hid (UC.out.comp q3 fun i hi e => by have := HV.out i e; omega)
  clear q1 q2 q3 HS2 HH DS2 HV
  go_wp2_with fail
  refine (hsame_any HT.out.his HH2.out.his HT.out.plain HH2.out.plain (Nat.le_trans HT.out.few (by decide))).mono ?_
  rintro en x52 ⟨rfl, u⟩
  rw [decide_eq_true sm_same]
  replace UC := hid (UC.out.trans u)
  clear u
  go_wp2_with fail
  go_ret
  exact ⟨rfl, UC.out⟩
end Go.Proofs.YtalhmpggpjbeaaaGreatDoor
namespace Go.Proofs.YtalhmpggpjbeaaaGreatDoor
open Go.RowKit Go.Deep

theorem row_lt {w : World} {B : Nat} {v : Value} {n s : Nat} {e : TypeId} {xs : List Value} (h : w.ownsRow B e s v n xs) : ∀ g, v.ownBlock = some g → B ≤ g ∧ g < w.heap.size := by
  intro g hg
  rcases ownsRow_fits h with ⟨rfl, _⟩ | ⟨g', cap, rfl, h1, h2, _⟩
  · cases hg
  · cases hg; exact ⟨h1, h2⟩
/-- What stands between two rounds of a law: signatures and a history. -/
structure LawSt (w : World) (W0 : World) (O Or : Nat → Prop) (b r : Nat) (hs : Hs) (R : Rg) (B : Nat) (v : Value) (l : List Sg) : Prop where
  pre : HPre w O Or b r hs R
  sgs : SgsAt w B v l
  own : ∀ k, O k → W0.heap.size ≤ k
  apart : ∀ g, v.ownBlock = some g → ¬ O g
  upd : Upd (fun _ => False) W0 w
theorem LawSt.keep {w w' W0 : World} {O Or : Nat → Prop} {b r : Nat} {hs : Hs} {R : Rg} {B : Nat} {v : Value} {l : List Sg} (h : LawSt w W0 O Or b r hs R B v l) (u : Upd (fun _ => False) w w') : LawSt w' W0 O Or b r hs R B v l :=
  ⟨h.pre.keep u, ownsRow_upd h.sgs u fun _ _ => id, h.own, h.apart, h.upd.trans u⟩
theorem LawSt.grown {w w' W0 : World} {O Or O' : Nat → Prop} {b r : Nat} {hs h' : Hs} {R : Rg} {B : Nat} {v : Value} {l : List Sg} (h : LawSt w W0 O Or b r hs R B v l) (u : Upd O w w') (h1 : IsHis w' O' b r h') (h2 : His rdF R h') (hn : ∀ k, O' k → O k ∨ w.heap.size ≤ k) : LawSt w' W0 O' Or b r h' R B v l :=
  ⟨h.pre.grown u h1 h2 hn, ownsRow_upd h.sgs u h.apart, fun k hk => (hn k hk).elim (h.own k) fun q => Nat.le_trans h.upd.size q, fun g hg hk => (hn g hk).elim (h.apart g hg) fun q => by have := (row_lt h.sgs g hg).2; omega, h.upd.comp u fun i hi e => by have := h.own i e; omega⟩
theorem fewL_words {l : List Po} {n : Nat} (h : FewL l n) (hk : ∀ p ∈ l, PoOk p) : ∀ p ∈ l, (wordsF p).length ≤ 4000 := fun p hp => words_len ((h.2 p hp).2.wf (hk p hp).en) (Nat.le_trans (h.2 p hp).1 (by decide))
theorem pos_ok {A : Nat → Prop} {w : World} {v : Value} {l : List Po} (h : kPos.rep A w [v] l) : ∀ p ∈ l, PoOk p := by
  obtain ⟨a, cap, rfl, _, _, h3⟩ := slice_open h
  intro p hp
  obtain ⟨i, hi, rfl⟩ := List.getElem_of_mem hp
  obtain ⟨b, o, _, _, hel⟩ := h3 (Nat.lt_of_le_of_lt (Nat.zero_le _) hi)
  obtain ⟨_, _, _, _, _, _, q⟩ := po_at hel hi
  exact q.ok
/-- What a statement of layer 8 begins with: signatures of posts, and a ring. -/
structure LawIn (W0 w : World) (Or : Nat → Prop) (r : Nat) (v : Value) (l : List Po) : Prop where
  gnd : Gnd w Or r (signedF l).1
  sgs : SgsAt w W0.heap.size v (signedF l).2
  own : ∀ k, Or k → W0.heap.size ≤ k
  apart : ∀ g, v.ownBlock = some g → ¬ Or g
  small : ∀ s ∈ (signedF l).2, SgSmall s
  few : (signedF l).1.length ≤ 60
  len : (signedF l).2.length = l.length
  upd : Upd (fun _ => False) W0 w
theorem law_in {w0 w w' : World} {v vs : Value} {l : List Po} {n r : Nat} {Or : Nat → Prop} (E : Env w0) (hu : UsesIn w0) (hz : 6 ≤ w0.heap.size) (u0 : Upd (fun _ => False) w0 w) (h : kPos.rep (· < w.heap.size) w [v] l) (hf : FewL l n) (hn : n ≤ 60)
    (h1 : IsRing w' Or r (signedF l).1) (h2 : SgsAt w' w.heap.size vs (signedF l).2) (h3 : ∀ k, Or k → w.heap.size ≤ k) (h4 : ∀ g, vs.ownBlock = some g → ¬ Or g) (u : Upd (fun _ => False) w w') : LawIn w w' Or r vs l := by
  have hl := hf.1
  have hs := signed_len l
  exact ⟨⟨h1, E.keep0 (u0.trans u), hu.keep (u0.trans u), Nat.le_trans hz (Nat.le_trans u0.size u.size)⟩, h2, h3, h4, signed_small l (by omega) (fewL_words hf (pos_ok h)), by omega, hs.1, u⟩
end Go.Proofs.YtalhmpggpjbeaaaGreatDoor
