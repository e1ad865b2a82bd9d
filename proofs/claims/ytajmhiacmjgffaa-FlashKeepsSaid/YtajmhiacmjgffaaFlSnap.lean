/- The walk of snap: the strings of all pages, and which are programmed. -/
import Derived.Test.YtajmhiacmjgffaaFlPlain
import Derived.Test.YtajmhiacmjgffaaFx
import Derived.Deep.LoopGhost
namespace Go.Proofs.Ytajmhiacmjgffaa
open Go.RowKit

theorem elemStr : ElemTy Try.prog 47 9 1 16 := .mk' Try.underlying47 (z := .string ByteArray.empty) (by kernel_rfl) (by rfl) (by decide)
theorem elemBool : ElemTy Try.prog 48 4 1 1 := .mk' Try.underlying48 (z := .bool false) (by kernel_rfl) (by rfl) (by decide)

/-- The strings of the first m pages. -/
def snapS (F : Fl) (np m : Nat) : List ByteArray := (List.range m).map fun j => (F.read ((j / np : Nat) : Int) ((j % np : Nat) : Int)).1
def snapB (F : Fl) (np m : Nat) : List Bool := (List.range m).map fun j => (F.read ((j / np : Nat) : Int) ((j % np : Nat) : Int)).2 == 0

theorem snapS_succ (F : Fl) (np m : Nat) : snapS F np (m + 1) = snapS F np m ++ [(F.read ((m / np : Nat) : Int) ((m % np : Nat) : Int)).1] := by
  unfold snapS; rw [List.range_succ, List.map_append]; rfl
theorem snapB_succ (F : Fl) (np m : Nat) : snapB F np (m + 1) = snapB F np m ++ [(F.read ((m / np : Nat) : Int) ((m % np : Nat) : Int)).2 == 0] := by
  unfold snapB; rw [List.range_succ, List.map_append]; rfl
theorem snapS_len (F : Fl) (np m : Nat) : (snapS F np m).length = m := by simp [snapS]
theorem snapB_len (F : Fl) (np m : Nat) : (snapB F np m).length = m := by simp [snapB]

structure SnapInv (w0 w : World) (p q : Nat) (F : Fl) (np : Nat) (v1 v2 : Value) (m : Nat) : Prop where
  s : w.ownsRow w0.heap.size 9 1 v1 m ((snapS F np m).map .string)
  b : w.ownsRow w0.heap.size 4 1 v2 m ((snapB F np m).map .bool)
  u : Upd (fun _ => False) w0 w
  ne : ∀ g, v1.ownBlock = some g → v2.ownBlock = some g → False
  fl : FlashAt w p q F

def SnapPost (w0 : World) (F : Fl) (nb np : Nat) (e : Ending) (w' : World) : Prop :=
  ∃ v1 v2, e = .returned (.tuple #[v1, v2]) ∧ (kSlice kBytes).rep (w0.heap.size ≤ ·) w' [v1] (snapS F np (nb * np)) ∧ (kSlice kBool).rep (w0.heap.size ≤ ·) w' [v2] (snapB F np (nb * np)) ∧ Upd (fun _ => False) w0 w'

theorem FlashAt.lt {w : World} {p q : Nat} {F : Fl} (h : FlashAt w p q F) : p < w.heap.size ∧ q < w.heap.size := by
  obtain ⟨cap, h1⟩ := h.head
  obtain ⟨cs, h2, _⟩ := h.rows
  exact ⟨heap_lt h1, heap_lt h2⟩

theorem SnapInv.step {w0 w : World} {p q np m : Nat} {F : Fl} {v1 v2 : Value} (h : SnapInv w0 w p q F np v1 v2 m) (hm : m < 1000) (h0 : FlashAt w0 p q F) (s : ByteArray) (x : Bool)
    (hs : (F.read ((m / np : Nat) : Int) ((m % np : Nat) : Int)).1 = s) (hx : ((F.read ((m / np : Nat) : Int) ((m % np : Nat) : Int)).2 == 0) = x) :
    ∃ v1' w1, (Builtin.append_ #[47, 47] 47 #[v1, .slice (some ⟨w.heap.size, 0, none⟩) 1 1]).run Try.prog (w.alloc (.cells #[.string s] 9 (0, 0))) = .ok v1' w1 ∧
    ∃ v2' w2, (Builtin.append_ #[48, 48] 48 #[v2, .slice (some ⟨w1.heap.size, 0, none⟩) 1 1]).run Try.prog (w1.alloc (.cells #[.bool x] 4 (0, 0))) = .ok v2' w2 ∧ SnapInv w0 w2 p q F np v1' v2' (m + 1) := by
  have hsz := h.u.size
  obtain ⟨v1', w1, r1, o1, u1, n1⟩ := append_one elemStr h.s #[.string s] rfl (by simp [Value.oneCell']) (by unfold maxLen; omega) (by omega) hsz 47 (0, 0)
  have hb1 : ∀ k, v1.ownBlock = some k → w0.heap.size ≤ k := fun k hk => (h.s.lt k hk).1
  have hb2 : ∀ k, v2.ownBlock = some k → w0.heap.size ≤ k := fun k hk => (h.b.lt k hk).1
  have b1 := ownsRow_upd h.b u1 (fun g hg hk => h.ne g hk hg)
  have hsz1 : w0.heap.size ≤ w1.heap.size := Nat.le_trans hsz u1.size
  obtain ⟨v2', w2, r2, o2, u2, n2⟩ := append_one elemBool b1 #[.bool x] rfl (by simp [Value.oneCell']) (by unfold maxLen; omega) (by omega) hsz1 48 (0, 0)
  have hne1 : ∀ g, v1'.ownBlock = some g → v2.ownBlock = some g → False := by
    intro g h1 h2
    rcases n1 with n1 | ⟨g', hg', hlt⟩
    · exact h.ne g (n1 ▸ h1) h2
    · rw [h1] at hg'; injection hg' with e; subst e
      have := (h.b.lt g h2).2; omega
  have hne : ∀ g, v1'.ownBlock = some g → v2'.ownBlock = some g → False := by
    intro g h1 h2
    rcases n2 with n2 | ⟨g', hg', hlt⟩
    · exact hne1 g h1 (n2 ▸ h2)
    · rw [h2] at hg'; injection hg' with e; subst e
      have := (o1.lt g h1).2; omega
  have o1' := ownsRow_upd o1 u2 (fun g hg hk => hne1 g hg hk)
  have uu : Upd (fun _ => False) w0 w2 := by
    refine ⟨u2.os.trans (u1.os.trans h.u.os), u2.tape.trans (u1.tape.trans h.u.tape), u2.output.trans (u1.output.trans h.u.output), Nat.le_trans hsz1 u2.size, fun k hk _ => ?_⟩
    rw [u2.block k (by omega) (fun hS => by have := hb2 k hS; omega), u1.block k (by omega) (fun hS => by have := hb1 k hS; omega)]
    exact h.u.block k hk id
  refine ⟨v1', w1, r1, v2', w2, r2, ?_, ?_, uu, hne, h0.upd uu id id (fun _ h => h.elim)⟩
  · rw [snapS_succ, List.map_append, hs]; exact o1'
  · rw [snapB_succ, List.map_append, hx]; exact o2

set_option maxHeartbeats 1000000 in
theorem snap_any (p q nb np : Nat) (w : World) (F : Fl) (h : FlashAt w p q F) (hnb : nb ≤ 32) (hnp : 1 ≤ np ∧ np ≤ 16) :
    Calls Try.prog 23 #[.pointer (some ⟨p, 0, none⟩), .int .i64 nb, .int .i64 np] w (SnapPost w F nb np) := by
  have i0 : SnapInv w w p q F np (.slice none 0 0) (.slice none 0 0) 0 := ⟨World.ownsRow_nil _ _ _ _, World.ownsRow_nil _ _ _ _, Upd.refl _ _, fun g hg => (by cases hg), h⟩
  have I0 := hid i0; clear i0
  have H0 := hid h; clear h
  have hnbi : (nb : Int) ≤ 32 := by omega
  have hnpi : (np : Int) ≤ 16 := by omega
  go_enter Try.func23, Try.ntmps23
  go_wp2_with fail
  go_loopg [8, 9, 10] nb (fun n v1 v2 i wx => ∃ k : Nat, k ≤ nb ∧ n = nb - k ∧ i = .int .i64 k ∧ SnapInv w wx p q F np v1 v2 (k * np))
  case atStart => exact ⟨0, Nat.zero_le _, rfl, rfl, by rw [Nat.zero_mul]; exact I0.out⟩
  case round =>
    obtain ⟨k, hk, hn, rfl, inv⟩ := hrel
    have INV := hid inv
    have HN := hid hn
    clear inv hn I0
    by_cases hlt : k < nb
    · go_wp2_with fail
      go_loopg [8, 9, 11] np (fun n v1 v2 j wx => ∃ m : Nat, m ≤ np ∧ n = np - m ∧ j = .int .i64 m ∧ SnapInv w wx p q F np v1 v2 (k * np + m))
      case atStart => exact ⟨0, Nat.zero_le _, rfl, rfl, INV.out⟩
      case round =>
        obtain ⟨m, hm, hn2, rfl, inv2⟩ := hrel
        have I2 := hid inv2
        have HN2 := hid hn2
        clear inv2 hn2
        by_cases hlt2 : m < np
        · go_wp2_with fail
          refine (read_any p q k m _ F I2.out.fl).mono ?_
          rintro e wy ⟨rfl, rfl⟩
          have hdiv : (k * np + m) / np = k := by rw [Nat.mul_comm, Nat.mul_add_div (by omega), Nat.div_eq_of_lt hlt2, Nat.add_zero]
          have hmod : (k * np + m) % np = m := by rw [Nat.mul_comm, Nat.mul_add_mod, Nat.mod_eq_of_lt hlt2]
          have hbound : k * np + m < 1000 := by
            have : k * np ≤ 31 * np := Nat.mul_le_mul_right _ (by omega)
            omega
          have HD := hid hdiv; have HM := hid hmod; have HB := hid hbound
          clear hdiv hmod hbound
          have hst := fun s x => I2.out.step HB.out H0.out s x
          rw [HD.out, HM.out] at hst
          generalize F.read k m = res at hst ⊢
          obtain ⟨s, er⟩ := res
          dsimp only at hst ⊢
          obtain ⟨v1', w1, r1, v2', w2, r2, i3⟩ := hst s (er == 0) rfl rfl
          have I3 := hid i3
          clear i3 hst
          go_wp2_with (at_builtin; first | refine wpList_append_run rfl _ _ _ _ rfl rfl rfl r1 ?_ | refine wpList_append_run rfl _ _ _ _ rfl rfl rfl r2 ?_)
          go_roundg (np - (m + 1))
          case measure => have := HN2.out; omega
          case rel => exact ⟨m + 1, by omega, rfl, by go_num, I3.out⟩
        · have hme : m = np := by omega
          have I4 := hid (hme ▸ I2.out)
          clear hme
          go_wp2_with fail
          go_roundg (nb - (k + 1))
          case measure => have := HN.out; omega
          case rel => exact ⟨k + 1, by omega, rfl, by go_num, by rw [Nat.add_mul, Nat.one_mul]; exact I4.out⟩
    · have hke : k = nb := by omega
      have I4 := hid (hke ▸ INV.out)
      clear hke
      go_wp2_with fail
      go_ret2
      refine ⟨_, _, rfl, ownsRow_rep1 (base := w.heap.size) (e := 9) rfl .string ?_ (fun x _ => rfl) (fun g hg => (I4.out.s.lt g hg).1), ownsRow_rep1 (base := w.heap.size) (e := 4) rfl .bool ?_ (fun x _ => rfl) (fun g hg => (I4.out.b.lt g hg).1), I4.out.u⟩
      · rw [snapS_len]; exact I4.out.s
      · rw [snapB_len]; exact I4.out.b
end Go.Proofs.Ytajmhiacmjgffaa
