/- Plain laws of the model of a flash: what an operation does to the pages. -/
import Derived.Test.YtajmhiacmjgffaaFlCopies
namespace Go.Proofs.Ytajmhiacmjgffaa
open Go.RowKit

def vS (o : Option ByteArray) : ByteArray := o.getD ByteArray.empty
def pv (F : Fl) (np j : Nat) : Option ByteArray := (F.blk (j / np)).page (j % np)

theorem read_start (F : Fl) (ok : F.Ok) {np nb j : Nat} (hnb : F.nb = nb) (hnp : F.np = np) (hj : j < nb * np) :
    F.start.read ((j / np : Nat) : Int) ((j % np : Nat) : Int) = (vS (pv F np j), if (pv F np j).isSome then 0 else 4) := by
  have h1 := ok.np.1
  have hnp0 : 0 < np := by omega
  have h2 : j / np < nb := Nat.div_lt_of_lt_mul (by rw [Nat.mul_comm]; exact hj)
  have h3 : j % np < np := Nat.mod_lt _ hnp0
  unfold pv
  generalize j / np = d at *
  generalize j % np = m at *
  unfold Fl.read
  rw [if_pos (Fl.atErr_ok rfl (by omega) (by show (d : Int) < (F.nb : Int); omega) (by omega) (by show (m : Int) < (F.np : Int); omega))]
  rw [Int.toNat_natCast, Int.toNat_natCast, show F.start.blk = F.blk from rfl]
  unfold vS
  cases (F.blk d).page m <;> rfl

theorem snapS_get (F : Fl) (ok : F.Ok) {np nb j : Nat} (hnb : F.nb = nb) (hnp : F.np = np) (hj : j < nb * np) (h : j < (snapS F.start np (nb * np)).length) : (snapS F.start np (nb * np))[j] = vS (pv F np j) := by
  simp only [snapS, List.getElem_map, List.getElem_range]
  rw [read_start F ok hnb hnp hj]
theorem snapB_get (F : Fl) (ok : F.Ok) {np nb j : Nat} (hnb : F.nb = nb) (hnp : F.np = np) (hj : j < nb * np) (h : j < (snapB F.start np (nb * np)).length) : (snapB F.start np (nb * np))[j] = (pv F np j).isSome := by
  simp only [snapB, List.getElem_map, List.getElem_range]
  rw [read_start F ok hnb hnp hj]
  cases (pv F np j).isSome <;> rfl

theorem setPage_pv (F : Fl) (n g : Nat) (s : ByteArray) (np j : Nat) : pv (F.setPage n g s) np j = if j / np = n ∧ j % np = g then some s else pv F np j := by
  unfold pv Fl.setPage
  dsimp only
  by_cases h1 : j / np = n
  · rw [if_pos h1]
    dsimp only
    by_cases h2 : j % np = g
    · rw [if_pos h2, if_pos ⟨h1, h2⟩]
    · rw [if_neg h2, if_neg fun h => h2 h.2, h1]
  · rw [if_neg h1, if_neg fun h => h1 h.1]
theorem clear_pv (F : Fl) (n m np j : Nat) : pv (F.clear n m) np j = if j / np = n ∧ m ≤ j % np then none else pv F np j := by
  unfold pv Fl.clear
  dsimp only
  by_cases h1 : j / np = n
  · rw [if_pos h1]
    dsimp only
    by_cases h2 : m ≤ j % np
    · rw [if_pos h2, if_pos ⟨h1, h2⟩]
    · rw [if_neg h2, if_neg fun h => h2 h.2, h1]
  · rw [if_neg h1, if_neg fun h => h1 h.1]
theorem worn_pv (F : Fl) (n np j : Nat) : pv (F.worn n) np j = pv F np j := by
  unfold pv; rw [Fl.worn_page]
theorem tick_pv (F : Fl) (np j : Nat) : pv F.tick np j = pv F np j := by
  unfold pv; rw [F.tick_blk.1]

/-- What the statement asks of page j: a is whether it was programmed, x its string; c and y the same afterwards. -/
structure KeepsOk (kind block page : Int) (S : ByteArray) (g : Int) (torn : Bool) (d m : Int) (x y : ByteArray) (a c : Bool) : Prop where
  prog : kind = 0 → d = block → m = page → (g = 0 ∨ torn = true) → a = false ∧ c = true ∧ (g = 0 → y = S) ∧ y.size ≤ S.size ∧ y = S.extract 0 y.size
  later : kind = 0 → d = block → page < m → g = 0 → a = false
  erase : kind = 1 → d = block → g = 0 → c = false
  rest : ¬ (kind = 0 ∧ d = block ∧ m = page ∧ (g = 0 ∨ torn = true)) → ¬ (kind = 1 ∧ d = block ∧ (g = 0 ∨ torn = true ∧ c = false)) → y = x ∧ c = a
  down : torn = true → g = 8

theorem cut_size (F : Fl) (s : ByteArray) : (cut F s).size ≤ s.size ∧ cut F s = s.extract 0 (cut F s).size := by
  unfold cut
  have h : (min (max F.keep 0) s.size).toNat ≤ s.size := by omega
  have e : (s.extract 0 (min (max F.keep 0) s.size).toNat).size = (min (max F.keep 0) s.size).toNat := by
    rw [ByteArray.size_extract]; omega
  exact ⟨by rw [e]; exact h, by rw [e]⟩

theorem no_later {F : Fl} {n g : Nat} (h : F.later n g = false) (k : Nat) (h1 : g ≤ k) (h2 : k < F.np) : (F.blk n).page k = none := by
  unfold Fl.later at h
  rw [List.any_eq_false] at h
  have := h (k - g) (by rw [List.mem_range]; omega)
  rw [show g + (k - g) = k from by omega] at this
  simpa using this

theorem keeps_act (F : Fl) (ok : F.Ok) (o : OpM) {np nb j : Nat} (hnb : F.nb = nb) (hnp : F.np = np) (hj : j < nb * np) :
    KeepsOk o.kind o.block o.page o.s (F.act o).2 (!F.down && ((F.act o).1.down && decide (o.kind < 2))) ((j / np : Nat) : Int) ((j % np : Nat) : Int) (vS (pv F np j)) (vS (pv (F.act o).1 np j)) (pv F np j).isSome (pv (F.act o).1 np j).isSome := by
  have hnp0 : 0 < np := by have := ok.np.1; omega
  have hd : j / np < nb := Nat.div_lt_of_lt_mul (by rw [Nat.mul_comm]; exact hj)
  have hm : j % np < np := Nat.mod_lt _ hnp0
  by_cases k0 : o.kind = 0
  · have e : F.act o = F.program o.block o.page o.s := by unfold Fl.act; rw [if_pos k0]
    rw [e, k0]
    by_cases ha : F.atErr o.block o.page = 0
    · obtain ⟨hdn, h1, h2, h3, h4⟩ := Fl.atErr_zero ha
      by_cases hs : 64 < o.s.size
      · have e1 : F.program o.block o.page o.s = (F, 1) := by unfold Fl.program; rw [if_neg (by rw [ha]; exact fun h => h rfl), if_pos hs]
        rw [e1]
        exact ⟨fun _ _ _ h => by rcases h with h | h <;> simp [hdn] at h, fun _ _ _ h => by simp at h, fun h => by simp at h, fun _ _ => ⟨rfl, rfl⟩, fun h => by simp [hdn] at h⟩
      by_cases hla : F.later o.block.toNat o.page.toNat = true
      · have e1 : F.program o.block o.page o.s = (F, 7) := by unfold Fl.program; rw [if_neg (by rw [ha]; exact fun h => h rfl), if_neg hs, if_pos hla]
        rw [e1]
        exact ⟨fun _ _ _ h => by rcases h with h | h <;> simp [hdn] at h, fun _ _ _ h => by simp at h, fun h => by simp at h, fun _ _ => ⟨rfl, rfl⟩, fun h => by simp [hdn] at h⟩
      have hlf : ∀ k, o.page.toNat ≤ k → k < np → (F.blk o.block.toNat).page k = none := fun k a b => no_later (by simpa using hla) k a (by omega)
      have hat : ∀ (x : ((j / np : Nat) : Int) = o.block) (y : o.page ≤ ((j % np : Nat) : Int)), pv F np j = none := fun x y => by
        unfold pv
        rw [show j / np = o.block.toNat by omega]
        exact hlf _ (by omega) hm
      by_cases ht : F.tick.down = true
      · have e1 : F.program o.block o.page o.s = (F.tick.setPage o.block.toNat o.page.toNat (cut F o.s), 8) := by
          unfold Fl.program; rw [if_neg (by rw [ha]; exact fun h => h rfl), if_neg hs, if_neg hla, if_pos ht]
        rw [e1]
        dsimp only
        rw [setPage_pv, tick_pv]
        refine ⟨fun _ x y _ => ?_, fun _ _ _ h => by simp at h, fun h => by simp at h, fun hn _ => ?_, fun _ => rfl⟩
        · rw [if_pos ⟨by omega, by omega⟩, hat x (by omega)]
          exact ⟨rfl, rfl, fun h => by simp at h, (cut_size F o.s).1, (cut_size F o.s).2⟩
        · rw [if_neg]
          · exact ⟨rfl, rfl⟩
          · rintro ⟨x, y⟩
            refine hn ⟨rfl, by omega, by omega, .inr ?_⟩
            rw [hdn]; simp
            exact ht
      have ht : F.tick.down = false := by simpa using ht
      by_cases hl : 0 < F.lost
      · have e1 : F.program o.block o.page o.s = ({ F.tick with lost := F.lost - 1 }, 9) := by
          unfold Fl.program; rw [if_neg (by rw [ha]; exact fun h => h rfl), if_neg hs, if_neg hla, if_neg (by rw [ht]; decide), if_pos hl]
        rw [e1]
        dsimp only
        have : pv { F.tick with lost := F.lost - 1 } np j = pv F np j := tick_pv F np j
        rw [this]
        exact ⟨fun _ _ _ h => by rcases h with h | h <;> simp [ht] at h, fun _ _ _ h => by simp at h, fun h => by simp at h, fun _ _ => ⟨rfl, rfl⟩, fun h => by simp [ht] at h⟩
      · have e1 : F.program o.block o.page o.s = (F.tick.setPage o.block.toNat o.page.toNat o.s, 0) := by
          unfold Fl.program; rw [if_neg (by rw [ha]; exact fun h => h rfl), if_neg hs, if_neg hla, if_neg (by rw [ht]; decide), if_neg hl]
        rw [e1]
        dsimp only
        rw [setPage_pv, tick_pv]
        have hdn2 : (F.tick.setPage o.block.toNat o.page.toNat o.s).down = false := ht
        refine ⟨fun _ x y _ => ?_, fun _ x y _ => ?_, fun h => by simp at h, fun hn _ => ?_, fun h => by rw [hdn2] at h; simp at h⟩
        · rw [if_pos ⟨by omega, by omega⟩, hat x (by omega)]
          exact ⟨rfl, rfl, fun _ => rfl, Nat.le_refl _, by show o.s = o.s.extract 0 o.s.size; simp⟩
        · rw [hat x (by omega)]; rfl
        · rw [if_neg]
          · exact ⟨rfl, rfl⟩
          · rintro ⟨x, y⟩
            exact hn ⟨rfl, by omega, by omega, .inl rfl⟩
    · have e1 : F.program o.block o.page o.s = (F, F.atErr o.block o.page) := by unfold Fl.program; rw [if_pos ha]
      rw [e1]
      exact ⟨fun _ _ _ h => by rcases h with h | h <;> simp_all, fun _ _ _ h => by simp_all, fun h => by simp at h, fun _ _ => ⟨rfl, rfl⟩, fun h => by simp_all⟩
  by_cases k1 : o.kind = 1
  · have e : F.act o = F.erase o.block := by unfold Fl.act; rw [if_neg k0, if_pos k1]
    rw [e, k1]
    by_cases ha : F.atErr o.block 0 = 0
    · obtain ⟨hdn, h1, h2, h3, h4⟩ := Fl.atErr_zero ha
      by_cases hw : 1000 ≤ (F.blk o.block.toNat).wear
      · have e1 : F.erase o.block = (F, 10) := by unfold Fl.erase; rw [if_neg (by rw [ha]; exact fun h => h rfl), if_pos hw]
        rw [e1]
        exact ⟨fun h => by simp at h, fun h => by simp at h, fun _ _ h => by simp at h, fun _ _ => ⟨rfl, rfl⟩, fun h => by simp [hdn] at h⟩
      by_cases ht : F.tick.down = true
      · have e1 : F.erase o.block = ((F.tick.clear o.block.toNat (min (max F.keep 0) F.np).toNat).worn o.block.toNat, 8) := by
          unfold Fl.erase; rw [if_neg (by rw [ha]; exact fun h => h rfl), if_neg hw, if_pos ht]
        rw [e1]
        dsimp only
        rw [worn_pv, clear_pv, tick_pv]
        refine ⟨fun h => by simp at h, fun h => by simp at h, fun _ _ h => by simp at h, fun _ hn => ?_, fun _ => rfl⟩
        split
        · rename_i hx
          rw [if_pos hx] at hn
          exact absurd ⟨rfl, by omega, .inr ⟨by rw [hdn]; simp; exact ht, rfl⟩⟩ hn
        · exact ⟨rfl, rfl⟩
      have ht : F.tick.down = false := by simpa using ht
      have e1 : F.erase o.block = ((F.tick.clear o.block.toNat 0).worn o.block.toNat, 0) := by
        unfold Fl.erase; rw [if_neg (by rw [ha]; exact fun h => h rfl), if_neg hw, if_neg (by rw [ht]; decide)]
      rw [e1]
      dsimp only
      rw [worn_pv, clear_pv, tick_pv]
      have hdn2 : ((F.tick.clear o.block.toNat 0).worn o.block.toNat).down = false := ht
      refine ⟨fun h => by simp at h, fun h => by simp at h, fun _ x _ => ?_, fun _ hn => ?_, fun h => by rw [hdn2] at h; simp at h⟩
      · rw [if_pos ⟨by omega, Nat.zero_le _⟩]; rfl
      · rw [if_neg]
        · exact ⟨rfl, rfl⟩
        · rintro ⟨x, _⟩
          exact hn ⟨rfl, by omega, .inl rfl⟩
    · have e1 : F.erase o.block = (F, F.atErr o.block 0) := by unfold Fl.erase; rw [if_pos ha]
      rw [e1]
      exact ⟨fun h => by simp at h, fun h => by simp at h, fun _ _ h => by simp_all, fun _ _ => ⟨rfl, rfl⟩, fun h => by simp_all⟩
  · have e : pv (F.act o).1 np j = pv F np j := by
      unfold Fl.act
      rw [if_neg k0, if_neg k1]
      split
      · rfl
      split
      · rfl
      split
      · unfold Fl.crash; dsimp only; split <;> rfl
      split
      · rfl
      · rfl
    have hk : o.kind < 2 → (F.act o).1 = F := fun h => by
      unfold Fl.act
      rw [if_neg k0, if_neg k1, if_neg (by omega), if_neg (by omega), if_neg (by omega), if_neg (by omega)]
    rw [e]
    refine ⟨fun h => absurd h k0, fun h => absurd h k0, fun h => absurd h k1, fun _ _ => ⟨rfl, rfl⟩, fun h => ?_⟩
    by_cases h2 : o.kind < 2
    · rw [hk h2] at h; simp at h; rw [h.1] at h; exact absurd h.2.1 (by decide)
    · simp [h2] at h
end Go.Proofs.Ytajmhiacmjgffaa
