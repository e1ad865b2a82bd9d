/- Plain laws of the model of a flash: what an operation does to the wear. -/
import Derived.Test.YtajmhiacmjgffaaFlCopy
namespace Go.Proofs.Ytajmhiacmjgffaa
open Go.RowKit

theorem Fl.setPage_wear (F : Fl) (n g : Nat) (s : ByteArray) (j : Nat) : ((F.setPage n g s).blk j).wear = (F.blk j).wear := by
  unfold Fl.setPage; dsimp only; split
  · rename_i e; subst e; rfl
  · rfl
theorem Fl.worn_wear (F : Fl) (n j : Nat) : ((F.worn n).blk j).wear = (F.blk j).wear + if j = n then 1 else 0 := by
  unfold Fl.worn; dsimp only; split
  · rename_i e; subst e; rfl
  · rfl
theorem Fl.tick_wear (F : Fl) (j : Nat) : (F.tick.blk j).wear = (F.blk j).wear := by rw [F.tick_blk.1]

theorem Fl.program_wear (F : Fl) (b g : Int) (s : ByteArray) (j : Nat) : ((F.program b g s).1.blk j).wear = (F.blk j).wear := by
  unfold Fl.program
  split
  · rfl
  split
  · rfl
  split
  · rfl
  split
  · rw [Fl.setPage_wear, Fl.tick_wear]
  split
  · exact F.tick_wear j
  · rw [Fl.setPage_wear, Fl.tick_wear]
theorem Fl.program_size (F : Fl) (b g : Int) (s : ByteArray) : (F.program b g s).1.nb = F.nb ∧ (F.program b g s).1.np = F.np := by
  have h := F.tick_blk
  unfold Fl.program
  split
  · exact ⟨rfl, rfl⟩
  split
  · exact ⟨rfl, rfl⟩
  split
  · exact ⟨rfl, rfl⟩
  split
  · exact ⟨h.2.1, h.2.2.1⟩
  split
  · exact ⟨h.2.1, h.2.2.1⟩
  · exact ⟨h.2.1, h.2.2.1⟩
theorem Fl.erase_size (F : Fl) (b : Int) : (F.erase b).1.nb = F.nb ∧ (F.erase b).1.np = F.np := by
  have h := F.tick_blk
  unfold Fl.erase
  split
  · exact ⟨rfl, rfl⟩
  split
  · exact ⟨rfl, rfl⟩
  split
  · exact ⟨h.2.1, h.2.2.1⟩
  · exact ⟨h.2.1, h.2.2.1⟩
theorem Fl.act_size (F : Fl) (o : OpM) : (F.act o).1.nb = F.nb ∧ (F.act o).1.np = F.np := by
  unfold Fl.act
  split
  · exact F.program_size _ _ _
  split
  · exact F.erase_size _
  split
  · exact ⟨rfl, rfl⟩
  split
  · exact ⟨rfl, rfl⟩
  split
  · unfold Fl.crash; dsimp only; split <;> exact ⟨rfl, rfl⟩
  split
  · exact ⟨rfl, rfl⟩
  · exact ⟨rfl, rfl⟩

/-- The erase is counted by the statement. -/
def counted (F G : Fl) (er : Int) (o : OpM) : Bool :=
  decide (o.kind = 1) && (decide (0 ≤ o.block) && (decide (o.block < F.nb) && (decide (er = 0) || (!F.down && G.down))))

theorem Fl.erase_wear (F : Fl) (b : Int) (j : Nat) :
    ((F.erase b).1.blk j).wear = (F.blk j).wear + if (decide (0 ≤ b) && (decide (b < F.nb) && (decide ((F.erase b).2 = 0) || (!F.down && (F.erase b).1.down)))) = true ∧ j = b.toNat then 1 else 0 := by
  by_cases h0 : F.atErr b 0 = 0
  · obtain ⟨hd, h1, h2, _, _⟩ := Fl.atErr_zero h0
    have e : F.erase b = if 1000 ≤ (F.blk b.toNat).wear then (F, 10) else
        if F.tick.down then ((F.tick.clear b.toNat (min (max F.keep 0) F.np).toNat).worn b.toNat, 8) else ((F.tick.clear b.toNat 0).worn b.toNat, 0) := by
      unfold Fl.erase; rw [if_neg (by rw [h0]; exact fun h => h rfl)]
    rw [e]
    split
    · rw [hd]; simp
    split
    · rename_i ht
      rw [Fl.worn_wear, Fl.clear_wear, Fl.tick_wear]
      have : ((F.tick.clear b.toNat (min (max F.keep 0) F.np).toNat).worn b.toNat).down = true := ht
      simp [this, hd, h1, h2]
    · rw [Fl.worn_wear, Fl.clear_wear, Fl.tick_wear]
      simp [h1, h2]
  · have e : F.erase b = (F, F.atErr b 0) := by unfold Fl.erase; rw [if_pos h0]
    rw [e]
    simp [h0]

theorem Fl.act_wear (F : Fl) (o : OpM) (j : Nat) : ((F.act o).1.blk j).wear = (F.blk j).wear + if counted F (F.act o).1 (F.act o).2 o = true ∧ j = o.block.toNat then 1 else 0 := by
  unfold counted
  by_cases h1 : o.kind = 1
  · have e : F.act o = F.erase o.block := by unfold Fl.act; rw [if_neg (by omega), if_pos h1]
    rw [e, Fl.erase_wear]
    simp [h1]
  · rw [if_neg (by simp [h1])]
    unfold Fl.act
    split
    · exact F.program_wear _ _ _ _
    split
    · rfl
    split
    · rfl
    split
    · unfold Fl.crash; dsimp only; split <;> rfl
    split
    · rfl
    · rfl

/-- A flash that is up, and in which nothing is armed. -/
structure Calm (F : Fl) : Prop where
  down : F.down = false
  left : F.left = 0
  lost : F.lost = 0

theorem Calm.tick {F : Fl} (h : Calm F) : F.tick = F := by unfold Fl.tick; rw [h.left]; rfl
theorem Calm.erase {F : Fl} (h : Calm F) (ok : F.Ok) {n : Nat} (hn : n < F.nb) (hw : (F.blk n).wear < 1000) : F.erase n = ((F.clear n 0).worn n, 0) := by
  have h1 := ok.np.1
  unfold Fl.erase
  rw [if_neg (by rw [Fl.atErr_ok h.down (by omega) (by omega) (by omega) (by omega)]; exact fun h => h rfl), if_neg (by simpa using hw), h.tick, if_neg (by rw [h.down]; decide)]
  rfl
theorem Calm.worn {F : Fl} (h : Calm F) (ok : F.Ok) {n : Nat} (hn : n < F.nb) (hw : 1000 ≤ (F.blk n).wear) : F.erase n = (F, 10) := by
  have h1 := ok.np.1
  unfold Fl.erase
  rw [if_neg (by rw [Fl.atErr_ok h.down (by omega) (by omega) (by omega) (by omega)]; exact fun h => h rfl), if_pos (by simpa using hw)]
theorem Calm.program {F : Fl} (h : Calm F) {n g : Nat} (hn : n < F.nb) (hg : g < F.np) (hp : ∀ k, g ≤ k → k < F.np → (F.blk n).page k = none) {s : ByteArray} (hs : s.size ≤ 64) :
    F.program n g s = (F.setPage n g s, 0) := by
  unfold Fl.program
  rw [if_neg (by rw [Fl.atErr_ok h.down (by omega) (by omega) (by omega) (by omega)]; exact fun h => h rfl), if_neg (by omega),
    if_neg (by rw [show F.later (n : Int).toNat (g : Int).toNat = false from later_false fun j hj => hp _ (by simp) (by simp at hj ⊢; omega)]; decide), h.tick, if_neg (by rw [h.down]; decide), if_neg (by rw [h.lost]; decide)]
  rfl
theorem Fl.clear_page (F : Fl) (n k : Nat) : ((F.clear n 0).blk n).page k = none := by
  unfold Fl.clear; dsimp only; rw [if_pos rfl]; dsimp only; rw [if_pos (Nat.zero_le _)]
theorem Fl.worn_page (F : Fl) (n j k : Nat) : ((F.worn n).blk j).page k = (F.blk j).page k := by
  unfold Fl.worn; dsimp only; split
  · rename_i e; subst e; rfl
  · rfl
theorem Fl.setPage_page (F : Fl) (n g : Nat) (s : ByteArray) : ((F.setPage n g s).blk n).page g = some s := by
  unfold Fl.setPage; dsimp only; rw [if_pos rfl]; dsimp only; rw [if_pos rfl]
theorem Fl.read_some {F : Fl} (hd : F.down = false) {n g : Nat} (hn : n < F.nb) (hg : g < F.np) {s : ByteArray} (h : (F.blk n).page g = some s) : F.read n g = (s, 0) := by
  unfold Fl.read
  rw [if_pos (Fl.atErr_ok hd (by omega) (by omega) (by omega) (by omega))]
  rw [Int.toNat_natCast, Int.toNat_natCast, h]
end Go.Proofs.Ytajmhiacmjgffaa
