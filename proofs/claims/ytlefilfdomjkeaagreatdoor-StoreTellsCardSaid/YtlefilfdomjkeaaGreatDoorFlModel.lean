/- A plain model of a flash memory (layer 2). -/
namespace Go.Proofs.YtlefilfdomjkeaaGreatDoor

/-- A block of a flash: what its pages hold, and its wear. -/
structure Blk where
  page : Nat → Option ByteArray
  wear : Nat

/-- A flash. -/
structure Fl where
  blk : Nat → Blk
  nb : Nat
  np : Nat
  down : Bool
  lost : Int
  left : Int
  keep : Int

structure Fl.Ok (F : Fl) : Prop where
  nb : 1 ≤ F.nb ∧ F.nb ≤ 32
  np : 1 ≤ F.np ∧ F.np ≤ 16
  lost : 0 ≤ F.lost ∧ F.lost ≤ 9223372036854775807
  left : 0 ≤ F.left ∧ F.left ≤ 9223372036854775807
  wear : ∀ i, i < F.nb → (F.blk i).wear ≤ 1000

def Fl.setPage (F : Fl) (n g : Nat) (s : ByteArray) : Fl :=
  { F with blk := fun i => if i = n then { F.blk n with page := fun k => if k = g then some s else (F.blk n).page k } else F.blk i }

theorem Fl.setPage_ok {F : Fl} (h : F.Ok) (n g : Nat) (s : ByteArray) : (F.setPage n g s).Ok := by
  refine ⟨h.nb, h.np, h.lost, h.left, fun i hi => ?_⟩
  show (if i = n then _ else F.blk i : Blk).wear ≤ 1000
  split
  · rename_i e; subst e; exact h.wear i hi
  · exact h.wear i hi

/-- What 'at' answers. -/
def Fl.atErr (F : Fl) (b g : Int) : Int := if F.down then 8 else if b < 0 ∨ F.nb ≤ b ∨ g < 0 ∨ F.np ≤ g then 1 else 0

/-- A call is counted. -/
def Fl.tick (F : Fl) : Fl := if 0 < F.left then { F with left := F.left - 1, down := F.left - 1 == 0 } else F

theorem Fl.tick_ok {F : Fl} (h : F.Ok) : F.tick.Ok := by
  unfold Fl.tick
  split
  · have := h.left; exact ⟨h.nb, h.np, h.lost, ⟨by show 0 ≤ F.left - 1; omega, by show F.left - 1 ≤ _; omega⟩, h.wear⟩
  · exact h
theorem Fl.tick_blk (F : Fl) : F.tick.blk = F.blk ∧ F.tick.nb = F.nb ∧ F.tick.np = F.np ∧ F.tick.lost = F.lost ∧ F.tick.keep = F.keep := by
  unfold Fl.tick; split <;> exact ⟨rfl, rfl, rfl, rfl, rfl⟩

def Fl.start (F : Fl) : Fl := { F with down := false }
theorem Fl.start_ok {F : Fl} (h : F.Ok) : F.start.Ok := ⟨h.nb, h.np, h.lost, h.left, h.wear⟩
def Fl.arm (F : Fl) (n k : Int) : Fl := { F with left := max n 0, keep := k }
theorem Fl.arm_ok {F : Fl} (h : F.Ok) (n k : Int) (hn : n ≤ 9223372036854775807) : (F.arm n k).Ok := ⟨h.nb, h.np, h.lost, by show 0 ≤ max n 0 ∧ max n 0 ≤ 9223372036854775807; omega, h.wear⟩
def Fl.lose (F : Fl) (n : Int) : Fl := { F with lost := max n 0 }
theorem Fl.lose_ok {F : Fl} (h : F.Ok) (n : Int) (hn : n ≤ 9223372036854775807) : (F.lose n).Ok := ⟨h.nb, h.np, by show 0 ≤ max n 0 ∧ max n 0 ≤ 9223372036854775807; omega, h.left, h.wear⟩
def Fl.crash (F : Fl) : Fl := if F.down then F else { F with down := true, left := 0 }
theorem Fl.crash_ok {F : Fl} (h : F.Ok) : F.crash.Ok := by
  unfold Fl.crash
  split
  · exact h
  · exact ⟨h.nb, h.np, h.lost, ⟨Int.le_refl 0, by show (0 : Int) ≤ _; omega⟩, h.wear⟩
theorem Fl.atErr_zero {F : Fl} {b g : Int} (h : F.atErr b g = 0) : F.down = false ∧ 0 ≤ b ∧ b < F.nb ∧ 0 ≤ g ∧ g < F.np := by
  unfold Fl.atErr at h
  cases hd : F.down
  · rw [hd] at h
    simp only [Bool.false_eq_true, if_false] at h
    split at h
    · exact absurd h (by decide)
    · exact ⟨rfl, by omega, by omega, by omega, by omega⟩
  · rw [hd, if_pos rfl] at h; exact absurd h (by decide)
theorem Fl.atErr_ok {F : Fl} {b g : Int} (hd : F.down = false) (h1 : 0 ≤ b) (h2 : b < F.nb) (h3 : 0 ≤ g) (h4 : g < F.np) : F.atErr b g = 0 := by
  unfold Fl.atErr
  rw [hd, if_neg (by decide), if_neg (by omega)]

def Fl.read (F : Fl) (b g : Int) : ByteArray × Int :=
  if F.atErr b g = 0 then match (F.blk b.toNat).page g.toNat with | some s => (s, 0) | none => (ByteArray.empty, 4) else (ByteArray.empty, F.atErr b g)

def Fl.later (F : Fl) (n g : Nat) : Bool := (List.range (F.np - g)).any fun i => ((F.blk n).page (g + i)).isSome
def cut (F : Fl) (s : ByteArray) : ByteArray := s.extract 0 (min (max F.keep 0) s.size).toNat
def Fl.program (F : Fl) (b g : Int) (s : ByteArray) : Fl × Int :=
  if F.atErr b g ≠ 0 then (F, F.atErr b g) else
  if 64 < s.size then (F, 1) else
  if F.later b.toNat g.toNat then (F, 7) else
  if F.tick.down then (F.tick.setPage b.toNat g.toNat (cut F s), 8) else
  if 0 < F.lost then ({ F.tick with lost := F.lost - 1 }, 9) else (F.tick.setPage b.toNat g.toNat s, 0)

theorem later_false {F : Fl} {n g : Nat} (h : ∀ j, j < F.np - g → (F.blk n).page (g + j) = none) : F.later n g = false := by
  unfold Fl.later
  rw [List.any_eq_false]
  intro j hj
  rw [List.mem_range] at hj
  rw [h j hj]; decide
theorem later_true {F : Fl} {n g j : Nat} (h : j < F.np - g) {s : ByteArray} (hs : (F.blk n).page (g + j) = some s) : F.later n g = true := by
  unfold Fl.later
  rw [List.any_eq_true]
  exact ⟨j, by rw [List.mem_range]; exact h, by rw [hs]; rfl⟩

theorem Fl.lost_ok {F : Fl} (h : F.Ok) (h0 : 0 < F.lost) : ({ F.tick with lost := F.lost - 1 } : Fl).Ok := by
  have := h.lost
  have t := Fl.tick_ok h
  exact ⟨t.nb, t.np, by show 0 ≤ F.lost - 1 ∧ F.lost - 1 ≤ _; omega, t.left, t.wear⟩

def Fl.clear (F : Fl) (n m : Nat) : Fl :=
  { F with blk := fun i => if i = n then { F.blk n with page := fun k => if m ≤ k then none else (F.blk n).page k } else F.blk i }
def Fl.worn (F : Fl) (n : Nat) : Fl :=
  { F with blk := fun i => if i = n then { F.blk n with wear := (F.blk n).wear + 1 } else F.blk i }

theorem Fl.clear_wear (F : Fl) (n m i : Nat) : ((F.clear n m).blk i).wear = (F.blk i).wear := by
  unfold Fl.clear; dsimp only; split
  · rename_i e; subst e; rfl
  · rfl
theorem Fl.clear_ok {F : Fl} (h : F.Ok) (n m : Nat) : (F.clear n m).Ok :=
  ⟨h.nb, h.np, h.lost, h.left, fun i hi => by rw [F.clear_wear]; exact h.wear i hi⟩

def Fl.erase (F : Fl) (b : Int) : Fl × Int :=
  if F.atErr b 0 ≠ 0 then (F, F.atErr b 0) else
  if 1000 ≤ (F.blk b.toNat).wear then (F, 10) else
  if F.tick.down then ((F.tick.clear b.toNat (min (max F.keep 0) F.np).toNat).worn b.toNat, 8) else ((F.tick.clear b.toNat 0).worn b.toNat, 0)
def Fl.new (nb np : Nat) : Fl := { blk := fun _ => { page := fun _ => none, wear := 0 }, nb := nb, np := np, down := false, lost := 0, left := 0, keep := 0 }
theorem Fl.new_ok {nb np : Nat} (h1 : 1 ≤ nb ∧ nb ≤ 32) (h2 : 1 ≤ np ∧ np ≤ 16) : (Fl.new nb np).Ok :=
  ⟨h1, h2, ⟨Int.le_refl 0, by show (0 : Int) ≤ _; omega⟩, ⟨Int.le_refl 0, by show (0 : Int) ≤ _; omega⟩, fun _ _ => Nat.zero_le _⟩

def NewBad (b g : Int) : Prop := b < 1 ∨ 32 < b ∨ g < 1 ∨ 16 < g

/-- A page reads so. -/
def Fl.reads (F : Fl) (b g : Int) (s : ByteArray) : Bool := decide ((F.read b g).1 = s) && decide ((F.read b g).2 = 0)
/-- A page is erased. -/
def Fl.erased (F : Fl) (b g : Int) : Bool := decide ((F.read b g).1 = ByteArray.empty) && decide ((F.read b g).2 = 4)
theorem Fl.setPage_wear (F : Fl) (n g : Nat) (s : ByteArray) (j : Nat) : ((F.setPage n g s).blk j).wear = (F.blk j).wear := by
  unfold Fl.setPage; dsimp only; split
  · rename_i e; subst e; rfl
  · rfl
theorem Fl.worn_wear (F : Fl) (n j : Nat) : ((F.worn n).blk j).wear = (F.blk j).wear + if j = n then 1 else 0 := by
  unfold Fl.worn; dsimp only; split
  · rename_i e; subst e; rfl
  · rfl
theorem Fl.tick_wear (F : Fl) (j : Nat) : (F.tick.blk j).wear = (F.blk j).wear := by rw [F.tick_blk.1]

theorem Fl.program_wear (F : Fl) (b g : Int) (s : ByteArray) (j : Nat) : ((F.program b g s).1.blk j).wear = (F.blk j).wear := by
  unfold Fl.program
  split
  · rfl
  split
  · rfl
  split
  · rfl
  split
  · rw [Fl.setPage_wear, Fl.tick_wear]
  split
  · exact F.tick_wear j
  · rw [Fl.setPage_wear, Fl.tick_wear]
theorem Fl.program_size (F : Fl) (b g : Int) (s : ByteArray) : (F.program b g s).1.nb = F.nb ∧ (F.program b g s).1.np = F.np := by
  have h := F.tick_blk
  unfold Fl.program
  split
  · exact ⟨rfl, rfl⟩
  split
  · exact ⟨rfl, rfl⟩
  split
  · exact ⟨rfl, rfl⟩
  split
  · exact ⟨h.2.1, h.2.2.1⟩
  split
  · exact ⟨h.2.1, h.2.2.1⟩
  · exact ⟨h.2.1, h.2.2.1⟩
theorem Fl.erase_size (F : Fl) (b : Int) : (F.erase b).1.nb = F.nb ∧ (F.erase b).1.np = F.np := by
  have h := F.tick_blk
  unfold Fl.erase
  split
  · exact ⟨rfl, rfl⟩
  split
  · exact ⟨rfl, rfl⟩
  split
  · exact ⟨h.2.1, h.2.2.1⟩
  · exact ⟨h.2.1, h.2.2.1⟩
theorem Fl.erase_wear (F : Fl) (b : Int) (j : Nat) :
    ((F.erase b).1.blk j).wear = (F.blk j).wear + if (decide (0 ≤ b) && (decide (b < F.nb) && (decide ((F.erase b).2 = 0) || (!F.down && (F.erase b).1.down)))) = true ∧ j = b.toNat then 1 else 0 := by
  by_cases h0 : F.atErr b 0 = 0
  · obtain ⟨hd, h1, h2, _, _⟩ := Fl.atErr_zero h0
    have e : F.erase b = if 1000 ≤ (F.blk b.toNat).wear then (F, 10) else
        if F.tick.down then ((F.tick.clear b.toNat (min (max F.keep 0) F.np).toNat).worn b.toNat, 8) else ((F.tick.clear b.toNat 0).worn b.toNat, 0) := by
      unfold Fl.erase; rw [if_neg (by rw [h0]; exact fun h => h rfl)]
    rw [e]
    split
    · rw [hd]; simp
    split
    · rename_i ht
      rw [Fl.worn_wear, Fl.clear_wear, Fl.tick_wear]
      have : ((F.tick.clear b.toNat (min (max F.keep 0) F.np).toNat).worn b.toNat).down = true := ht
      simp [this, hd, h1, h2]
    · rw [Fl.worn_wear, Fl.clear_wear, Fl.tick_wear]
      simp [h1, h2]
  · have e : F.erase b = (F, F.atErr b 0) := by unfold Fl.erase; rw [if_pos h0]
    rw [e]
    simp [h0]

/-- A flash that is up, and in which nothing is armed. -/
structure Calm (F : Fl) : Prop where
  down : F.down = false
  left : F.left = 0
  lost : F.lost = 0

theorem Calm.tick {F : Fl} (h : Calm F) : F.tick = F := by unfold Fl.tick; rw [h.left]; rfl
theorem Calm.erase {F : Fl} (h : Calm F) (ok : F.Ok) {n : Nat} (hn : n < F.nb) (hw : (F.blk n).wear < 1000) : F.erase n = ((F.clear n 0).worn n, 0) := by
  have h1 := ok.np.1
  unfold Fl.erase
  rw [if_neg (by rw [Fl.atErr_ok h.down (by omega) (by omega) (by omega) (by omega)]; exact fun h => h rfl), if_neg (by simpa using hw), h.tick, if_neg (by rw [h.down]; decide)]
  rfl
theorem Calm.worn {F : Fl} (h : Calm F) (ok : F.Ok) {n : Nat} (hn : n < F.nb) (hw : 1000 ≤ (F.blk n).wear) : F.erase n = (F, 10) := by
  have h1 := ok.np.1
  unfold Fl.erase
  rw [if_neg (by rw [Fl.atErr_ok h.down (by omega) (by omega) (by omega) (by omega)]; exact fun h => h rfl), if_pos (by simpa using hw)]
theorem Calm.program {F : Fl} (h : Calm F) {n g : Nat} (hn : n < F.nb) (hg : g < F.np) (hp : ∀ k, g ≤ k → k < F.np → (F.blk n).page k = none) {s : ByteArray} (hs : s.size ≤ 64) :
    F.program n g s = (F.setPage n g s, 0) := by
  unfold Fl.program
  rw [if_neg (by rw [Fl.atErr_ok h.down (by omega) (by omega) (by omega) (by omega)]; exact fun h => h rfl), if_neg (by omega),
    if_neg (by rw [show F.later (n : Int).toNat (g : Int).toNat = false from later_false fun j hj => hp _ (by simp) (by simp at hj ⊢; omega)]; decide), h.tick, if_neg (by rw [h.down]; decide), if_neg (by rw [h.lost]; decide)]
  rfl
theorem Fl.clear_page (F : Fl) (n k : Nat) : ((F.clear n 0).blk n).page k = none := by
  unfold Fl.clear; dsimp only; rw [if_pos rfl]; dsimp only; rw [if_pos (Nat.zero_le _)]
theorem Fl.worn_page (F : Fl) (n j k : Nat) : ((F.worn n).blk j).page k = (F.blk j).page k := by
  unfold Fl.worn; dsimp only; split
  · rename_i e; subst e; rfl
  · rfl
theorem Fl.setPage_page (F : Fl) (n g : Nat) (s : ByteArray) : ((F.setPage n g s).blk n).page g = some s := by
  unfold Fl.setPage; dsimp only; rw [if_pos rfl]; dsimp only; rw [if_pos rfl]
theorem Fl.read_some {F : Fl} (hd : F.down = false) {n g : Nat} (hn : n < F.nb) (hg : g < F.np) {s : ByteArray} (h : (F.blk n).page g = some s) : F.read n g = (s, 0) := by
  unfold Fl.read
  rw [if_pos (Fl.atErr_ok hd (by omega) (by omega) (by omega) (by omega))]
  rw [Int.toNat_natCast, Int.toNat_natCast, h]
end Go.Proofs.YtlefilfdomjkeaaGreatDoor
