/- Walks: two histories with the same entries say the same (alike). -/
import Derived.Test.YtalhmpggpjbeaaaGreatDoorJ18
import Derived.Test.YtalhmpggpjbeaaaGreatDoorJ13
namespace Go.Proofs.YtalhmpggpjbeaaaGreatDoor
open Go.RowKit Go.Deep

theorem ints_index {g o n cap k : Nat} (hk : k < n) (hn : n ≤ cap) (hc : cap ≤ 9223372036854775807) (w : World) : (Instr.indexAt 31 (.slice (some ⟨g, o, none⟩) n cap) (.int .i64 k)).run Tryz.prog w = .ok (.pointer (some ⟨g, o + k, none⟩)) w := by
  have hki : (k : Int) < n := by omega
  unfold Instr.indexAt
  go_simp
theorem mark_i64 {R : Rg} {hs : Hs} (H : His rdF R hs) (hR : R.length ≤ 60) : ∀ x ∈ marksF hs, I64 x := fun x hx => by have := marks_small H hx; unfold I64; omega
theorem past_i64 {R : Rg} {hs : Hs} (H : His rdF R hs) (hR : R.length ≤ 60) (m : Int) : ∀ x ∈ pastF hs m, I64 x := fun x hx => by
  rw [mem_past H] at hx
  obtain ⟨i, _, hi, _⟩ := hx
  have := his_mark H (m := x) (by rw [hi]; rfl)
  unfold I64; omega
theorem down_i64 {R : Rg} {hs : Hs} (H : His rdF R hs) (hR : R.length ≤ 60) (ms : List Int) : ∀ x ∈ downL hs ms, I64 x := fun x hx => by
  unfold downL at hx
  rw [mem_marksP H] at hx
  obtain ⟨i, hi, _⟩ := hx
  have := his_mark H (m := x) (by rw [hi]; rfl)
  unfold I64; omega
end Go.Proofs.YtalhmpggpjbeaaaGreatDoor
