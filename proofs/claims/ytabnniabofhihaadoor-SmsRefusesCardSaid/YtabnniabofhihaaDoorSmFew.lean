/- The statements' helper few. -/
import Derived.Test.YtabnniabofhihaaDoorSmSmall
namespace Go.Proofs.YtabnniabofhihaaDoor
open Go.RowKit Go.Deep

def FewS (l : List Bs) (n : Nat) : Prop := l.length ≤ n ∧ ∀ x ∈ l, x.length ≤ 200
def FewSPost (l : List Bs) (n : Nat) (w : World) (e : Ending) (w' : World) : Prop := ∃ b : Bool, e = .returned (.bool b) ∧ (b = true ↔ FewS l n) ∧ Upd (fun _ => False) w w'
theorem fewS_fin {l : List Bs} {n : Nat} {w w' : World} {b : Bool} (h : b = true ↔ FewS l n) (u : Upd (fun _ => False) w w') : FewSPost l n w (.returned (.bool b)) w' := ⟨b, rfl, h, u⟩
set_option maxRecDepth 100000 in
theorem fewS_any (v : Value) (l : List Bs) (n : Nat) (w : World) (hv : kStrs.rep (· < w.heap.size) w [v] l) (hn : n ≤ 1000) :
    Calls Tryd.prog 10 #[v, .int .i64 n] w (FewSPost l n w) := by
  obtain ⟨va, vc, rfl, hp1, hp2, _⟩ := slice_open hv
  have hp2 : vc ≤ 9223372036854775807 := hp2
  have HV := hid hv
  clear hv
  go_enter Tryd.func10, Tryd.ntmps10
  go_wp2_with fail
  go_loopg [5] (l.length + 1) (fun gg s5 wr => ∃ i : Nat, i ≤ l.length ∧ i ≤ n + 1 ∧ gg = l.length + 1 - i ∧ s5 = .int .i64 i ∧ (∀ j (h : j < l.length), j < i → l[j].length ≤ 200) ∧ Upd (fun _ => False) w wr)
  case atStart => exact ⟨0, Nat.zero_le _, Nat.zero_le _, rfl, rfl, fun j _ h => absurd h (Nat.not_lt_zero _), Upd.refl _ _⟩
  case round =>
    obtain ⟨i, hi, hin, hg, rfl, hall, u⟩ := hrel
    have HG := hid hg; have ALL := hid hall; have U := hid u
    clear hg hall u
    by_cases hlt : i < l.length
    · have hlti : (i : Int) < l.length := by omega
      by_cases hle : i ≤ n
      · have hlei : (i : Int) ≤ n := by omega
        obtain ⟨pb, po, ra, hpb, hel⟩ := slice_at HV.out (by omega)
        subst ra
        have c0 := cell_kept (str_cells hel hlt) (U.out.block pb hpb id)
        by_cases h2 : 200 < l[i].length
        · have h2i : (200 : Int) < l[i].length := by omega
          have W := hid (show ¬ FewS l n from fun h => by have := h.2 _ (List.getElem_mem hlt); omega)
          clear hel
          go_wp2_with fail
          go_ret
          exact fewS_fin ⟨fun h => (nomatch h), fun h => absurd h W.out⟩ U.out
        · have h2b : decide (200 < l[i].length) = false := decide_eq_false h2
          have h2i : decide ((200 : Int) < l[i].length) = false := decide_eq_false (by omega)
          have NXT := hid (show ∀ j (h : j < l.length), j < i + 1 → l[j].length ≤ 200 from fun j h hj => by
            by_cases hji : j < i
            · exact ALL.out j h hji
            · obtain rfl : j = i := by omega
              omega)
          clear hel h2
          go_wp2_with fail
          go_roundg (l.length + 1 - (i + 1))
          case measure => have := HG.out; omega
          case rel => exact ⟨i + 1, by omega, by omega, rfl, by go_num, NXT.out, U.out⟩
      · have hleb : decide (i ≤ n) = false := decide_eq_false hle
        have hlei : decide ((i : Int) ≤ n) = false := decide_eq_false (by omega)
        have hnl : decide (l.length ≤ n) = false := decide_eq_false (by omega)
        have hnli : decide ((l.length : Int) ≤ n) = false := decide_eq_false (by omega)
        have W := hid (show ¬ FewS l n from fun h => by have := h.1; omega)
        go_wp2_with fail
        go_ret
        exact fewS_fin ⟨fun h => (nomatch h), fun h => absurd h W.out⟩ U.out
    · obtain rfl : i = l.length := by omega
      by_cases hle : l.length ≤ n
      · have hlei : (l.length : Int) ≤ n := by omega
        have W := hid (show FewS l n from ⟨hle, fun x hx => by
          obtain ⟨j, hj, rfl⟩ := List.mem_iff_getElem.1 hx
          exact ALL.out j hj hj⟩)
        go_wp2_with fail
        go_ret
        exact fewS_fin ⟨fun _ => W.out, fun _ => rfl⟩ U.out
      · have hleb : decide (l.length ≤ n) = false := decide_eq_false hle
        have hlei : decide ((l.length : Int) ≤ n) = false := decide_eq_false (by omega)
        have W := hid (show ¬ FewS l n from fun h => hle h.1)
        clear hle
        go_wp2_with fail
        go_ret
        exact fewS_fin ⟨fun h => (nomatch h), fun h => absurd h W.out⟩ U.out
end Go.Proofs.YtabnniabofhihaaDoor
