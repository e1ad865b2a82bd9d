/- sms.Done returns the message, if all of its parts have come. -/
import Derived.Test.YtabnniabofhihaaDoorSmBox
namespace Go.Proofs.YtabnniabofhihaaDoor
open Go.RowKit Go.Deep

theorem allB_succ (m : Ms) (k : Nat) : allB m (k + 1) = allB m k ++ (m.parts.lookup (k : Int)).getD [] := by
  unfold allB; rw [List.range_succ, List.map_append, List.flatten_append]; simp
theorem part_small {m : Ms} (h : MsOk m) (x : Int) : ((m.parts.lookup x).getD []).length ≤ 140 := by
  cases hx : m.parts.lookup x with
  | none => exact Nat.zero_le _
  | some b => exact (h.part _ (lookup_mem hx)).2.2
theorem allB_len {m : Ms} (h : MsOk m) : ∀ k, (allB m k).length ≤ 140 * k
  | 0 => Nat.le_refl _
  | k + 1 => by
    rw [allB_succ, List.length_append]
    have := allB_len h k
    have := part_small h (k : Int)
    omega
def DonePost (bx : Bx) (n : Int) (w : World) (e : Ending) (w' : World) : Prop :=
  e = .returned (.tuple #[.string ⟨(doneX bx n).1.toArray⟩, .bool (doneX bx n).2]) ∧ Upd (fun _ => False) w w'
set_option maxHeartbeats 1000000 in
theorem done_any' (b : Nat) (O : Nat → Prop) (bx : Bx) (n : Int) (w : World) (h : IsBox w O b bx) (hid0 : (Lit.int .i64 n).wf = true) :
    Calls Tryd.prog 16 #[.pointer (some ⟨b, 0, none⟩), .int .i64 n] w (DonePost bx n w) := by
  obtain ⟨bm, L, B, rfl⟩ := h
  obtain ⟨c0, cf⟩ := cells1 B.head
  have hget := B.map.get Tryd.underlying3 Tryd.underlying61 (zeroP w) hid0
  rw [ptr_look] at hget
  have hlk := bx_look L n
  cases hL : L.lookup n with
  | none =>
    rw [hL] at hget hlk
    have HF := hid (show doneX (bxOf L) n = ([], false) by unfold doneX; rw [hlk]; rfl)
    dsimp only [Option.map_none, Option.getD_none] at hget
    clear hlk B hL hid0
    go_enter Tryd.func16, Tryd.ntmps16
    go_wp2_with fail
    go_quiet (fail)
    go_wp2_with fail
    go_ret2
    exact ⟨by rw [HF.out]; rfl, (Upd.refl _ _).drewN _⟩
  | some e =>
    obtain ⟨p, q, m⟩ := e
    rw [hL] at hget hlk
    dsimp only [Option.map_some, Option.getD_some] at hget hlk
    have hM := B.ms _ (lookup_mem hL)
    have hok := ms_of B.ok hlk
    obtain ⟨m0, m1, mf⟩ := cells2 hM.head
    dsimp only at m0 m1
    have hlen0 := fun (w' : World) (u : Upd (fun _ => False) w w') => (hM.map.upd u id).len Tryd.underlying65 3
    have hsl : (strs m.parts).length = m.parts.length := by unfold strs; rw [List.length_map]
    rw [hsl] at hlen0
    have hlen := hlen0 w (Upd.refl _ _)
    have hlen1 := hlen0 w.drew (Upd.refl _ _).drew
    have HM := hid hM; have HOK := hid hok
    have hcnt := hok.few
    have hplt := heap_lt hM.head
    by_cases hfew : m.parts.length < m.count
    · have HF := hid (show doneX (bxOf L) n = ([], false) by unfold doneX; rw [hlk]; dsimp only; rw [if_pos hfew])
      have hfewi : (m.parts.length : Int) < m.count := by omega
      clear hlk B hL hid0 hM hok hlen0
      go_enter Tryd.func16, Tryd.ntmps16
      go_wp2_with fail
      go_region
      all_goals
        go_wp2_with fail
        go_ret2
        exact ⟨by rw [HF.out]; rfl, (Upd.refl _ _).drew⟩
    · have HF := hid (show doneX (bxOf L) n = (allB m m.count, true) by unfold doneX; rw [hlk]; dsimp only; rw [if_neg hfew])
      have hfewb : decide (m.parts.length < m.count) = false := decide_eq_false hfew
      have hfewi : decide ((m.parts.length : Int) < m.count) = false := decide_eq_false (by omega)
      clear hlk B hL hid0 hM hok hlen0
      go_enter Tryd.func16, Tryd.ntmps16
      go_upto_region 2 with (fail)
      go_cut [28] (fun s wx => s = .bool false ∧ Upd (fun _ => False) w wx)
      case first =>
        go_region
        all_goals
          go_wp2_with fail
          go_meet
          case rel => exact ⟨rfl, (Upd.refl _ _).drew⟩
      case rest =>
        obtain ⟨rfl, uc⟩ := hcut
        obtain ⟨w1, rfl⟩ : ∃ w1 : World, w1 = wc := ⟨_, rfl⟩
        have B0 := hid (Lib.fresh_isBuilder 72 5 w1)
        have bl0 : Below w1.heap.size w1 (w1.alloc (.cells #[.pointer none, .slice none 0 0] 72)) := (Below.refl _ _).alloc (Nat.le_refl _) _
        have UC := hid uc; have BL0 := hid bl0
        have k0 := cell_kept m0 ((uc.trans (upd_of_below bl0)).block p hplt id)
        have hp1 := Nat.lt_of_lt_of_le hplt uc.size
        clear uc bl0 c0 cf hget
        go_wp2_with fail
        go_loopg [33] m.count (fun gg s wr => ∃ k : Nat, k ≤ m.count ∧ gg = m.count - k ∧ s = .int .i64 k ∧ Lib.IsBuilder 72 5 w1.heap.size w1.heap.size (Lib.byteCells (allB m k)) wr ∧ Below w1.heap.size w1 wr)
        case atStart => exact ⟨0, Nat.zero_le _, rfl, rfl, B0.out, BL0.out⟩
        case round =>
          clear B0 BL0 k0
          obtain ⟨k, hk, hg, rfl, hb, bl⟩ := hrel
          have u := UC.out.trans (upd_of_below bl)
          have HG := hid hg; have BB := hid hb; have BL := hid bl; have HZ := hid bl.size; have U := hid u
          have k1 := cell_kept m1 (u.block p hplt id)
          clear hg hb bl u
          by_cases hlt : k < m.count
          · have hlti : (k : Int) < m.count := by omega
            have hgq := (HM.out.map.upd U.out id).get Tryd.underlying3 Tryd.underlying65 (zeroS wr) (x := (k : Int)) (iwf (by omega))
            rw [str_look] at hgq
            have hps := part_small HOK.out (k : Int)
            have hal := allB_len HOK.out k
            have HS := hid (allB_succ m k)
            have hv : ((m.parts.lookup (k : Int)).map fun b => Value.string ⟨b.toArray⟩).getD (.string ⟨#[]⟩) = .string ⟨((m.parts.lookup (k : Int)).getD []).toArray⟩ := by cases m.parts.lookup (k : Int) <;> rfl
            rw [hv] at hgq
            clear hv
            generalize (m.parts.lookup (k : Int)).getD [] = y at *
            have HPS := hid hps; have HAL := hid hal
            clear hps hal
            go_wp2_with fail
            refine (writeString_any w1.heap.size w1.heap.size (allB m k) y _ BB.out (by have := HAL.out; have := HPS.out; omega) HZ.out).mono ?_
            rintro e w4 ⟨rfl, hb, bl⟩
            have BB4 := hid hb; have BL4 := hid (BL.out.trans bl)
            clear hb bl
            go_wp2_with fail
            go_roundg (m.count - (k + 1))
            case measure => have := HG.out; omega
            case rel => exact ⟨k + 1, by omega, rfl, by go_num, by rw [HS.out]; exact BB4.out, BL4.out⟩
          · obtain rfl : k = m.count := by omega
            go_wp2_with fail
            refine (string_any w1.heap.size w1.heap.size _ _ BB.out HZ.out).mono ?_
            rintro e w3 ⟨rfl, bl⟩
            have U3 := hid (UC.out.trans (upd_of_below (BL.out.trans bl)))
            clear bl
            go_wp2_with fail
            go_ret2
            exact ⟨by rw [HF.out]; rfl, U3.out⟩
end Go.Proofs.YtabnniabofhihaaDoor
