/- The walk of WireNests. -/
import Derived.Test.YtdnbbjcpjhkedaaDoorWrE1
namespace Go.Proofs.YtdnbbjcpjhkedaaDoor
open Go.RowKit Go.Deep

theorem parts_snoc (l : List Vl) (i : Nat) (h : i < l.length) : (l.take (i + 1)).map writeF = (l.take i).map writeF ++ [writeF l[i]] := by
  rw [List.take_succ_eq_append_getElem h, List.map_append]; rfl
theorem parts_len (l : List Vl) (h : ∀ v ∈ l, VlOk v ∧ FewV v) : ∀ x ∈ l.map writeF, x.length ≤ 200000 := by
  intro x hx
  obtain ⟨v, hv, rfl⟩ := List.mem_map.1 hx
  exact writeF_len (h v hv).1 (h v hv).2

set_option maxRecDepth 100000 in
set_option maxHeartbeats 4000000 in
theorem nests_walk (v : Value) (l : List Vl) (W : World) (E : Env W) (hz : 6 ≤ W.heap.size) (hl : (kSlice kVl).rep (· < W.heap.size) W [v] l) :
    Calls Tryd.prog 6 #[v] W fun e w' => e = .returned (.bool true) ∧ Below W.heap.size W w' := by
  suffices hs : Calls Tryd.prog 6 #[v] W fun e w' => e = .returned (.bool true) ∧ Upd (fun _ => False) W w' from hs.mono fun e w' h => ⟨h.1, h.2.below (Nat.le_refl _) fun _ h => h.elim⟩
  have HE := hid E; have HZ := hid hz; have HL := hid hl; have OK := hid (fun hf => vls_ok hl hf)
  obtain ⟨a, cap, rfl, h1, h2, _⟩ := slice_open hl
  have h2 : cap ≤ 9223372036854775807 := h2
  clear hl E hz
  go_enter Tryd.func6, Tryd.ntmps6
  go_wp2_with fail
  refine (small_any _ HE.out HZ.out).mono ?_
  rintro e w1 ⟨rfl, u⟩
  have U1 := hid u; clear u
  go_wp2_with fail
  refine (few_any _ l _ (rep_keep HL.out U1.out)).mono ?_
  rintro e w2 ⟨bx, rfl, hb, u⟩
  have U2 := hid (U1.out.trans u); clear u U1
  cases bx
  · clear hb
    go_wp2_with fail
    go_ret
    exact ⟨rfl, U2.out⟩
  have FW := hid (hb rfl)
  have OKV := hid (OK.out FW.out)
  clear hb OK
  go_wp2_with fail
  go_loopg [4, 5] l.length (fun gg s4 s5 wr => ∃ (i : Nat) (out : List (List UInt8)), i ≤ l.length ∧ gg = l.length - i ∧ out = (l.take i).map writeF ∧ s5 = .int .i64 i ∧ wr.ownsRow W.heap.size 9 1 s4 out.length (out.map fun x => .string ⟨x.toArray⟩) ∧ Upd (fun _ => False) W wr)
  case atStart => exact ⟨0, [], Nat.zero_le _, rfl, rfl, rfl, World.ownsRow_nil _ _ _ _, U2.out⟩
  case round =>
    obtain ⟨i, out, hi, hg, ho, rfl, hown, u⟩ := hrel
    have HG := hid hg; have HO := hid ho; have OWN := hid hown; have U := hid u
    clear hg ho hown u U2
    by_cases hlt : i < l.length
    · have hlti : (i : Int) < l.length := by omega
      obtain ⟨b, o, ra, hb, hel⟩ := slice_at HL.out (by omega)
      subst ra
      obtain ⟨a1, d1, a2, d2, ⟨g1, g2, g3, g4, _, _, g5, g6, g7⟩, c0, c1, c2, c3, c4⟩ := vl_cells hel hlt
      have c0 := cell_kept c0 (U.out.block b hb id)
      have c1 := cell_kept c1 (U.out.block b hb id)
      have c2 := cell_kept c2 (U.out.block b hb id)
      have c3 := cell_kept c3 (U.out.block b hb id)
      have c4 := cell_kept c4 (U.out.block b hb id)
      have HVI := hid g6; have HVT := hid g7
      have HW := hid (parts_snoc l i hlt)
      have hvok := OKV.out l[i] (List.getElem_mem hlt)
      have VOK := hid hvok
      have HOL := hid (show out.length ≤ 20 by have h1 := FW.out.1; rw [HO.out, List.length_map, List.length_take]; omega)
      clear hel g6 g7 g1 g2 g3 g4 g5 hvok
      generalize l[i] = x at *
      go_wp2_with fail
      refine (write_any x a1 a2 d1 d2 _ (HE.out.keep0 U.out) VOK.out.1 (rep_keep HVI.out U.out) (rep_keep HVT.out U.out)).mono ?_
      rintro e w3 ⟨rfl, u⟩
      have own3 := owns_set OWN.out u fun k hk => hk.elim
      have U3 := hid (U.out.trans u)
      have hsz := (U.out.trans u).size
      obtain ⟨v', w4, r4, o4, u4, n4⟩ := append_one elemS own3 #[.string ⟨(writeF x).toArray⟩] rfl (by simp [Value.oneCell']) (by have := HOL.out; unfold maxLen; omega) (by have := HOL.out; omega) hsz 23 (0, 0)
      have U4 := hid (U3.out.comp u4 fun i hi e => by have := (own3.lt i e).1; omega)
      have O4 := hid o4
      clear u own3 hsz o4 u4 n4 c0 c1 c2 c3 c4
      go_wp2_with (at_builtin; refine wpList_append_run rfl _ _ _ _ rfl rfl rfl r4 ?_)
      go_roundg (l.length - (i + 1))
      case measure => have := HG.out; omega
      case rel => exact ⟨i + 1, out ++ [writeF x], by omega, rfl, by rw [HW.out, HO.out], by go_num, by rw [List.length_append, List.map_append]; exact O4.out, U4.out⟩
    · obtain rfl : i = l.length := by omega
      have ho2 : out = l.map writeF := by rw [HO.out, List.take_length]
      have hlen : out.length = l.length := by rw [ho2, List.length_map]
      have hel : ∀ x ∈ out, x.length ≤ 200000 := by rw [ho2]; exact parts_len l OKV.out
      have hat : ∀ i (h : i < l.length) (h' : i < out.length), out[i] = writeF l[i] := fun i h h' => by subst ho2; rw [List.getElem_map]
      have hn : out.length ≤ 20 := by have := FW.out.1; omega
      have HLEN := hid hlen; have HEL := hid hel; have HAT := hid hat; have HN := hid hn
      have own := OWN.out
      have hrep := ownsRow_rep1 (K := (kMap kStr fun l : List UInt8 => ⟨l.toArray⟩)) (A := fun g => g < wr.heap.size) rfl (fun x => .string ⟨x.toArray⟩) own (fun x hx => strRep x (by have := HEL.out x hx; omega)) fun g hg => (own.lt g hg).2
      obtain ⟨pa, pc, e, q1, q2, _⟩ := slice_open hrep
      subst e
      have HP := hid hrep
      have hsum1 : (textsE out).length ≤ 5000000 := by have := textsE_len (l := out) (c := 200000) (by omega) (by omega) hel; omega
      have HS1 := hid hsum1
      have hT2 : textF ⟨textE (textsE out), false⟩ = (textsE out, ⟨[], false⟩) := by have := textF_mk (textsE out) [] false (by unfold I64; omega) rfl; rwa [List.append_nil] at this
      have HT2 := hid hT2
      have hT3 : itemsF textF ⟨textsE out, false⟩ = (out, ⟨[], false⟩) := by have := textsF_mk (l := out) (by unfold I64; omega) (fun x hx => by have := hel x hx; unfold I64; omega) []; rw [List.append_nil] at this; exact this
      have HT3 := hid hT3
      have hlen2 : (textE (textsE out)).length ≤ 10000000 := by have := textE_len (s := textsE out) (by omega); omega
      have HL2 := hid hlen2
      have q2 : pc ≤ 9223372036854775807 := q2
      clear ho2 hlen hel hat hn own hrep hsum1 hT2 hT3 hlen2 HO OWN
      go_wp2_with fail
      refine (textsE_any _ out _ (HE.out.keep0 U.out) HP.out (fun x hx => by have := HEL.out x hx; omega) (by have := HS1.out; have h4 : (listE textE out) = textsE out := rfl; rw [h4]; omega)).mono ?_
      rintro e w3 ⟨rfl, u⟩
      have U3 := hid (U.out.trans u)
      clear u U HP
      go_wp2_with fail
      refine (textE_any (textsE out) (by have := HS1.out; omega) _ (HE.out.keep0 U3.out)).mono ?_
      rintro e w4 ⟨rfl, u⟩
      have U4 := hid (U3.out.trans u)
      clear u U3
      go_wp2_with fail
      refine (open_any _ _).mono ?_
      rintro e w5 ⟨rfl, hr, u⟩
      have hb1 : W.heap.size ≤ w4.heap.size := U4.out.size
      have HR5 := hid hr; have U5 := hid (U4.out.trans u); have HB1 := hid (Nat.le_trans HZ.out U4.out.size)
      have hb5 := heap_lt hr
      clear hr u U4
      generalize w4.heap.size = rb at *
      clear w4
      go_wp2_with fail
      refine (textR_any rb _ _ (HE.out.keep0 U5.out) HR5.out HB1.out HL2.out).mono ?_
      rintro e w6 ⟨rfl, hr, u⟩
      rw [HT2.out] at hr ⊢
      dsimp only at hr ⊢
      have HR6 := hid hr; have U6 := hid (U5.out.comp u fun i hi e => by omega)
      have hb6 := heap_lt hr
      clear hr u U5 HR5
      go_wp2_with fail
      refine (open_any _ _).mono ?_
      rintro e w7 ⟨rfl, hr, u⟩
      have HR7 := hid hr; have U7 := hid (U6.out.trans u); have HR67 := hid (HR6.out.upd u id)
      have HB2 := hid (Nat.le_trans HZ.out U6.out.size)
      have hb2 : W.heap.size ≤ w6.heap.size := U6.out.size
      have hb7 := heap_lt hr
      clear hr u U6 HR6
      generalize w6.heap.size = rc at *
      clear w6
      go_wp2_with fail
      refine (done_any rb _ _ HR67.out).mono ?_
      rintro e w8 ⟨rfl, hw⟩
      subst hw
      rw [show doneF ⟨[], false⟩ = true from rfl]
      go_wp2_with fail
      refine (textsR_any rc _ _ (HE.out.keep0 U7.out) HR7.out HB2.out (by have := HS1.out; dsimp only; omega) (fun h => by cases h)).mono ?_
      rintro e w8 ⟨ga, gn, gc, rfl, hrep, hr, u⟩
      rw [HT3.out] at hrep hr
      dsimp only at hrep hr
      obtain ⟨_, _, e, q3, q4, _⟩ := slice_open hrep
      injection e with e1 e2 e3
      subst e1 e2 e3
      have HP := hid hrep; have HR8 := hid hr; have U8 := hid (U7.out.comp u fun i hi e => by omega)
      have q4 : gc ≤ 9223372036854775807 := q4
      clear hr u hrep U7 HR7
      have hne : ((out.length : Int) != l.length) = false := by rw [HLEN.out]; simp
      have hne2 : (out.length != l.length) = false := by rw [HLEN.out]; simp
      have hol : out.length = l.length := HLEN.out
      clear hol
      go_wp2_with fail
      refine (done_any rc _ _ HR8.out).mono ?_
      rintro e w9 ⟨rfl, hw⟩
      subst hw
      rw [show doneF ⟨[], false⟩ = true from rfl]
      go_wp2_with fail
      go_loopg [9, 10] l.length (fun gg s9 s10 wr => ∃ (i : Nat), i ≤ l.length ∧ gg = l.length - i ∧ s9 = .int .i64 i ∧ Upd (fun _ => False) W wr ∧ Upd (fun _ => False) w8 wr)
      case atStart => exact ⟨0, Nat.zero_le _, rfl, rfl, U8.out, Upd.refl _ _⟩
      case round =>
        obtain ⟨i, hi, hg, rfl, u, u8⟩ := hrel
        have HG := hid hg; have U := hid u; have UG := hid u8
        clear hg u u8
        by_cases hlt : i < l.length
        · have hlti : (i : Int) < l.length := by omega
          have hlto : i < out.length := by have := HLEN.out; omega
          have hltoi : (i : Int) < out.length := by omega
          obtain ⟨b, o, ra, hb, hel⟩ := slice_at HL.out (by omega)
          subst ra
          obtain ⟨b2, o2, ra2, hbb2, hel2⟩ := slice_at HP.out (by omega)
          subst ra2
          have cg := cell_kept (str_cells hel2 hlto) (UG.out.block b2 hbb2.2 id)
          rw [HAT.out i hlt hlto] at cg
          obtain ⟨a1, d1, a2, d2, ⟨g1, g2, g3, g4, _, _, g5, g6, g7⟩, c0, c1, c2, c3, c4⟩ := vl_cells hel hlt
          have c0 := cell_kept c0 (U.out.block b hb id)
          have c1 := cell_kept c1 (U.out.block b hb id)
          have c2 := cell_kept c2 (U.out.block b hb id)
          have c3 := cell_kept c3 (U.out.block b hb id)
          have c4 := cell_kept c4 (U.out.block b hb id)
          have hwl : W.heap.size ≤ wr.heap.size := U.out.size
          have keepL := hid fun wx (hx : Upd (fun _ => False) wr wx) => kInts.mono (A' := fun g => g < wx.heap.size ∧ g ≠ wr.heap.size) (kInts.keep g6 (Same.of_upd (U.out.trans hx) fun _ _ => id)) fun g hg => ⟨Nat.lt_of_lt_of_le hg (Nat.le_trans hwl hx.size), fun e => Nat.lt_irrefl _ (Nat.lt_of_lt_of_le (e ▸ hg) hwl)⟩
          have keepT := hid fun wx (hx : Upd (fun _ => False) wr wx) => kStrs.mono (A' := fun g => g < wx.heap.size ∧ g ≠ wr.heap.size) (kStrs.keep g7 (Same.of_upd (U.out.trans hx) fun _ _ => id)) fun g hg => ⟨Nat.lt_of_lt_of_le hg (Nat.le_trans hwl hx.size), fun e => Nat.lt_irrefl _ (Nat.lt_of_lt_of_le (e ▸ hg) hwl)⟩
          have hvok := OKV.out l[i] (List.getElem_mem hlt)
          have VOK := hid hvok
          have heq := equal_mk hvok.1 hvok.2 []
          rw [List.append_nil] at heq
          have EQ := hid heq
          have hle := writeF_len hvok.1 hvok.2
          have HLE := hid hle
          clear hel g6 g7 g1 g2 g3 g4 g5 hvok hle heq hel2 hbb2
          generalize l[i] = x at *
          go_wp2_with fail
          refine (open_any _ _).mono ?_
          rintro e w9 ⟨rfl, hr, u⟩
          have HB9 := hid (Nat.le_trans HZ.out hwl)
          have HR9 := hid hr; have U9 := hid u
          have c0 := cell_kept c0 (u.block b (World.block_lt_of_cell? _ _ c0) id)
          have c1 := cell_kept c1 (u.block b (World.block_lt_of_cell? _ _ c1) id)
          have c2 := cell_kept c2 (u.block b (World.block_lt_of_cell? _ _ c2) id)
          have c3 := cell_kept c3 (u.block b (World.block_lt_of_cell? _ _ c3) id)
          have c4 := cell_kept c4 (u.block b (World.block_lt_of_cell? _ _ c4) id)
          clear hr u cg
          go_wp2_with fail
          refine (equal_any wr.heap.size ⟨writeF x, false⟩ x a1 a2 d1 d2 _ (HE.out.keep0 (U.out.trans U9.out)) HR9.out HB9.out (by have := HLE.out; dsimp only; omega) (fun h => by cases h) VOK.out.1 (keepL.out _ U9.out) (keepT.out _ U9.out)).mono ?_
          rintro e w10 ⟨rfl, hr, u⟩
          rw [EQ.out] at hr ⊢
          have U10 := hid (U9.out.comp u fun i hi e => by omega)
          have HR10 := hid hr
          clear c0 c1 c2 c3 c4 u hr
          go_wp2_with fail
          refine (done_any _ _ _ HR10.out).mono ?_
          rintro e w11 ⟨rfl, hw⟩
          subst hw
          rw [show doneF ⟨[], false⟩ = true from rfl]
          go_wp2_with fail
          go_roundg (l.length - (i + 1))
          case measure => have := HG.out; omega
          case rel => exact ⟨i + 1, by omega, rfl, by go_num, U.out.trans U10.out, UG.out.trans U10.out⟩
        · obtain rfl : i = l.length := by omega
          go_wp2_with fail
          go_ret
          exact ⟨rfl, U.out⟩
end Go.Proofs.YtdnbbjcpjhkedaaDoor
