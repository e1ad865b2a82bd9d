/- Walks: the reference's Norm, Count and Union. -/
import Derived.Test.YtdcahnkcnbhknaaGreatDoorEnRfB
namespace Go.Proofs.YtdcahnkcnbhknaaGreatDoor
open Go.RowKit Go.Deep

theorem normR_snoc (l : List Sp) (k : Nat) (hk : k < l.length) : normR (l.take (k + 1)) = if l[k].Ok then putA (normR (l.take k)) l[k] else normR (l.take k) := by
  unfold normR
  rw [List.take_succ_eq_append_getElem hk, List.foldl_append]
  rfl
theorem normR_ok (l : List Sp) : ∀ s ∈ normR l, s.Ok := by rw [normR_eq]; exact norm_ok l
theorem normR_len (l : List Sp) (k : Nat) : (normR (l.take k)).length ≤ k := by
  rw [normR_eq]
  exact Nat.le_trans (norm_len _) (List.length_take_le _ _)
set_option maxRecDepth 100000 in
set_option maxHeartbeats 8000000 in
theorem rnorm_any (A : Nat → Prop) (v : Value) (l : List Sp) (w : World) (hl : kSps.rep A w [v] l) (hlen : l.length ≤ 100000) :
    Calls Tryz.prog 30 #[v] w (SpsPost (normF l) w) := by
  obtain ⟨a, cap, rfl, p1, p2, p3⟩ := slice_open hl
  have p2 : cap ≤ 9223372036854775807 := p2
  have H := hid p3
  clear hl p3
  go_enter Tryz.func30, Tryz.ntmps30
  go_wp2_with fail
  go_loopg [3, 4] l.length (fun gg s3 s4 wr => ∃ k : Nat, k ≤ l.length ∧ gg = l.length - k ∧ s4 = .int .i64 k ∧ wr.ownsRow w.heap.size 39 3 s3 (normR (l.take k)).length (flatS (normR (l.take k))) ∧ Upd (fun _ => False) w wr)
  case atStart => exact ⟨0, Nat.zero_le _, rfl, rfl, World.ownsRow_nil _ _ _ _, Upd.refl _ _⟩
  case round =>
    obtain ⟨k, hk, hg, rfl, hown, u⟩ := hrel
    have HG := hid hg; have OWN := hid hown; have UU := hid u
    clear hg hown u
    by_cases hlt : k < l.length
    case neg =>
      obtain rfl : k = l.length := by omega
      have hlti : ¬ (l.length : Int) < l.length := by omega
      go_wp2_with fail
      go_ret
      have := OWN.out
      rw [List.take_length, normR_eq] at this
      exact ⟨_, rfl, this, UU.out⟩
    have hlti : (k : Int) < l.length := by omega
    have hk1 : (k : Int) + 1 ≤ 100001 := by omega
    obtain ⟨b, o, rfl, hb, hel⟩ := H.out (by omega)
    obtain ⟨wx, m0, m1, m2⟩ := sp_cells hel hlt
    have hbl : b < w.heap.size := World.block_lt_of_cell? _ _ m0
    have m0 := cell_kept m0 (UU.out.block b hbl id)
    have m1 := cell_kept m1 (UU.out.block b hbl id)
    have m2 := cell_kept m2 (UU.out.block b hbl id)
    have hsn := normR_snoc l k hlt
    have hok := normR_ok (l.take k)
    have hol := normR_len l k
    clear hel
    obtain ⟨x, hx⟩ : ∃ x, l[k] = x := ⟨_, rfl⟩
    obtain ⟨O, hO⟩ : ∃ O, normR (l.take k) = O := ⟨_, rfl⟩
    rw [hx] at m0 m1 m2 hsn wx
    rw [hO] at hsn hok hol
    have hown := OWN.out
    rw [hO] at hown
    have OW := hid hown; have OKO := hid hok; have SN := hid hsn; have WX := hid wx
    clear hx hO hsn hok hown OWN wx
    have hbr := Nat.lt_of_lt_of_le hbl UU.out.size
    by_cases ho : x.Ok
    case neg =>
      have HO := hid ho
      clear ho
      go_wp2_with fail
      refine (rvalid_any x _).mono ?_
      rintro en w1 ⟨rfl, u⟩
      rw [decide_eq_false HO.out]
      have U1 := hid (UU.out.trans u); have OW1 := hid (ownsRow_upd OW.out u fun _ _ => id)
      clear u m0 m1 m2
      go_wp2_with fail
      go_roundg (l.length - (k + 1))
      case measure => have := HG.out; omega
      case rel => exact ⟨k + 1, by omega, rfl, by go_num, by rw [SN.out, if_neg HO.out]; exact OW1.out, U1.out⟩
    have HO := hid ho
    clear ho
    go_wp2_with fail
    refine (rvalid_any x _).mono ?_
    rintro en w1 ⟨rfl, u⟩
    rw [decide_eq_true HO.out]
    have m0 := cell_kept m0 (u.block b hbr id)
    have m1 := cell_kept m1 (u.block b hbr id)
    have m2 := cell_kept m2 (u.block b hbr id)
    have U1 := hid (UU.out.trans u); have OW1 := hid (ownsRow_upd OW.out u fun _ _ => id)
    have hrep := hid (sps_own_rep (A := fun _ => True) OW1.out (fun s hs => ok_wf (OKO.out s hs)) fun _ _ => trivial)
    clear u
    go_wp2_with fail
    refine (put_any _ _ O x _ hrep.out (by omega) WX.out).mono ?_
    rintro en w2 ⟨v2, rfl, hown, u⟩
    have U2 := hid (U1.out.trans u); have OW2 := hid (own_base hown U1.out.size)
    clear hown u m0 m1 m2
    go_wp2_with fail
    go_roundg (l.length - (k + 1))
    case measure => have := HG.out; omega
    case rel => exact ⟨k + 1, by omega, rfl, by go_num, by rw [SN.out, if_pos HO.out]; exact OW2.out, U2.out⟩
set_option maxRecDepth 100000 in
set_option maxHeartbeats 4000000 in
theorem rcount_any (A : Nat → Prop) (v : Value) (l : List Sp) (w : World) (hl : kSps.rep A w [v] l) (hlen : l.length ≤ 100000) :
    Calls Tryz.prog 32 #[v] w fun e w' => e = .returned (.int .i64 (countF l)) ∧ Upd (fun _ => False) w w' := by
  have HL := hid hl
  clear hl
  go_enter Tryz.func32, Tryz.ntmps32
  go_wp2_with fail
  refine (rnorm_any A v l w HL.out hlen).mono ?_
  rintro e w1 ⟨v1, rfl, hown, u⟩
  obtain ⟨r, hr⟩ : ∃ r, normF l = r := ⟨_, rfl⟩
  have hok : ∀ s ∈ r, s.Ok := by rw [← hr]; exact norm_ok l
  have hrl : r.length ≤ 100000 := by rw [← hr]; exact Nat.le_trans (norm_len l) hlen
  have HF := hid (show spanSum r = countF l by rw [← hr]; rfl)
  rw [hr] at hown
  obtain ⟨a, c, rfl, _, _, hcell⟩ := own_cells hown
  have HC := hid hcell; have U := hid u; have OK := hid hok
  clear hr hown u hcell hok
  go_wp2_with fail
  go_loopg [3, 5] r.length (fun gg s3 s5 wr => ∃ k : Nat, k ≤ r.length ∧ gg = r.length - k ∧ s5 = .int .i64 k ∧ s3 = .int .i64 (spanSum (r.take k)) ∧ Upd (fun _ => False) w1 wr)
  case atStart => exact ⟨0, Nat.zero_le _, rfl, rfl, rfl, Upd.refl _ _⟩
  case round =>
    obtain ⟨k, hk, hg, rfl, rfl, u⟩ := hrel
    have HG := hid hg; have UU := hid u
    have hsr := sum_range OK.out k
    have htl : (r.take k).length ≤ k := List.length_take_le _ _
    clear hg u
    by_cases hlt : k < r.length
    · have hlti : (k : Int) < r.length := by omega
      obtain ⟨g, rfl, hbg, hgw, m0, m1, m2⟩ := HC.out k hlt
      have m1 := cell_kept m1 (UU.out.block g hgw id)
      have m2 := cell_kept m2 (UU.out.block g hgw id)
      have hst := sum_take k hlt
      have hx0 := OK.out _ (List.getElem_mem hlt)
      obtain ⟨x, hx⟩ : ∃ x, r[k] = x := ⟨_, rfl⟩
      rw [hx] at m1 m2 hst hx0
      have HST := hid hst
      have hx1 : 0 ≤ x.fr := hx0.2.2.1
      have hx2 : x.fr < x.to := hx0.2.2.2.1
      have hx3 : x.to ≤ 1048576 := hx0.2.2.2.2
      have hgwr : g < wr.heap.size := Nat.lt_of_lt_of_le hgw UU.out.size
      obtain ⟨S, hS⟩ : ∃ S, spanSum (r.take k) = S := ⟨_, rfl⟩
      rw [hS] at hsr ⊢
      have HS := hid hS
      have hs0 := hsr.1
      have hs1 : S ≤ 104857600000 := by omega
      have e1 : IntKind.i64.wrap (S + x.to) = S + x.to := IntWalk.i64_in _ (by omega)
      have e2 : IntKind.i64.wrap (S + x.to - x.fr) = S + x.to - x.fr := IntWalk.i64_in _ (by omega)
      have hk1 : (k : Int) + 1 ≤ 100001 := by omega
      clear hst hx hx0 hS hsr m0
      go_wp2_with fail
      go_quiet (fail)
      clear e1 e2
      go_wp2_with fail
      go_roundg (r.length - (k + 1))
      case measure => have := HG.out; omega
      case rel => exact ⟨k + 1, by omega, rfl, by go_num, by rw [HST.out, HS.out]; go_num, UU.out.drewN _⟩
    · obtain rfl : k = r.length := by omega
      have HS := hid (show spanSum (r.take r.length) = countF l by rw [List.take_length]; exact HF.out)
      clear hsr htl
      go_wp2_with fail
      go_ret
      exact ⟨by rw [HS.out]; rfl, U.out.trans UU.out⟩
theorem own_empty (w : World) : (w.alloc (.cells #[] 39 (0, 0))).ownsRow w.heap.size 39 3 (.slice (some ⟨w.heap.size, 0, none⟩) 0 0) 0 [] :=
  ⟨rfl, .inr ⟨_, 0, #[], rfl, Nat.le_refl _, heap_alloc_new, Nat.le_refl _, Nat.zero_le _, rfl, rfl⟩⟩
set_option maxRecDepth 100000 in
set_option maxHeartbeats 4000000 in
theorem runion_any (a1 a2 : Option Addr) (c1 c2 : Nat) (l1 l2 : List Sp) (w : World) (h1 : kSps.rep (· < w.heap.size) w [.slice a1 l1.length c1] l1) (h2 : kSps.rep (· < w.heap.size) w [.slice a2 l2.length c2] l2)
    (hl1 : l1.length ≤ 10000) (hl2 : l2.length ≤ 10000) : Calls Tryz.prog 36 #[.slice a1 l1.length c1, .slice a2 l2.length c2] w (SpsPost (unionF l1 l2) w) := by
  have wf : ∀ s ∈ l1 ++ l2, SpWf s := fun s hs => (List.mem_append.1 hs).elim (sps_wf h1 s) (sps_wf h2 s)
  have hA : (l1 ++ l2).length ≤ 100000 := by rw [List.length_append]; omega
  have u0 : Upd (w.heap.size ≤ ·) w (w.alloc (.cells #[] 39 (0, 0))) := (Upd.refl _ _).alloc _
  have off : ∀ {w' : World}, Upd (w.heap.size ≤ ·) w w' → Same (· < w.heap.size) w w' := fun u => Same.of_upd u fun g hg hh => absurd hg (Nat.not_lt_of_le hh)
  obtain ⟨v1, w1, r1, o1, g1⟩ := append_src (own_empty w) a1 c1 l1 (kSps.keep h1 (off u0)) (by omega) u0.size
  have u1 := u0.grown g1 fun k hk => .inl ((own_empty w).lt k hk).1
  obtain ⟨v2, w2, r2, o2, g2⟩ := append_src o1 a2 c2 l2 (kSps.keep h2 (off u1)) (by omega) u1.size
  have hlt := o1.lt
  have u2 := u1.grown g2 fun k hk => .inl (hlt k hk).1
  have o2 : w2.ownsRow w.heap.size 39 3 v2 (l1 ++ l2).length (flatS (l1 ++ l2)) := by
    have := o2
    rw [List.nil_append, ← flatS_append, Nat.zero_add, ← List.length_append] at this
    exact this
  have U2 := hid (show Upd (fun _ => False) w w2 from (Upd.refl (fun _ => False) w).comp u2 fun i hi e => by omega)
  have HR := hid (sps_own_rep (A := fun _ => True) o2 wf fun _ _ => trivial)
  clear h1 h2 wf u0 off o1 g1 u1 o2 g2 hlt u2
  go_enter Tryz.func36, Tryz.ntmps36
  go_wp2_with (at_builtin; first | refine wpList_append_run rfl _ _ _ _ rfl rfl rfl r1 ?_ | refine wpList_append_run rfl _ _ _ _ rfl rfl rfl r2 ?_)
  refine (rnorm_any _ v2 (l1 ++ l2) _ HR.out hA).mono ?_
  rintro e w3 ⟨v3, rfl, hown, u⟩
  have HO := hid (show w3.ownsRow w.heap.size 39 3 v3 (unionF l1 l2).length (flatS (unionF l1 l2)) from own_base hown U2.out.size)
  have U3 := hid (U2.out.trans u)
  clear hown u
  go_wp2_with fail
  go_ret
  exact ⟨_, rfl, HO.out, U3.out⟩
end Go.Proofs.YtdcahnkcnbhknaaGreatDoor
