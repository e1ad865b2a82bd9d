/- Plain laws of the two loops that append a record: its pages' texts one after the other; their writing. -/
/- Walk: a record is appended. -/
import Derived.Test.YtlefilfdomjkeaaGreatDoorStLive
import Derived.Test.YtlefilfdomjkeaaGreatDoorStJ
import Derived.Test.YtlefilfdomjkeaaGreatDoorStG
namespace Go.Proofs.YtlefilfdomjkeaaGreatDoor
open Go

/-- Texts l are made; the next piece begins at byte f; n more may come. -/
structure PieceAt (S : St) (r : List UInt8) (l : List (List UInt8)) (n f : Nat) : Prop where
  all : (recP S r).map txtP = l ++ (piecesP S r n l.length f).map txtP
  le : f ≤ r.length
  near : l.length ≤ f ∨ r.length ≤ f
  fuel : f < r.length → r.length - f < n
  first : l.length = 0 → 0 < n
theorem pieceAt_zero (S : St) (r : List UInt8) : PieceAt S r [] (r.length + 1) 0 := ⟨rfl, Nat.zero_le _, .inl (Nat.zero_le _), fun _ => by omega, fun _ => by omega⟩
theorem PieceAt.done {S : St} {r : List UInt8} {l : List (List UInt8)} {n f : Nat} (h : PieceAt S r l n f) (h1 : ¬ f < r.length) (h2 : l.length ≠ 0) : (recP S r).map txtP = l := by
  have e : piecesP S r n l.length f = [] := by
    cases n with
    | zero => rfl
    | succ n => rw [piecesP, if_neg (by rintro (h | h); exact h1 h; exact h2 h)]
  rw [h.all, e]
  simp
theorem PieceAt.next {S : St} {r : List UInt8} {l : List (List UInt8)} {n f : Nat} (h : PieceAt S r l n f) (hs : S.Small r) (hc : f < r.length ∨ l.length = 0) :
    l.length ≤ f ∧ ∃ n', n = n' + 1 ∧ PieceAt S r (l ++ [txtP (pieceP S r l.length f)]) n' (f + (pieceP S r l.length f).bytes.length) ∧ f + (pieceP S r l.length f).bytes.length ≤ r.length := by
  have hlf : l.length ≤ f := by rcases hc with hc | hc <;> rcases h.near with h | h <;> omega
  obtain ⟨_, e2⟩ := piece_len hs h.le hlf
  have hr := head_room hs h.le hlf
  have hn : 0 < n := by
    rcases hc with hc | hc
    · have := h.fuel hc; omega
    · exact h.first hc
  obtain ⟨n', rfl⟩ : ∃ n', n = n' + 1 := ⟨n - 1, by omega⟩
  have hle := h.le
  refine ⟨hlf, n', rfl, ⟨?_, by omega, ?_, ?_, ?_⟩, by omega⟩
  · rw [h.all, piecesP, if_pos hc, List.length_append]
    simp
  · rw [List.length_append]
    simp only [List.length_singleton]
    rcases hc with hc | hc <;> omega
  · intro h1
    rcases hc with hc | hc
    · have := h.fuel hc; omega
    · have := h.fuel (by omega); omega
  · intro h0
    simp at h0
theorem pieceAt_len {S : St} {r : List UInt8} {l : List (List UInt8)} {n f : Nat} (h : PieceAt S r l n f) (hs : S.Small r) : l.length * 16 ≤ r.length + 16 := by
  have h1 := congrArg List.length h.all
  have h2 := rec_count hs
  rw [List.length_map, List.length_append] at h1
  omega
theorem rec_texts {S : St} {r : List UInt8} (hs : S.Small r) : ∀ t ∈ (recP S r).map txtP, t.length ≤ 1000000 := by
  intro t ht
  obtain ⟨p, hp, rfl⟩ := List.mem_map.1 ht
  obtain ⟨g, _⟩ := rec_all hs p hp
  have h1 := hdr_len (p := p) (Nat.le_trans g.kind (by decide)) g.pos g.number g.diff g.offset g.rest
  have h2 := g.form.2.2
  unfold txtP
  rw [List.length_append]
  unfold roomP at h2
  split at h2 <;> omega
theorem rec_pos {S : St} {r : List UInt8} (hs : S.Small r) : 0 < ((recP S r).map txtP).length := by
  rw [List.length_map]
  exact List.length_pos_iff.2 (att_ne (rec_att hs))

theorem piece_take (S : St) (r : List UInt8) (i f : Nat) : (r.drop f).take (pieceP S r i f).bytes.length = (pieceP S r i f).bytes := by
  show (r.drop f).take ((r.drop f).take _).length = (r.drop f).take _
  rw [List.length_take]
  by_cases hx : (roomP (headP S r i f)).toNat ≤ (r.drop f).length
  · rw [Nat.min_eq_left hx]
  · rw [Nat.min_eq_right (by omega), List.take_length, List.take_of_length_le (by omega)]
/-! ## Writing -/
theorem program_up {F : Fl} {b g : Int} {s : ByteArray} (h : (F.program b g s).2 = 0) : (F.program b g s).1.down = false := by
  revert h
  unfold Fl.program
  split
  · rename_i h; intro e; exact absurd e h
  · split
    · intro e; cases e
    · split
      · intro e; cases e
      · split
        · intro e; cases e
        · rename_i h
          split
          · intro e; cases e
          · intro _
            have h : F.tick.down = false := by simpa using h
            exact h
theorem progP_up {F : Fl} {S : St} {s : List UInt8} (h : (progP F S s).2.2 = 0) : (progP F S s).1.down = false := by
  revert h
  unfold progP
  split
  · rename_i h; intro _; exact program_up h
  · rename_i h; intro e; exact absurd e h
theorem writeP_up {F : Fl} {S : St} {s : List UInt8} (h : (writeP F S s).2.2 = 0) : (writeP F S s).1.down = false := by
  revert h
  unfold writeP
  split
  · split
    · exact progP_up
    · rename_i h; intro e; exact absurd e h
  · exact progP_up
theorem progP_st (F : Fl) (S : St) (s : List UInt8) : (progP F S s).2.1.first = S.first ∧ (progP F S s).2.1.recs = S.recs ∧ (progP F S s).2.1.ats = S.ats ∧ (progP F S s).2.1.next ≤ S.next + 1 := by
  unfold progP
  split
  · exact ⟨rfl, rfl, rfl, Nat.le_refl _⟩
  · exact ⟨rfl, rfl, rfl, Nat.le_succ _⟩
theorem writeP_st (F : Fl) (S : St) (s : List UInt8) : (writeP F S s).2.1.first = S.first ∧ (writeP F S s).2.1.recs = S.recs ∧ (writeP F S s).2.1.ats = S.ats ∧ (writeP F S s).2.1.next ≤ S.next + 1 := by
  unfold writeP
  split
  · split
    · exact progP_st _ _ _
    · exact ⟨rfl, rfl, rfl, Nat.le_succ _⟩
  · exact progP_st _ _ _
theorem writesP_st : ∀ (l : List (List UInt8)) (F : Fl) (S : St), (writesP F S l).2.1.recs = S.recs ∧ (writesP F S l).2.1.ats = S.ats
  | [], _, _ => ⟨rfl, rfl⟩
  | s :: l, F, S => by
    rw [writesP]
    obtain ⟨_, h1, h2, _⟩ := writeP_st F S s
    split
    · obtain ⟨g1, g2⟩ := writesP_st l (writeP F S s).1 (writeP F S s).2.1
      exact ⟨g1.trans h1, g2.trans h2⟩
    · exact ⟨h1, h2⟩
/-- Texts before the k-th are written. -/
structure WriteAt (F0 : Fl) (S0 : St) (l : List (List UInt8)) (k : Nat) (F : Fl) (S : St) : Prop where
  all : writesP F0 S0 l = writesP F S (l.drop k)
  up : F.down = false
  next : S.next ≤ S0.next + k
  recs : S.recs = S0.recs
  ats : S.ats = S0.ats
  first : S.first = S0.first
theorem writeAt_zero {F : Fl} {S : St} {l : List (List UInt8)} (h : F.down = false) : WriteAt F S l 0 F S := ⟨rfl, h, Nat.le_refl _, rfl, rfl, rfl⟩
theorem WriteAt.good {F0 F : Fl} {S0 S : St} {l : List (List UInt8)} {k : Nat} (h : WriteAt F0 S0 l k F S) (hk : k < l.length) (h0 : (writeP F S l[k]).2.2 = 0) : WriteAt F0 S0 l (k + 1) (writeP F S l[k]).1 (writeP F S l[k]).2.1 := by
  obtain ⟨h1, h2, h3, h4⟩ := writeP_st F S l[k]
  refine ⟨?_, writeP_up h0, by have := h.next; omega, h2.trans h.recs, h3.trans h.ats, h1.trans h.first⟩
  rw [h.all, List.drop_eq_getElem_cons hk, writesP, if_pos h0]
theorem WriteAt.bad {F0 F : Fl} {S0 S : St} {l : List (List UInt8)} {k : Nat} (h : WriteAt F0 S0 l k F S) (hk : k < l.length) (h0 : (writeP F S l[k]).2.2 ≠ 0) : writesP F0 S0 l = writeP F S l[k] := by
  rw [h.all, List.drop_eq_getElem_cons hk, writesP, if_neg h0]
theorem WriteAt.end_ {F0 F : Fl} {S0 S : St} {l : List (List UInt8)} {k : Nat} (h : WriteAt F0 S0 l k F S) (hk : l.length ≤ k) : writesP F0 S0 l = (F, S, 0) := by
  rw [h.all, List.drop_of_length_le hk]; rfl
/-! ## The four ends of Append -/
theorem append_long {F : Fl} {S : St} {r : List UInt8} (h : 4000 < r.length) : appendP F S r = (F, S, 3) := by unfold appendP; rw [if_pos h]
theorem append_full {F : Fl} {S : St} {r : List UInt8} {l : List (List UInt8)} (hl : (recP S r).map txtP = l) (h : ¬ 4000 < r.length) (h2 : fitsP F S (S.next + l.length - 1 + F.np) = false) : appendP F S r = (F, S, 6) := by
  have e : (recP S r).length = l.length := by rw [← hl, List.length_map]
  unfold appendP; rw [if_neg h, e, if_pos h2]
theorem append_bad {F : Fl} {S : St} {r : List UInt8} {l : List (List UInt8)} (hl : (recP S r).map txtP = l) (h : ¬ 4000 < r.length) (h2 : fitsP F S (S.next + l.length - 1 + F.np) = true) (h3 : (writesP F S l).2.2 ≠ 0) : appendP F S r = writesP F S l := by
  have e : (recP S r).length = l.length := by rw [← hl, List.length_map]
  unfold appendP; rw [if_neg h, e, if_neg (by rw [h2]; decide), hl, if_neg h3]
theorem append_good {F G : Fl} {S T : St} {r : List UInt8} {l : List (List UInt8)} (hl : (recP S r).map txtP = l) (h : ¬ 4000 < r.length) (h2 : fitsP F S (S.next + l.length - 1 + F.np) = true) (h3 : writesP F S l = (G, T, 0)) : appendP F S r = (G, { T with recs := S.recs ++ [r], ats := S.ats ++ [S.next] }, 0) := by
  have e : (recP S r).length = l.length := by rw [← hl, List.length_map]
  unfold appendP; rw [if_neg h, e, if_neg (by rw [h2]; decide), hl, if_pos (by rw [h3]), h3]
end Go.Proofs.YtlefilfdomjkeaaGreatDoor
namespace Go.Proofs.YtlefilfdomjkeaaGreatDoor
open Go.RowKit Go.Deep
theorem ext_mid (l : List UInt8) (i k j : Nat) (hj : i + k = j) : (ByteArray.mk l.toArray).extract i j = ⟨((l.drop i).take k).toArray⟩ := by
  subst hj
  apply ByteArray.ext
  rw [ByteArray.data_extract]
  apply Array.toList_inj.1
  rw [Array.toList_extract, List.extract_eq_take_drop]
  simp
section
variable {w : World} {O : Nat → Prop} {x p q : Nat} {F : Fl} {S : St} {vr va : Value}
set_option maxRecDepth 100000 in
set_option maxHeartbeats 4000000 in
theorem append_any (h : StoreAt w O x p q F S vr va) (ok : StOk S) (hO : ∀ k, O k → 6 ≤ k) (E : Env w) (hd : F.down = false) (r : List UInt8) (hrl : r.length ≤ 1000000) :
    Calls Tryz.prog 12 #[.pointer (some ⟨x, 0, none⟩), .string ⟨r.toArray⟩] w (CallPost O x p q (appendP F S r) w) := by
  have hrli : (r.length : Int) ≤ 1000000 := by omega
  have H := hid h; have OK := hid ok; have HO := hid hO; have HE := hid E; have HD := hid hd
  clear h ok hO E hd hrl
  by_cases h4 : 4000 < r.length
  case pos =>
    have h4i : (4000 : Int) < r.length := by omega
    have R := hid (append_long (F := F) (S := S) h4)
    clear h4
    go_enter Tryz.func12, Tryz.ntmps12
    go_wp2_with fail
    go_ret
    exact call_same R.out H.out (Sto.refl _ _)
  have h4i : ¬ (4000 : Int) < r.length := by omega
  have H4 := hid h4
  have SM := hid (show S.Small r from ⟨by have := OK.out.next; omega, by have := OK.out.len; omega⟩)
  obtain ⟨ar, cr, rfl, hr1, hr2⟩ := H.out.recs.fits
  have HRL := hid (show r.length ≤ 4000 by omega)
  have XL := hid (heap_lt H.out.head)
  clear h4
  go_enter Tryz.func12, Tryz.ntmps12
  go_wp2_with fail
  go_loopg [5, 6] (r.length + 1) (fun gg s5 s6 wr => ∃ (l : List (List UInt8)) (a : Option Addr) (c f : Nat), s5 = .slice a l.length c ∧ s6 = .int .i64 f ∧ PieceAt S r l gg f ∧ OwnS wr (.slice a l.length c) l ∧ (∀ g, (Value.slice a l.length c).ownBlock = some g → w.heap.size ≤ g) ∧ Upd (fun _ => False) w wr)
  case atStart => exact ⟨[], none, 0, 0, rfl, rfl, pieceAt_zero S r, Own1.nil _ _, (fun g hg => by cases hg), Upd.refl _ _⟩
  case round =>
    obtain ⟨l, a, c, f, rfl, rfl, hpa, hown, hnew, u⟩ := hrel
    have PA := hid hpa; have OW := hid hown; have NW := hid hnew; have U := hid u
    have hll := pieceAt_len hpa SM.out
    obtain ⟨_, _, e0, hc1, hc2⟩ := hown.fits
    injection e0 with e3 e4 e2
    rw [← e2] at hc1 hc2
    have hfl := hpa.le
    have hc2 : c ≤ 9223372036854775807 := hc2
    have hl5 : l.length ≤ 1000 := by have := HRL.out; omega
    have hli : (l.length : Int) ≤ 1000 := by omega
    have hfi : (f : Int) ≤ 4000 := by have := HRL.out; omega
    clear hpa hown hnew u hll e2 e3 e4
    by_cases hc1 : f < r.length
    case pos =>
      have hc1i : (f : Int) < r.length := by omega
      have hc := (show f < r.length ∨ l.length = 0 from .inl hc1)
      obtain ⟨hlf, n', rfl, hpn, hpl⟩ := PA.out.next SM.out hc
      obtain ⟨g1, g2⟩ := piece_len SM.out hfl hlf
      obtain ⟨rm, hrm⟩ : ∃ rm, (pieceP S r l.length f).bytes.length = rm := ⟨_, rfl⟩
      obtain ⟨ch, hch⟩ : ∃ ch, (pieceP S r l.length f).bytes = ch := ⟨_, rfl⟩
      obtain ⟨ps, hps⟩ : ∃ ps, S.next + l.length = ps := ⟨_, rfl⟩
      obtain ⟨rs, hrs⟩ : ∃ rs, r.length - f = rs := ⟨_, rfl⟩
      obtain ⟨sl, hsl⟩ : ∃ sl, S.len = sl := ⟨_, rfl⟩
      obtain ⟨t1, ht1⟩ : ∃ t1, f + rm = t1 := ⟨_, rfl⟩
      have hhead : headP S r l.length f = ⟨0, ps, sl, S.recs.length, f, rs, []⟩ := by unfold headP; rw [hps, hrs, hsl]
      obtain ⟨hd, hhd⟩ : ∃ hd, hdrP (headP S r l.length f) = hd := ⟨_, rfl⟩
      have htx : txtP (pieceP S r l.length f) = hd ++ ch := by rw [← hhd, ← hch]; rfl
      have hhr := head_room SM.out hfl hlf
      have hchd : (r.drop f).take rm = ch := by rw [← hch, ← hrm]; exact piece_take S r l.length f
      have hchl : ch.length = rm := by rw [← hch, hrm]
      rw [hhd] at hhr
      rw [hrm] at g1 hpn hpl
      rw [htx, ht1] at hpn
      rw [ht1] at hpl
      rw [hhead] at g1 hhd
      have hpi : PgI ⟨0, ps, sl, S.recs.length, f, rs, []⟩ := by
        have h1 := SM.out.next; have h2 := OK.out.len; have h3 : S.recs.length ≤ S.len := by unfold St.len; omega
        refine ⟨?_, ?_, ?_, ?_, ?_, ?_⟩ <;> unfold I64 <;> dsimp only <;> omega
      have HCH := hid (fun (wq : World) (e : Env wq) => (show Calls Tryz.prog 42 #[.agg #[.int .i64 0, .int .i64 ps, .int .i64 sl, .int .i64 S.recs.length, .int .i64 f, .int .i64 rs, .string ⟨#[]⟩]] wq fun e w' => e = .returned (.string ⟨hd.toArray⟩) ∧ Upd (fun _ => False) wq w' from by rw [← hhd]; exact header_any ⟨0, ps, sl, S.recs.length, f, rs, []⟩ hpi wq e))
      have HRM := hid (fun (wq : World) (e : Env wq) => (show Calls Tryz.prog 43 #[.agg #[.int .i64 0, .int .i64 ps, .int .i64 sl, .int .i64 S.recs.length, .int .i64 f, .int .i64 rs, .string ⟨#[]⟩]] wq fun e w' => e = .returned (.int .i64 (rm : Int)) ∧ Upd (fun _ => False) wq w' from by rw [g1]; exact room_any ⟨0, ps, sl, S.recs.length, f, rs, []⟩ hpi wq e))
      have LC := hid (fun (wq : World) (u : Upd (fun _ => False) w wq) => (show Calls Tryz.prog 21 #[.pointer (some ⟨x, 0, none⟩)] wq fun e w' => e = .returned (.int .i64 (sl : Int)) ∧ Upd (fun _ => False) wq w' from by rw [← hsl]; exact len_any (H.out.upd0 u) OK.out))
      have hnx := SM.out.next
      have f1 : (S.next : Int) + l.length = ps := by omega
      have f2 : (r.length : Int) - f = rs := by omega
      have f3 : (f : Int) + rm = t1 := by omega
      have b1 : ps ≤ 1000000000 := by have := HRL.out; omega
      have b2 : rs ≤ 1000000000 := by have := HRL.out; omega
      have b3 : t1 ≤ 1000000000 := by have := HRL.out; omega
      have hf1 : f ≤ t1 := by omega
      have hf1i : (f : Int) ≤ t1 := by omega
      have ht1i : (t1 : Int) ≤ r.length := by omega
      have hext := ext_mid r f rm t1 ht1
      rw [hchd] at hext
      have hadd := add_lists hd ch (by have := HRL.out; omega)
      have PN := hid hpn; have HPI := hid hpi; have HEXT := hid hext; have HADD := hid hadd
      have F3 := hid f3
      have hll5 := hid (show l.length + 1 ≤ 1000000 by omega)
      clear g1 g2 hrm hch hps hrs hsl ht1 hhead hhd htx hhr hchd hchl hpn hpi hnx hlf hext hadd PA
      obtain ⟨w1a, w1b⟩ := wrap_nat b1
      obtain ⟨w2a, w2b⟩ := wrap_nat b2
      obtain ⟨w3a, w3b⟩ := wrap_nat b3
      have HB := hid (show ps ≤ 1000000000 ∧ rs ≤ 1000000000 ∧ t1 ≤ 1000000000 ∧ t1 ≤ r.length from ⟨b1, b2, b3, hpl⟩)
      have HW3 := hid (show IntKind.i64.wrap (t1 : Int) = t1 ∧ wrap64 (t1 : Int) = t1 from ⟨w3a, w3b⟩)
      clear b1 b2 b3 hpl w3a w3b
      go_upto_region 6 with (fail)
      go_cut [7] (fun s7 wx => ∃ t, s7 = .pointer (some ⟨t, 0, none⟩) ∧ wr.heap.size ≤ t ∧ Upd (fun _ => False) wr wx ∧ wx.heap[t]? = some (.cells (pgC ⟨0, ps, sl, S.recs.length, f, rs, []⟩) 75 (0, 0)))
      case first =>
        have ST := hid (H.out.upd0 U.out)
        have hS := (show wr.cell? ⟨x, 4, none⟩ = some (.int .i64 S.next) ∧ wr.cell? ⟨x, 5, none⟩ = some (.slice ar S.recs.length cr) from ⟨ST.out.cells.1.2.2.2.2.1, ST.out.cells.1.2.2.2.2.2.1⟩)
        refine wp_region_g (fun w' => w'.cell? ⟨x, 4, none⟩ = some (.int .i64 S.next) ∧ w'.cell? ⟨x, 5, none⟩ = some (.slice ar S.recs.length cr)) 21 (by kernel_rfl) ?_
        obtain ⟨Wd, hWd⟩ : ∃ Wd, wr.drew = Wd := ⟨_, rfl⟩
        have ud : Upd (fun _ => False) wr Wd := by rw [← hWd]; exact (Upd.refl _ _).drew
        have SHOW := hid (fun (wq : World) (u : Upd (fun _ => False) wr wq) => (show wq.cell? ⟨x, 4, none⟩ = some (.int .i64 S.next) ∧ wq.cell? ⟨x, 5, none⟩ = some (.slice ar S.recs.length cr) from ⟨cell_kept hS.1 (u.block x (Nat.lt_of_lt_of_le XL.out U.out.size) id), cell_kept hS.2 (u.block x (Nat.lt_of_lt_of_le XL.out U.out.size) id)⟩))
        have UD := hid ud
        rw [hWd]
        clear hWd ud hS
        have hS := SHOW.out Wd UD.out
        refine g_take0 (i := 0) rfl (by kernel_rfl) (by kernel_rfl) (by kernel_rfl) (by decide) (fun _ _ _ h => h) (Or.inl ⟨by kernel_rfl, by (intro w _; go_simp; try with_reducible rfl)⟩) (fun _ => hS) ?_
        (try simp only [List.getElem_toArray, List.getElem_cons_zero, List.getElem_cons_succ])
        (try go_frame)
        refine g_take0 (i := 1) rfl (by kernel_rfl) (by kernel_rfl) (by kernel_rfl) (by decide) (fun _ _ _ h => h) (Or.inl ⟨by kernel_rfl, by (intro w _; go_simp; try with_reducible rfl)⟩) (fun _ => hS) ?_
        (try simp only [List.getElem_toArray, List.getElem_cons_zero, List.getElem_cons_succ])
        (try go_frame)
        refine g_take0 (i := 2) rfl (by kernel_rfl) (by kernel_rfl) (by kernel_rfl) (by decide) (fun _ _ _ h => h) (Or.inl ⟨by kernel_rfl, by (intro w _; go_simp; try with_reducible rfl)⟩) (fun _ => hS) ?_
        (try simp only [List.getElem_toArray, List.getElem_cons_zero, List.getElem_cons_succ])
        (try go_frame)
        refine g_take (i := 3) (v := .int .i64 S.next) rfl (by kernel_rfl) (by kernel_rfl) (by kernel_rfl) (by kernel_rfl) (fun _ _ _ h => h) (Or.inl ⟨by kernel_rfl, by (intro w hSw; (try dsimp only at hSw); obtain ⟨z0, z1⟩ := hSw; go_simp; try with_reducible rfl)⟩) hS ?_
        (try simp only [List.getElem_toArray, List.getElem_cons_zero, List.getElem_cons_succ])
        (try go_frame)
        refine g_take0 (i := 4) rfl (by kernel_rfl) (by kernel_rfl) (by kernel_rfl) (by decide) (fun _ _ _ h => h) (Or.inl ⟨by kernel_rfl, by (intro w _; go_simp; try with_reducible rfl)⟩) (fun _ => hS) ?_
        (try simp only [List.getElem_toArray, List.getElem_cons_zero, List.getElem_cons_succ])
        (try go_frame)
        refine g_take0 (i := 5) (v := .int .i64 (l.length : Int)) rfl (by kernel_rfl) (by kernel_rfl) (by kernel_rfl) (by decide) (fun _ _ _ h => h) (Or.inl ⟨by kernel_rfl, by (intro w _; go_simp; try with_reducible rfl)⟩) (fun _ => hS) ?_
        (try simp only [List.getElem_toArray, List.getElem_cons_zero, List.getElem_cons_succ])
        (try go_frame)
        refine g_take0 (i := 6) (v := .int .i64 (ps : Int)) rfl (by kernel_rfl) (by kernel_rfl) (by kernel_rfl) (by decide) (fun _ _ _ h => h) (Or.inl ⟨by kernel_rfl, by (intro w _; go_simp; try with_reducible rfl)⟩) (fun _ => hS) ?_
        (try simp only [List.getElem_toArray, List.getElem_cons_zero, List.getElem_cons_succ])
        (try go_frame)
        refine g_take0 (i := 7) rfl (by kernel_rfl) (by kernel_rfl) (by kernel_rfl) (by decide) (fun _ _ _ h => h) (Or.inl ⟨by kernel_rfl, by (intro w _; go_simp; try with_reducible rfl)⟩) (fun _ => hS) ?_
        (try simp only [List.getElem_toArray, List.getElem_cons_zero, List.getElem_cons_succ])
        (try go_frame)
        refine g_take0 (i := 9) rfl (by kernel_rfl) (by kernel_rfl) (by kernel_rfl) (by decide) (fun _ _ _ h => h) (Or.inl ⟨by kernel_rfl, by (intro w _; go_simp; try with_reducible rfl)⟩) (fun _ => hS) ?_
        (try simp only [List.getElem_toArray, List.getElem_cons_zero, List.getElem_cons_succ])
        (try go_frame)
        refine g_take0 (i := 10) rfl (by kernel_rfl) (by kernel_rfl) (by kernel_rfl) (by decide) (fun _ _ _ h => h) (Or.inl ⟨by kernel_rfl, by (intro w _; go_simp; try with_reducible rfl)⟩) (fun _ => hS) ?_
        (try simp only [List.getElem_toArray, List.getElem_cons_zero, List.getElem_cons_succ])
        (try go_frame)
        refine g_take0 (i := 11) rfl (by kernel_rfl) (by kernel_rfl) (by kernel_rfl) (by decide) (fun _ _ _ h => h) (Or.inl ⟨by kernel_rfl, by (intro w _; go_simp; try with_reducible rfl)⟩) (fun _ => hS) ?_
        (try simp only [List.getElem_toArray, List.getElem_cons_zero, List.getElem_cons_succ])
        (try go_frame)
        refine g_take (i := 12) (v := .slice ar S.recs.length cr) rfl (by kernel_rfl) (by kernel_rfl) (by kernel_rfl) (by kernel_rfl) (fun _ _ _ h => h) (Or.inl ⟨by kernel_rfl, by (intro w hSw; (try dsimp only at hSw); obtain ⟨z0, z1⟩ := hSw; go_simp; try with_reducible rfl)⟩) hS ?_
        (try simp only [List.getElem_toArray, List.getElem_cons_zero, List.getElem_cons_succ])
        (try go_frame)
        refine g_take0 (i := 13) (v := .int .i64 (S.recs.length : Int)) rfl (by kernel_rfl) (by kernel_rfl) (by kernel_rfl) (by decide) (fun _ _ _ h => h) (Or.inl ⟨by kernel_rfl, by (intro w _; go_simp; try with_reducible rfl)⟩) (fun _ => hS) ?_
        (try simp only [List.getElem_toArray, List.getElem_cons_zero, List.getElem_cons_succ])
        (try go_frame)
        refine g_take0 (i := 14) rfl (by kernel_rfl) (by kernel_rfl) (by kernel_rfl) (by decide) (fun _ _ _ h => h) (Or.inl ⟨by kernel_rfl, by (intro w _; go_simp; try with_reducible rfl)⟩) (fun _ => hS) ?_
        (try simp only [List.getElem_toArray, List.getElem_cons_zero, List.getElem_cons_succ])
        (try go_frame)
        refine g_take0 (i := 15) rfl (by kernel_rfl) (by kernel_rfl) (by kernel_rfl) (by decide) (fun _ _ _ h => h) (Or.inl ⟨by kernel_rfl, by (intro w _; go_simp; try with_reducible rfl)⟩) (fun _ => hS) ?_
        (try simp only [List.getElem_toArray, List.getElem_cons_zero, List.getElem_cons_succ])
        (try go_frame)
        refine g_take0 (i := 16) (v := .int .i64 (r.length : Int)) rfl (by kernel_rfl) (by kernel_rfl) (by kernel_rfl) (by decide) (fun _ _ _ h => h) (Or.inl ⟨by kernel_rfl, by (intro w _; go_simp; try with_reducible rfl)⟩) (fun _ => hS) ?_
        (try simp only [List.getElem_toArray, List.getElem_cons_zero, List.getElem_cons_succ])
        (try go_frame)
        refine g_take0 (i := 17) rfl (by kernel_rfl) (by kernel_rfl) (by kernel_rfl) (by decide) (fun _ _ _ h => h) (Or.inl ⟨by kernel_rfl, by (intro w _; go_simp; try with_reducible rfl)⟩) (fun _ => hS) ?_
        (try simp only [List.getElem_toArray, List.getElem_cons_zero, List.getElem_cons_succ])
        (try go_frame)
        refine g_take0 (i := 18) (v := .int .i64 (rs : Int)) rfl (by kernel_rfl) (by kernel_rfl) (by kernel_rfl) (by decide) (fun _ _ _ h => h) (Or.inl ⟨by kernel_rfl, by (intro w _; go_simp; try with_reducible rfl)⟩) (fun _ => hS) ?_
        (try simp only [List.getElem_toArray, List.getElem_cons_zero, List.getElem_cons_succ])
        (try go_frame)
        clear hS
        refine g_two (i := 8) (j := 20) (by kernel_rfl) rfl rfl ?_ ?_
        · skip
          go_wp2_with fail
          refine (LC.out _ (U.out.trans UD.out)).mono ?_
          rintro e W1 ⟨rfl, u_⟩
          have U1 := hid (UD.out.trans u_)
          have U_ := hid u_
          clear u_
          go_wp2_with fail
          first | (refine ⟨fun _ => SHOW.out W1 U1.out, ?_⟩) | (refine ⟨SHOW.out W1 U1.out, ?_⟩)
          (try simp only [List.getElem_toArray, List.getElem_cons_zero, List.getElem_cons_succ])
          (try go_frame)
          refine g_take0 (i := 19) rfl (by kernel_rfl) (by kernel_rfl) (by kernel_rfl) (by decide) (fun _ _ _ h => h) (Or.inl ⟨by kernel_rfl, by (intro w _; go_simp; try with_reducible rfl)⟩) (fun _ => (SHOW.out W1 U1.out)) ?_
          (try simp only [List.getElem_toArray, List.getElem_cons_zero, List.getElem_cons_succ])
          (try go_frame)
          refine g_op (i := 20) (by kernel_rfl) rfl ?_
          go_wp2_with fail
          obtain ⟨W2, hW2⟩ : ∃ W', W1.alloc (.cells #[.int .i64 0, .int .i64 0, .int .i64 0, .int .i64 0, .int .i64 0, .int .i64 0, .string ⟨#[]⟩] 75 (0, 0)) = W' := ⟨_, rfl⟩
          have bz : W2.heap[W1.heap.size]? = some (.cells (pgC ⟨0, 0, 0, 0, 0, 0, []⟩) 75 (0, 0)) := by rw [← hW2]; exact heap_alloc_new
          have U2 := hid (show Upd (fun _ => False) wr W2 by rw [← hW2]; exact U1.out.alloc _)
          obtain ⟨tb, htb⟩ : ∃ tb, W1.heap.size = tb := ⟨_, rfl⟩
          have HTB := hid (show wr.heap.size ≤ tb from by rw [← htb]; exact U1.out.size)
          try rw [hW2]
          rw [htb] at bz
          try rw [htb]
          have BZ := hid bz
          clear hW2 htb bz
          first | (refine ⟨fun _ => SHOW.out W2 U2.out, ?_⟩) | (refine ⟨SHOW.out W2 U2.out, ?_⟩)
          (try simp only [List.getElem_toArray, List.getElem_cons_zero, List.getElem_cons_succ])
          (try go_frame)
          obtain ⟨⟨z0, z1, z2, z3, z4, z5, z6⟩, zf⟩ := zero_cells BZ.out (Upd.refl (fun _ => False) W2)
          have RS := hid (rd_store (pg := ⟨0, ps, sl, S.recs.length, f, rs, []⟩) BZ.out (Upd.refl (fun _ => False) W2) U2.out HTB.out)
          clear HCH HRM LC
          refine g_op (i := 21) (by kernel_rfl) rfl ?_
          go_wp2_with fail
          refine ⟨fun h => (Bool.false_ne_true (h.symm.trans (by kernel_rfl))).elim, ?_⟩
          (try simp only [List.getElem_toArray, List.getElem_cons_zero, List.getElem_cons_succ])
          (try go_frame)
          refine g_done (by kernel_rfl) ?_
          clear z0 z1 z2 z3 z4 z5 z6 zf
          go_wp2_with fail
          go_meet
          case rel => exact ⟨tb, rfl, HTB.out, RS.out.1, RS.out.2.2⟩
        · skip
          go_wp2_with fail
          obtain ⟨W1, hW1⟩ : ∃ W', Wd.alloc (.cells #[.int .i64 0, .int .i64 0, .int .i64 0, .int .i64 0, .int .i64 0, .int .i64 0, .string ⟨#[]⟩] 75 (0, 0)) = W' := ⟨_, rfl⟩
          have bz : W1.heap[Wd.heap.size]? = some (.cells (pgC ⟨0, 0, 0, 0, 0, 0, []⟩) 75 (0, 0)) := by rw [← hW1]; exact heap_alloc_new
          have U1 := hid (show Upd (fun _ => False) wr W1 by rw [← hW1]; exact UD.out.alloc _)
          obtain ⟨tb, htb⟩ : ∃ tb, Wd.heap.size = tb := ⟨_, rfl⟩
          have HTB := hid (show wr.heap.size ≤ tb from by rw [← htb]; exact UD.out.size)
          try rw [hW1]
          rw [htb] at bz
          try rw [htb]
          have BZ := hid bz
          clear hW1 htb bz
          first | (refine ⟨fun _ => SHOW.out W1 U1.out, ?_⟩) | (refine ⟨SHOW.out W1 U1.out, ?_⟩)
          (try simp only [List.getElem_toArray, List.getElem_cons_zero, List.getElem_cons_succ])
          (try go_frame)
          refine g_op (i := 8) (by kernel_rfl) rfl ?_
          go_wp2_with fail
          refine (LC.out _ (U.out.trans U1.out)).mono ?_
          rintro e W2 ⟨rfl, u_⟩
          have U2 := hid (U1.out.trans u_)
          have U_ := hid u_
          clear u_
          go_wp2_with fail
          first | (refine ⟨fun _ => SHOW.out W2 U2.out, ?_⟩) | (refine ⟨SHOW.out W2 U2.out, ?_⟩)
          (try simp only [List.getElem_toArray, List.getElem_cons_zero, List.getElem_cons_succ])
          (try go_frame)
          refine g_take0 (i := 19) rfl (by kernel_rfl) (by kernel_rfl) (by kernel_rfl) (by decide) (fun _ _ _ h => h) (Or.inl ⟨by kernel_rfl, by (intro w _; go_simp; try with_reducible rfl)⟩) (fun _ => (SHOW.out W2 U2.out)) ?_
          (try simp only [List.getElem_toArray, List.getElem_cons_zero, List.getElem_cons_succ])
          (try go_frame)
          obtain ⟨⟨z0, z1, z2, z3, z4, z5, z6⟩, zf⟩ := zero_cells BZ.out U_.out
          have RS := hid (rd_store (pg := ⟨0, ps, sl, S.recs.length, f, rs, []⟩) BZ.out U_.out U1.out HTB.out)
          clear HCH HRM LC
          refine g_op (i := 21) (by kernel_rfl) rfl ?_
          go_wp2_with fail
          refine ⟨fun h => (Bool.false_ne_true (h.symm.trans (by kernel_rfl))).elim, ?_⟩
          (try simp only [List.getElem_toArray, List.getElem_cons_zero, List.getElem_cons_succ])
          (try go_frame)
          refine g_done (by kernel_rfl) ?_
          clear z0 z1 z2 z3 z4 z5 z6 zf
          go_wp2_with fail
          go_meet
          case rel => exact ⟨tb, rfl, HTB.out, RS.out.1, RS.out.2.2⟩
      case rest =>
        obtain ⟨t, rfl, htl, ut, hbt⟩ := hcut
        have UT := hid ut; have HBT := hid hbt; have HTL := hid htl
        have TXT := hid (show (pgC ⟨0, ps, sl, S.recs.length, f, rs, []⟩) = #[.int .i64 0, .int .i64 ps, .int .i64 sl, .int .i64 S.recs.length, .int .i64 f, .int .i64 rs, .string ⟨#[]⟩] from rfl)
        clear ut hbt htl w1a w1b w2a w2b f1 f2
        obtain ⟨w3a, w3b⟩ := HW3.out
        go_upto_region 7 with (fail)
        have SHOW := hid (fun (wq : World) (u : Upd (fun _ => False) wc wq) => (show wq.cell? ⟨t, 0, none⟩ = some (.int .i64 0) ∧ wq.cell? ⟨t, 1, none⟩ = some (.int .i64 ps) ∧ wq.cell? ⟨t, 2, none⟩ = some (.int .i64 sl) ∧ wq.cell? ⟨t, 3, none⟩ = some (.int .i64 S.recs.length) ∧ wq.cell? ⟨t, 4, none⟩ = some (.int .i64 f) ∧ wq.cell? ⟨t, 5, none⟩ = some (.int .i64 rs) ∧ wq.cell? ⟨t, 6, none⟩ = some (.string ⟨#[]⟩) from pg_cells ((u.block t (heap_lt HBT.out) id).trans HBT.out)))
        refine wp_region_g (fun wq => wq.cell? ⟨t, 0, none⟩ = some (.int .i64 0) ∧ wq.cell? ⟨t, 1, none⟩ = some (.int .i64 ps) ∧ wq.cell? ⟨t, 2, none⟩ = some (.int .i64 sl) ∧ wq.cell? ⟨t, 3, none⟩ = some (.int .i64 S.recs.length) ∧ wq.cell? ⟨t, 4, none⟩ = some (.int .i64 f) ∧ wq.cell? ⟨t, 5, none⟩ = some (.int .i64 rs) ∧ wq.cell? ⟨t, 6, none⟩ = some (.string ⟨#[]⟩)) 8 (by kernel_rfl) ?_
        obtain ⟨Wd, hWd⟩ : ∃ Wd, wc.drew = Wd := ⟨_, rfl⟩
        have UD := hid (show Upd (fun _ => False) wc Wd by rw [← hWd]; exact (Upd.refl _ _).drew)
        rw [hWd]
        clear hWd
        have hS := SHOW.out Wd UD.out
        have EX := hid (fun (wq : World) (u : Upd (fun _ => False) wc wq) => HE.out.keep0 ((U.out.trans UT.out).trans u))
        refine g_take0 (i := 0) rfl (by kernel_rfl) (by kernel_rfl) (by kernel_rfl) (by decide) (fun _ _ _ h => h) (Or.inl ⟨by kernel_rfl, by (intro w _; go_simp; try with_reducible rfl)⟩) (fun _ => hS) ?_
        (try simp only [List.getElem_toArray, List.getElem_cons_zero, List.getElem_cons_succ])
        (try go_frame)
        refine g_takeP [8, 7, 2] (i := 1) (v := .agg #[.int .i64 0, .int .i64 ps, .int .i64 sl, .int .i64 S.recs.length, .int .i64 f, .int .i64 rs, .string ⟨#[]⟩]) rfl (by kernel_rfl) (by kernel_rfl) (by kernel_rfl) (by kernel_rfl) (fun _ _ _ h => h) (Or.inl ⟨by kernel_rfl, by (intro w hSw; (try dsimp only at hSw); obtain ⟨z0, z1, z2, z3, z4, z5, z6⟩ := hSw; go_simp; try with_reducible rfl)⟩) hS ?_
        (try simp only [List.getElem_toArray, List.getElem_cons_zero, List.getElem_cons_succ])
        (try go_frame)
        refine g_take0 (i := 3) rfl (by kernel_rfl) (by kernel_rfl) (by kernel_rfl) (by decide) (fun _ _ _ h => h) (Or.inl ⟨by kernel_rfl, by (intro w _; go_simp; try with_reducible rfl)⟩) (fun _ => hS) ?_
        (try simp only [List.getElem_toArray, List.getElem_cons_zero, List.getElem_cons_succ])
        (try go_frame)
        refine g_take0 (i := 4) rfl (by kernel_rfl) (by kernel_rfl) (by kernel_rfl) (by decide) (fun _ _ _ h => h) (Or.inl ⟨by kernel_rfl, by (intro w _; go_simp; try with_reducible rfl)⟩) (fun _ => hS) ?_
        (try simp only [List.getElem_toArray, List.getElem_cons_zero, List.getElem_cons_succ])
        (try go_frame)
        refine g_take0 (i := 5) rfl (by kernel_rfl) (by kernel_rfl) (by kernel_rfl) (by decide) (fun _ _ _ h => h) (Or.inl ⟨by kernel_rfl, by (intro w _; go_simp; try with_reducible rfl)⟩) (fun _ => hS) ?_
        (try simp only [List.getElem_toArray, List.getElem_cons_zero, List.getElem_cons_succ])
        (try go_frame)
        refine g_takeP [8, 7] (i := 6) (v := .agg #[.int .i64 0, .int .i64 ps, .int .i64 sl, .int .i64 S.recs.length, .int .i64 f, .int .i64 rs, .string ⟨#[]⟩]) rfl (by kernel_rfl) (by kernel_rfl) (by kernel_rfl) (by kernel_rfl) (fun _ _ _ h => h) (Or.inl ⟨by kernel_rfl, by (intro w hSw; (try dsimp only at hSw); obtain ⟨z0, z1, z2, z3, z4, z5, z6⟩ := hSw; go_simp; try with_reducible rfl)⟩) hS ?_
        (try simp only [List.getElem_toArray, List.getElem_cons_zero, List.getElem_cons_succ])
        (try go_frame)
        clear hS
        refine g_op (i := 2) (by kernel_rfl) rfl ?_
        go_wp2_with fail
        refine (HCH.out _ (EX.out _ UD.out)).mono ?_
        rintro e W1 ⟨rfl, u_⟩
        have U1 := hid (UD.out.trans u_)
        clear u_
        go_wp2_with fail
        first | (refine ⟨fun _ => SHOW.out W1 U1.out, ?_⟩) | (refine ⟨SHOW.out W1 U1.out, ?_⟩)
        (try simp only [List.getElem_toArray, List.getElem_cons_zero, List.getElem_cons_succ])
        (try go_frame)
        refine g_op (i := 7) (by kernel_rfl) rfl ?_
        go_wp2_with fail
        refine (HRM.out _ (EX.out _ U1.out)).mono ?_
        rintro e W2 ⟨rfl, u_⟩
        have U2 := hid (U1.out.trans u_)
        clear u_
        go_wp2_with fail
        first | (refine ⟨fun _ => SHOW.out W2 U2.out, ?_⟩) | (refine ⟨SHOW.out W2 U2.out, ?_⟩)
        (try simp only [List.getElem_toArray, List.getElem_cons_zero, List.getElem_cons_succ])
        (try go_frame)
        refine g_op (i := 8) (by kernel_rfl) rfl ?_
        go_wp2_with fail
        refine ⟨fun h => (Bool.false_ne_true (h.symm.trans (by kernel_rfl))).elim, ?_⟩
        (try simp only [List.getElem_toArray, List.getElem_cons_zero, List.getElem_cons_succ])
        (try go_frame)
        have hext := HEXT.out
        clear f3 w3a w3b
        refine g_op (i := 9) (by kernel_rfl) rfl ?_
        go_wp2_with fail
        refine ⟨fun h => (Bool.false_ne_true (h.symm.trans (by kernel_rfl))).elim, ?_⟩
        (try simp only [List.getElem_toArray, List.getElem_cons_zero, List.getElem_cons_succ])
        (try go_frame)
        clear hext
        have hadd := HADD.out
        refine g_op (i := 10) (by kernel_rfl) rfl ?_
        go_wp2_with fail
        refine ⟨fun h => (Bool.false_ne_true (h.symm.trans (by kernel_rfl))).elim, ?_⟩
        (try simp only [List.getElem_toArray, List.getElem_cons_zero, List.getElem_cons_succ])
        (try go_frame)
        clear hadd
        obtain ⟨tx, htx⟩ : ∃ tx, hd ++ ch = tx := ⟨_, rfl⟩
        rw [htx] at PN
        try rw [htx]
        clear htx
        refine g_op (i := 11) (by kernel_rfl) rfl ?_
        go_wp2_with fail
        obtain ⟨W3, hW3⟩ : ∃ W', W2.alloc (.cells #[.string ⟨tx.toArray⟩] 9 (0, 0)) = W' := ⟨_, rfl⟩
        have b7 : W3.heap[W2.heap.size]? = some (.cells #[strV tx] 9 (0, 0)) := by rw [← hW3]; exact heap_alloc_new
        have U3 := hid (show Upd (fun _ => False) wc W3 by rw [← hW3]; exact U2.out.alloc _)
        rw [hW3]
        clear hW3
        refine ⟨fun h => (Bool.false_ne_true (h.symm.trans (by kernel_rfl))).elim, ?_⟩
        (try simp only [List.getElem_toArray, List.getElem_cons_zero, List.getElem_cons_succ])
        (try go_frame)
        obtain ⟨v8, W4, r8, o8, u8, n8⟩ := Own1.app elemS (Own1.upd (Own1.upd OW.out UT.out fun _ _ => id) U3.out fun _ _ => id) (strV tx) rfl hll5.out (by decide) 50 b7
        obtain ⟨a8, c8, rfl, _, _⟩ := o8.fits
        have O8 := hid o8
        have N8 := hid (show ∀ g, (Value.slice a8 (l.length + 1) c8).ownBlock = some g → w.heap.size ≤ g from fun g hg => by
          rcases n8 with n8 | ⟨g', n8, hs⟩
          · exact NW.out g (by rw [← n8]; exact hg)
          · rw [hg] at n8; injection n8 with n8; subst n8; exact Nat.le_trans U.out.size (Nat.le_trans UT.out.size (Nat.le_trans U3.out.size hs)))
        have U4 := hid (show Upd (fun _ => False) w W4 from ((U.out.trans UT.out).trans U3.out).comp u8 fun i hi e => absurd (NW.out i e.1) (by omega))
        have B4 := hid ((u8.block t (heap_lt ((U3.out.block t (heap_lt HBT.out) id).trans HBT.out)) fun e => own_ne (Own1.upd (Own1.upd OW.out UT.out fun _ _ => id) U3.out fun _ _ => id) ((U3.out.block t (heap_lt HBT.out) id).trans HBT.out) (by decide) t e.1 rfl).trans ((U3.out.block t (heap_lt HBT.out) id).trans HBT.out))
        clear o8 u8 n8
        refine g_op (i := 12) (by kernel_rfl) rfl ?_
        (try simp only [List.getElem_toArray, List.getElem_cons_zero, List.getElem_cons_succ])
        (try go_frame)
        refine wpList_append_run rfl _ _ _ _ rfl rfl rfl r8 ?_
        go_wp2_with fail
        clear r8
        refine ⟨fun h => (Bool.false_ne_true (h.symm.trans (by kernel_rfl))).elim, ?_⟩
        (try simp only [List.getElem_toArray, List.getElem_cons_zero, List.getElem_cons_succ])
        (try go_frame)
        refine g_op (i := 13) (by kernel_rfl) rfl ?_
        go_wp2_with fail
        refine ⟨fun h => (Bool.false_ne_true (h.symm.trans (by kernel_rfl))).elim, ?_⟩
        (try simp only [List.getElem_toArray, List.getElem_cons_zero, List.getElem_cons_succ])
        (try go_frame)
        refine g_done (by kernel_rfl) ?_
        obtain ⟨z0, z1, z2, z3, z4, z5, z6⟩ := (show W4.cell? ⟨t, 0, none⟩ = some (.int .i64 0) ∧ W4.cell? ⟨t, 1, none⟩ = some (.int .i64 ps) ∧ W4.cell? ⟨t, 2, none⟩ = some (.int .i64 sl) ∧ W4.cell? ⟨t, 3, none⟩ = some (.int .i64 S.recs.length) ∧ W4.cell? ⟨t, 4, none⟩ = some (.int .i64 f) ∧ W4.cell? ⟨t, 5, none⟩ = some (.int .i64 rs) ∧ W4.cell? ⟨t, 6, none⟩ = some (.string ⟨#[]⟩) from pg_cells B4.out)
        have HRM2 := hid (HRM.out W4 (HE.out.keep0 U4.out))
        clear HCH HRM LC EX SHOW
        go_wp2_with fail
        refine HRM2.out.mono ?_
        rintro e W5 ⟨rfl, u5⟩
        have U5 := hid (U4.out.trans u5); have O9 := hid (Own1.upd O8.out u5 fun _ _ => id)
        clear u5 z0 z1 z2 z3 z4 z5 z6
        have f3 : (f : Int) + rm = t1 := F3.out
        obtain ⟨w3a, w3b⟩ := HW3.out
        go_wp2_with fail
        go_roundg n'
        case measure => clear w3a w3b; omega
        case rel => exact ⟨l ++ [tx], a8, c8, t1, by rw [List.length_append]; rfl, rfl, PN.out, by rw [show (l ++ [tx]).length = l.length + 1 from by rw [List.length_append]; rfl]; unfold OwnS; rw [List.length_append, List.map_append]; exact O9.out, by rw [show (l ++ [tx]).length = l.length + 1 from by rw [List.length_append]; rfl]; exact N8.out, U5.out⟩
    have hc1i : ¬ (f : Int) < r.length := by omega
    by_cases hc2 : l.length = 0
    case pos =>
      have hc := (show f < r.length ∨ l.length = 0 from .inr hc2)
      have hc2b : ((l.length : Int) == 0) = true := beq_iff_eq.2 (by omega)
      have hc2d : decide (l = []) = true := decide_eq_true (List.eq_nil_of_length_eq_zero hc2)
      clear hc2
      obtain ⟨hlf, n', rfl, hpn, hpl⟩ := PA.out.next SM.out hc
      obtain ⟨g1, g2⟩ := piece_len SM.out hfl hlf
      obtain ⟨rm, hrm⟩ : ∃ rm, (pieceP S r l.length f).bytes.length = rm := ⟨_, rfl⟩
      obtain ⟨ch, hch⟩ : ∃ ch, (pieceP S r l.length f).bytes = ch := ⟨_, rfl⟩
      obtain ⟨ps, hps⟩ : ∃ ps, S.next + l.length = ps := ⟨_, rfl⟩
      obtain ⟨rs, hrs⟩ : ∃ rs, r.length - f = rs := ⟨_, rfl⟩
      obtain ⟨sl, hsl⟩ : ∃ sl, S.len = sl := ⟨_, rfl⟩
      obtain ⟨t1, ht1⟩ : ∃ t1, f + rm = t1 := ⟨_, rfl⟩
      have hhead : headP S r l.length f = ⟨0, ps, sl, S.recs.length, f, rs, []⟩ := by unfold headP; rw [hps, hrs, hsl]
      obtain ⟨hd, hhd⟩ : ∃ hd, hdrP (headP S r l.length f) = hd := ⟨_, rfl⟩
      have htx : txtP (pieceP S r l.length f) = hd ++ ch := by rw [← hhd, ← hch]; rfl
      have hhr := head_room SM.out hfl hlf
      have hchd : (r.drop f).take rm = ch := by rw [← hch, ← hrm]; exact piece_take S r l.length f
      have hchl : ch.length = rm := by rw [← hch, hrm]
      rw [hhd] at hhr
      rw [hrm] at g1 hpn hpl
      rw [htx, ht1] at hpn
      rw [ht1] at hpl
      rw [hhead] at g1 hhd
      have hpi : PgI ⟨0, ps, sl, S.recs.length, f, rs, []⟩ := by
        have h1 := SM.out.next; have h2 := OK.out.len; have h3 : S.recs.length ≤ S.len := by unfold St.len; omega
        refine ⟨?_, ?_, ?_, ?_, ?_, ?_⟩ <;> unfold I64 <;> dsimp only <;> omega
      have HCH := hid (fun (wq : World) (e : Env wq) => (show Calls Tryz.prog 42 #[.agg #[.int .i64 0, .int .i64 ps, .int .i64 sl, .int .i64 S.recs.length, .int .i64 f, .int .i64 rs, .string ⟨#[]⟩]] wq fun e w' => e = .returned (.string ⟨hd.toArray⟩) ∧ Upd (fun _ => False) wq w' from by rw [← hhd]; exact header_any ⟨0, ps, sl, S.recs.length, f, rs, []⟩ hpi wq e))
      have HRM := hid (fun (wq : World) (e : Env wq) => (show Calls Tryz.prog 43 #[.agg #[.int .i64 0, .int .i64 ps, .int .i64 sl, .int .i64 S.recs.length, .int .i64 f, .int .i64 rs, .string ⟨#[]⟩]] wq fun e w' => e = .returned (.int .i64 (rm : Int)) ∧ Upd (fun _ => False) wq w' from by rw [g1]; exact room_any ⟨0, ps, sl, S.recs.length, f, rs, []⟩ hpi wq e))
      have LC := hid (fun (wq : World) (u : Upd (fun _ => False) w wq) => (show Calls Tryz.prog 21 #[.pointer (some ⟨x, 0, none⟩)] wq fun e w' => e = .returned (.int .i64 (sl : Int)) ∧ Upd (fun _ => False) wq w' from by rw [← hsl]; exact len_any (H.out.upd0 u) OK.out))
      have hnx := SM.out.next
      have f1 : (S.next : Int) + l.length = ps := by omega
      have f2 : (r.length : Int) - f = rs := by omega
      have f3 : (f : Int) + rm = t1 := by omega
      have b1 : ps ≤ 1000000000 := by have := HRL.out; omega
      have b2 : rs ≤ 1000000000 := by have := HRL.out; omega
      have b3 : t1 ≤ 1000000000 := by have := HRL.out; omega
      have hf1 : f ≤ t1 := by omega
      have hf1i : (f : Int) ≤ t1 := by omega
      have ht1i : (t1 : Int) ≤ r.length := by omega
      have hext := ext_mid r f rm t1 ht1
      rw [hchd] at hext
      have hadd := add_lists hd ch (by have := HRL.out; omega)
      have PN := hid hpn; have HPI := hid hpi; have HEXT := hid hext; have HADD := hid hadd
      have F3 := hid f3
      have hll5 := hid (show l.length + 1 ≤ 1000000 by omega)
      clear g1 g2 hrm hch hps hrs hsl ht1 hhead hhd htx hhr hchd hchl hpn hpi hnx hlf hext hadd PA
      obtain ⟨w1a, w1b⟩ := wrap_nat b1
      obtain ⟨w2a, w2b⟩ := wrap_nat b2
      obtain ⟨w3a, w3b⟩ := wrap_nat b3
      have HB := hid (show ps ≤ 1000000000 ∧ rs ≤ 1000000000 ∧ t1 ≤ 1000000000 ∧ t1 ≤ r.length from ⟨b1, b2, b3, hpl⟩)
      have HW3 := hid (show IntKind.i64.wrap (t1 : Int) = t1 ∧ wrap64 (t1 : Int) = t1 from ⟨w3a, w3b⟩)
      clear b1 b2 b3 hpl w3a w3b
      go_upto_region 6 with (fail)
      go_cut [7] (fun s7 wx => ∃ t, s7 = .pointer (some ⟨t, 0, none⟩) ∧ wr.heap.size ≤ t ∧ Upd (fun _ => False) wr wx ∧ wx.heap[t]? = some (.cells (pgC ⟨0, ps, sl, S.recs.length, f, rs, []⟩) 75 (0, 0)))
      case first =>
        have ST := hid (H.out.upd0 U.out)
        have hS := (show wr.cell? ⟨x, 4, none⟩ = some (.int .i64 S.next) ∧ wr.cell? ⟨x, 5, none⟩ = some (.slice ar S.recs.length cr) from ⟨ST.out.cells.1.2.2.2.2.1, ST.out.cells.1.2.2.2.2.2.1⟩)
        refine wp_region_g (fun w' => w'.cell? ⟨x, 4, none⟩ = some (.int .i64 S.next) ∧ w'.cell? ⟨x, 5, none⟩ = some (.slice ar S.recs.length cr)) 21 (by kernel_rfl) ?_
        obtain ⟨Wd, hWd⟩ : ∃ Wd, wr.drew = Wd := ⟨_, rfl⟩
        have ud : Upd (fun _ => False) wr Wd := by rw [← hWd]; exact (Upd.refl _ _).drew
        have SHOW := hid (fun (wq : World) (u : Upd (fun _ => False) wr wq) => (show wq.cell? ⟨x, 4, none⟩ = some (.int .i64 S.next) ∧ wq.cell? ⟨x, 5, none⟩ = some (.slice ar S.recs.length cr) from ⟨cell_kept hS.1 (u.block x (Nat.lt_of_lt_of_le XL.out U.out.size) id), cell_kept hS.2 (u.block x (Nat.lt_of_lt_of_le XL.out U.out.size) id)⟩))
        have UD := hid ud
        rw [hWd]
        clear hWd ud hS
        have hS := SHOW.out Wd UD.out
        refine g_take0 (i := 0) rfl (by kernel_rfl) (by kernel_rfl) (by kernel_rfl) (by decide) (fun _ _ _ h => h) (Or.inl ⟨by kernel_rfl, by (intro w _; go_simp; try with_reducible rfl)⟩) (fun _ => hS) ?_
        (try simp only [List.getElem_toArray, List.getElem_cons_zero, List.getElem_cons_succ])
        (try go_frame)
        refine g_take0 (i := 1) rfl (by kernel_rfl) (by kernel_rfl) (by kernel_rfl) (by decide) (fun _ _ _ h => h) (Or.inl ⟨by kernel_rfl, by (intro w _; go_simp; try with_reducible rfl)⟩) (fun _ => hS) ?_
        (try simp only [List.getElem_toArray, List.getElem_cons_zero, List.getElem_cons_succ])
        (try go_frame)
        refine g_take0 (i := 2) rfl (by kernel_rfl) (by kernel_rfl) (by kernel_rfl) (by decide) (fun _ _ _ h => h) (Or.inl ⟨by kernel_rfl, by (intro w _; go_simp; try with_reducible rfl)⟩) (fun _ => hS) ?_
        (try simp only [List.getElem_toArray, List.getElem_cons_zero, List.getElem_cons_succ])
        (try go_frame)
        refine g_take (i := 3) (v := .int .i64 S.next) rfl (by kernel_rfl) (by kernel_rfl) (by kernel_rfl) (by kernel_rfl) (fun _ _ _ h => h) (Or.inl ⟨by kernel_rfl, by (intro w hSw; (try dsimp only at hSw); obtain ⟨z0, z1⟩ := hSw; go_simp; try with_reducible rfl)⟩) hS ?_
        (try simp only [List.getElem_toArray, List.getElem_cons_zero, List.getElem_cons_succ])
        (try go_frame)
        refine g_take0 (i := 4) rfl (by kernel_rfl) (by kernel_rfl) (by kernel_rfl) (by decide) (fun _ _ _ h => h) (Or.inl ⟨by kernel_rfl, by (intro w _; go_simp; try with_reducible rfl)⟩) (fun _ => hS) ?_
        (try simp only [List.getElem_toArray, List.getElem_cons_zero, List.getElem_cons_succ])
        (try go_frame)
        refine g_take0 (i := 5) (v := .int .i64 (l.length : Int)) rfl (by kernel_rfl) (by kernel_rfl) (by kernel_rfl) (by decide) (fun _ _ _ h => h) (Or.inl ⟨by kernel_rfl, by (intro w _; go_simp; try with_reducible rfl)⟩) (fun _ => hS) ?_
        (try simp only [List.getElem_toArray, List.getElem_cons_zero, List.getElem_cons_succ])
        (try go_frame)
        refine g_take0 (i := 6) (v := .int .i64 (ps : Int)) rfl (by kernel_rfl) (by kernel_rfl) (by kernel_rfl) (by decide) (fun _ _ _ h => h) (Or.inl ⟨by kernel_rfl, by (intro w _; go_simp; try with_reducible rfl)⟩) (fun _ => hS) ?_
        (try simp only [List.getElem_toArray, List.getElem_cons_zero, List.getElem_cons_succ])
        (try go_frame)
        refine g_take0 (i := 7) rfl (by kernel_rfl) (by kernel_rfl) (by kernel_rfl) (by decide) (fun _ _ _ h => h) (Or.inl ⟨by kernel_rfl, by (intro w _; go_simp; try with_reducible rfl)⟩) (fun _ => hS) ?_
        (try simp only [List.getElem_toArray, List.getElem_cons_zero, List.getElem_cons_succ])
        (try go_frame)
        refine g_take0 (i := 9) rfl (by kernel_rfl) (by kernel_rfl) (by kernel_rfl) (by decide) (fun _ _ _ h => h) (Or.inl ⟨by kernel_rfl, by (intro w _; go_simp; try with_reducible rfl)⟩) (fun _ => hS) ?_
        (try simp only [List.getElem_toArray, List.getElem_cons_zero, List.getElem_cons_succ])
        (try go_frame)
        refine g_take0 (i := 10) rfl (by kernel_rfl) (by kernel_rfl) (by kernel_rfl) (by decide) (fun _ _ _ h => h) (Or.inl ⟨by kernel_rfl, by (intro w _; go_simp; try with_reducible rfl)⟩) (fun _ => hS) ?_
        (try simp only [List.getElem_toArray, List.getElem_cons_zero, List.getElem_cons_succ])
        (try go_frame)
        refine g_take0 (i := 11) rfl (by kernel_rfl) (by kernel_rfl) (by kernel_rfl) (by decide) (fun _ _ _ h => h) (Or.inl ⟨by kernel_rfl, by (intro w _; go_simp; try with_reducible rfl)⟩) (fun _ => hS) ?_
        (try simp only [List.getElem_toArray, List.getElem_cons_zero, List.getElem_cons_succ])
        (try go_frame)
        refine g_take (i := 12) (v := .slice ar S.recs.length cr) rfl (by kernel_rfl) (by kernel_rfl) (by kernel_rfl) (by kernel_rfl) (fun _ _ _ h => h) (Or.inl ⟨by kernel_rfl, by (intro w hSw; (try dsimp only at hSw); obtain ⟨z0, z1⟩ := hSw; go_simp; try with_reducible rfl)⟩) hS ?_
        (try simp only [List.getElem_toArray, List.getElem_cons_zero, List.getElem_cons_succ])
        (try go_frame)
        refine g_take0 (i := 13) (v := .int .i64 (S.recs.length : Int)) rfl (by kernel_rfl) (by kernel_rfl) (by kernel_rfl) (by decide) (fun _ _ _ h => h) (Or.inl ⟨by kernel_rfl, by (intro w _; go_simp; try with_reducible rfl)⟩) (fun _ => hS) ?_
        (try simp only [List.getElem_toArray, List.getElem_cons_zero, List.getElem_cons_succ])
        (try go_frame)
        refine g_take0 (i := 14) rfl (by kernel_rfl) (by kernel_rfl) (by kernel_rfl) (by decide) (fun _ _ _ h => h) (Or.inl ⟨by kernel_rfl, by (intro w _; go_simp; try with_reducible rfl)⟩) (fun _ => hS) ?_
        (try simp only [List.getElem_toArray, List.getElem_cons_zero, List.getElem_cons_succ])
        (try go_frame)
        refine g_take0 (i := 15) rfl (by kernel_rfl) (by kernel_rfl) (by kernel_rfl) (by decide) (fun _ _ _ h => h) (Or.inl ⟨by kernel_rfl, by (intro w _; go_simp; try with_reducible rfl)⟩) (fun _ => hS) ?_
        (try simp only [List.getElem_toArray, List.getElem_cons_zero, List.getElem_cons_succ])
        (try go_frame)
        refine g_take0 (i := 16) (v := .int .i64 (r.length : Int)) rfl (by kernel_rfl) (by kernel_rfl) (by kernel_rfl) (by decide) (fun _ _ _ h => h) (Or.inl ⟨by kernel_rfl, by (intro w _; go_simp; try with_reducible rfl)⟩) (fun _ => hS) ?_
        (try simp only [List.getElem_toArray, List.getElem_cons_zero, List.getElem_cons_succ])
        (try go_frame)
        refine g_take0 (i := 17) rfl (by kernel_rfl) (by kernel_rfl) (by kernel_rfl) (by decide) (fun _ _ _ h => h) (Or.inl ⟨by kernel_rfl, by (intro w _; go_simp; try with_reducible rfl)⟩) (fun _ => hS) ?_
        (try simp only [List.getElem_toArray, List.getElem_cons_zero, List.getElem_cons_succ])
        (try go_frame)
        refine g_take0 (i := 18) (v := .int .i64 (rs : Int)) rfl (by kernel_rfl) (by kernel_rfl) (by kernel_rfl) (by decide) (fun _ _ _ h => h) (Or.inl ⟨by kernel_rfl, by (intro w _; go_simp; try with_reducible rfl)⟩) (fun _ => hS) ?_
        (try simp only [List.getElem_toArray, List.getElem_cons_zero, List.getElem_cons_succ])
        (try go_frame)
        clear hS
        refine g_two (i := 8) (j := 20) (by kernel_rfl) rfl rfl ?_ ?_
        · skip
          go_wp2_with fail
          refine (LC.out _ (U.out.trans UD.out)).mono ?_
          rintro e W1 ⟨rfl, u_⟩
          have U1 := hid (UD.out.trans u_)
          have U_ := hid u_
          clear u_
          go_wp2_with fail
          first | (refine ⟨fun _ => SHOW.out W1 U1.out, ?_⟩) | (refine ⟨SHOW.out W1 U1.out, ?_⟩)
          (try simp only [List.getElem_toArray, List.getElem_cons_zero, List.getElem_cons_succ])
          (try go_frame)
          refine g_take0 (i := 19) rfl (by kernel_rfl) (by kernel_rfl) (by kernel_rfl) (by decide) (fun _ _ _ h => h) (Or.inl ⟨by kernel_rfl, by (intro w _; go_simp; try with_reducible rfl)⟩) (fun _ => (SHOW.out W1 U1.out)) ?_
          (try simp only [List.getElem_toArray, List.getElem_cons_zero, List.getElem_cons_succ])
          (try go_frame)
          refine g_op (i := 20) (by kernel_rfl) rfl ?_
          go_wp2_with fail
          obtain ⟨W2, hW2⟩ : ∃ W', W1.alloc (.cells #[.int .i64 0, .int .i64 0, .int .i64 0, .int .i64 0, .int .i64 0, .int .i64 0, .string ⟨#[]⟩] 75 (0, 0)) = W' := ⟨_, rfl⟩
          have bz : W2.heap[W1.heap.size]? = some (.cells (pgC ⟨0, 0, 0, 0, 0, 0, []⟩) 75 (0, 0)) := by rw [← hW2]; exact heap_alloc_new
          have U2 := hid (show Upd (fun _ => False) wr W2 by rw [← hW2]; exact U1.out.alloc _)
          obtain ⟨tb, htb⟩ : ∃ tb, W1.heap.size = tb := ⟨_, rfl⟩
          have HTB := hid (show wr.heap.size ≤ tb from by rw [← htb]; exact U1.out.size)
          try rw [hW2]
          rw [htb] at bz
          try rw [htb]
          have BZ := hid bz
          clear hW2 htb bz
          first | (refine ⟨fun _ => SHOW.out W2 U2.out, ?_⟩) | (refine ⟨SHOW.out W2 U2.out, ?_⟩)
          (try simp only [List.getElem_toArray, List.getElem_cons_zero, List.getElem_cons_succ])
          (try go_frame)
          obtain ⟨⟨z0, z1, z2, z3, z4, z5, z6⟩, zf⟩ := zero_cells BZ.out (Upd.refl (fun _ => False) W2)
          have RS := hid (rd_store (pg := ⟨0, ps, sl, S.recs.length, f, rs, []⟩) BZ.out (Upd.refl (fun _ => False) W2) U2.out HTB.out)
          clear HCH HRM LC
          refine g_op (i := 21) (by kernel_rfl) rfl ?_
          go_wp2_with fail
          refine ⟨fun h => (Bool.false_ne_true (h.symm.trans (by kernel_rfl))).elim, ?_⟩
          (try simp only [List.getElem_toArray, List.getElem_cons_zero, List.getElem_cons_succ])
          (try go_frame)
          refine g_done (by kernel_rfl) ?_
          clear z0 z1 z2 z3 z4 z5 z6 zf
          go_wp2_with fail
          go_meet
          case rel => exact ⟨tb, rfl, HTB.out, RS.out.1, RS.out.2.2⟩
        · skip
          go_wp2_with fail
          obtain ⟨W1, hW1⟩ : ∃ W', Wd.alloc (.cells #[.int .i64 0, .int .i64 0, .int .i64 0, .int .i64 0, .int .i64 0, .int .i64 0, .string ⟨#[]⟩] 75 (0, 0)) = W' := ⟨_, rfl⟩
          have bz : W1.heap[Wd.heap.size]? = some (.cells (pgC ⟨0, 0, 0, 0, 0, 0, []⟩) 75 (0, 0)) := by rw [← hW1]; exact heap_alloc_new
          have U1 := hid (show Upd (fun _ => False) wr W1 by rw [← hW1]; exact UD.out.alloc _)
          obtain ⟨tb, htb⟩ : ∃ tb, Wd.heap.size = tb := ⟨_, rfl⟩
          have HTB := hid (show wr.heap.size ≤ tb from by rw [← htb]; exact UD.out.size)
          try rw [hW1]
          rw [htb] at bz
          try rw [htb]
          have BZ := hid bz
          clear hW1 htb bz
          first | (refine ⟨fun _ => SHOW.out W1 U1.out, ?_⟩) | (refine ⟨SHOW.out W1 U1.out, ?_⟩)
          (try simp only [List.getElem_toArray, List.getElem_cons_zero, List.getElem_cons_succ])
          (try go_frame)
          refine g_op (i := 8) (by kernel_rfl) rfl ?_
          go_wp2_with fail
          refine (LC.out _ (U.out.trans U1.out)).mono ?_
          rintro e W2 ⟨rfl, u_⟩
          have U2 := hid (U1.out.trans u_)
          have U_ := hid u_
          clear u_
          go_wp2_with fail
          first | (refine ⟨fun _ => SHOW.out W2 U2.out, ?_⟩) | (refine ⟨SHOW.out W2 U2.out, ?_⟩)
          (try simp only [List.getElem_toArray, List.getElem_cons_zero, List.getElem_cons_succ])
          (try go_frame)
          refine g_take0 (i := 19) rfl (by kernel_rfl) (by kernel_rfl) (by kernel_rfl) (by decide) (fun _ _ _ h => h) (Or.inl ⟨by kernel_rfl, by (intro w _; go_simp; try with_reducible rfl)⟩) (fun _ => (SHOW.out W2 U2.out)) ?_
          (try simp only [List.getElem_toArray, List.getElem_cons_zero, List.getElem_cons_succ])
          (try go_frame)
          obtain ⟨⟨z0, z1, z2, z3, z4, z5, z6⟩, zf⟩ := zero_cells BZ.out U_.out
          have RS := hid (rd_store (pg := ⟨0, ps, sl, S.recs.length, f, rs, []⟩) BZ.out U_.out U1.out HTB.out)
          clear HCH HRM LC
          refine g_op (i := 21) (by kernel_rfl) rfl ?_
          go_wp2_with fail
          refine ⟨fun h => (Bool.false_ne_true (h.symm.trans (by kernel_rfl))).elim, ?_⟩
          (try simp only [List.getElem_toArray, List.getElem_cons_zero, List.getElem_cons_succ])
          (try go_frame)
          refine g_done (by kernel_rfl) ?_
          clear z0 z1 z2 z3 z4 z5 z6 zf
          go_wp2_with fail
          go_meet
          case rel => exact ⟨tb, rfl, HTB.out, RS.out.1, RS.out.2.2⟩
      case rest =>
        obtain ⟨t, rfl, htl, ut, hbt⟩ := hcut
        have UT := hid ut; have HBT := hid hbt; have HTL := hid htl
        have TXT := hid (show (pgC ⟨0, ps, sl, S.recs.length, f, rs, []⟩) = #[.int .i64 0, .int .i64 ps, .int .i64 sl, .int .i64 S.recs.length, .int .i64 f, .int .i64 rs, .string ⟨#[]⟩] from rfl)
        clear ut hbt htl w1a w1b w2a w2b f1 f2
        obtain ⟨w3a, w3b⟩ := HW3.out
        go_upto_region 7 with (fail)
        have SHOW := hid (fun (wq : World) (u : Upd (fun _ => False) wc wq) => (show wq.cell? ⟨t, 0, none⟩ = some (.int .i64 0) ∧ wq.cell? ⟨t, 1, none⟩ = some (.int .i64 ps) ∧ wq.cell? ⟨t, 2, none⟩ = some (.int .i64 sl) ∧ wq.cell? ⟨t, 3, none⟩ = some (.int .i64 S.recs.length) ∧ wq.cell? ⟨t, 4, none⟩ = some (.int .i64 f) ∧ wq.cell? ⟨t, 5, none⟩ = some (.int .i64 rs) ∧ wq.cell? ⟨t, 6, none⟩ = some (.string ⟨#[]⟩) from pg_cells ((u.block t (heap_lt HBT.out) id).trans HBT.out)))
        refine wp_region_g (fun wq => wq.cell? ⟨t, 0, none⟩ = some (.int .i64 0) ∧ wq.cell? ⟨t, 1, none⟩ = some (.int .i64 ps) ∧ wq.cell? ⟨t, 2, none⟩ = some (.int .i64 sl) ∧ wq.cell? ⟨t, 3, none⟩ = some (.int .i64 S.recs.length) ∧ wq.cell? ⟨t, 4, none⟩ = some (.int .i64 f) ∧ wq.cell? ⟨t, 5, none⟩ = some (.int .i64 rs) ∧ wq.cell? ⟨t, 6, none⟩ = some (.string ⟨#[]⟩)) 8 (by kernel_rfl) ?_
        obtain ⟨Wd, hWd⟩ : ∃ Wd, wc.drew = Wd := ⟨_, rfl⟩
        have UD := hid (show Upd (fun _ => False) wc Wd by rw [← hWd]; exact (Upd.refl _ _).drew)
        rw [hWd]
        clear hWd
        have hS := SHOW.out Wd UD.out
        have EX := hid (fun (wq : World) (u : Upd (fun _ => False) wc wq) => HE.out.keep0 ((U.out.trans UT.out).trans u))
        refine g_take0 (i := 0) rfl (by kernel_rfl) (by kernel_rfl) (by kernel_rfl) (by decide) (fun _ _ _ h => h) (Or.inl ⟨by kernel_rfl, by (intro w _; go_simp; try with_reducible rfl)⟩) (fun _ => hS) ?_
        (try simp only [List.getElem_toArray, List.getElem_cons_zero, List.getElem_cons_succ])
        (try go_frame)
        refine g_takeP [8, 7, 2] (i := 1) (v := .agg #[.int .i64 0, .int .i64 ps, .int .i64 sl, .int .i64 S.recs.length, .int .i64 f, .int .i64 rs, .string ⟨#[]⟩]) rfl (by kernel_rfl) (by kernel_rfl) (by kernel_rfl) (by kernel_rfl) (fun _ _ _ h => h) (Or.inl ⟨by kernel_rfl, by (intro w hSw; (try dsimp only at hSw); obtain ⟨z0, z1, z2, z3, z4, z5, z6⟩ := hSw; go_simp; try with_reducible rfl)⟩) hS ?_
        (try simp only [List.getElem_toArray, List.getElem_cons_zero, List.getElem_cons_succ])
        (try go_frame)
        refine g_take0 (i := 3) rfl (by kernel_rfl) (by kernel_rfl) (by kernel_rfl) (by decide) (fun _ _ _ h => h) (Or.inl ⟨by kernel_rfl, by (intro w _; go_simp; try with_reducible rfl)⟩) (fun _ => hS) ?_
        (try simp only [List.getElem_toArray, List.getElem_cons_zero, List.getElem_cons_succ])
        (try go_frame)
        refine g_take0 (i := 4) rfl (by kernel_rfl) (by kernel_rfl) (by kernel_rfl) (by decide) (fun _ _ _ h => h) (Or.inl ⟨by kernel_rfl, by (intro w _; go_simp; try with_reducible rfl)⟩) (fun _ => hS) ?_
        (try simp only [List.getElem_toArray, List.getElem_cons_zero, List.getElem_cons_succ])
        (try go_frame)
        refine g_take0 (i := 5) rfl (by kernel_rfl) (by kernel_rfl) (by kernel_rfl) (by decide) (fun _ _ _ h => h) (Or.inl ⟨by kernel_rfl, by (intro w _; go_simp; try with_reducible rfl)⟩) (fun _ => hS) ?_
        (try simp only [List.getElem_toArray, List.getElem_cons_zero, List.getElem_cons_succ])
        (try go_frame)
        refine g_takeP [8, 7] (i := 6) (v := .agg #[.int .i64 0, .int .i64 ps, .int .i64 sl, .int .i64 S.recs.length, .int .i64 f, .int .i64 rs, .string ⟨#[]⟩]) rfl (by kernel_rfl) (by kernel_rfl) (by kernel_rfl) (by kernel_rfl) (fun _ _ _ h => h) (Or.inl ⟨by kernel_rfl, by (intro w hSw; (try dsimp only at hSw); obtain ⟨z0, z1, z2, z3, z4, z5, z6⟩ := hSw; go_simp; try with_reducible rfl)⟩) hS ?_
        (try simp only [List.getElem_toArray, List.getElem_cons_zero, List.getElem_cons_succ])
        (try go_frame)
        clear hS
        refine g_op (i := 2) (by kernel_rfl) rfl ?_
        go_wp2_with fail
        refine (HCH.out _ (EX.out _ UD.out)).mono ?_
        rintro e W1 ⟨rfl, u_⟩
        have U1 := hid (UD.out.trans u_)
        clear u_
        go_wp2_with fail
        first | (refine ⟨fun _ => SHOW.out W1 U1.out, ?_⟩) | (refine ⟨SHOW.out W1 U1.out, ?_⟩)
        (try simp only [List.getElem_toArray, List.getElem_cons_zero, List.getElem_cons_succ])
        (try go_frame)
        refine g_op (i := 7) (by kernel_rfl) rfl ?_
        go_wp2_with fail
        refine (HRM.out _ (EX.out _ U1.out)).mono ?_
        rintro e W2 ⟨rfl, u_⟩
        have U2 := hid (U1.out.trans u_)
        clear u_
        go_wp2_with fail
        first | (refine ⟨fun _ => SHOW.out W2 U2.out, ?_⟩) | (refine ⟨SHOW.out W2 U2.out, ?_⟩)
        (try simp only [List.getElem_toArray, List.getElem_cons_zero, List.getElem_cons_succ])
        (try go_frame)
        refine g_op (i := 8) (by kernel_rfl) rfl ?_
        go_wp2_with fail
        refine ⟨fun h => (Bool.false_ne_true (h.symm.trans (by kernel_rfl))).elim, ?_⟩
        (try simp only [List.getElem_toArray, List.getElem_cons_zero, List.getElem_cons_succ])
        (try go_frame)
        have hext := HEXT.out
        clear f3 w3a w3b
        refine g_op (i := 9) (by kernel_rfl) rfl ?_
        go_wp2_with fail
        refine ⟨fun h => (Bool.false_ne_true (h.symm.trans (by kernel_rfl))).elim, ?_⟩
        (try simp only [List.getElem_toArray, List.getElem_cons_zero, List.getElem_cons_succ])
        (try go_frame)
        clear hext
        have hadd := HADD.out
        refine g_op (i := 10) (by kernel_rfl) rfl ?_
        go_wp2_with fail
        refine ⟨fun h => (Bool.false_ne_true (h.symm.trans (by kernel_rfl))).elim, ?_⟩
        (try simp only [List.getElem_toArray, List.getElem_cons_zero, List.getElem_cons_succ])
        (try go_frame)
        clear hadd
        obtain ⟨tx, htx⟩ : ∃ tx, hd ++ ch = tx := ⟨_, rfl⟩
        rw [htx] at PN
        try rw [htx]
        clear htx
        refine g_op (i := 11) (by kernel_rfl) rfl ?_
        go_wp2_with fail
        obtain ⟨W3, hW3⟩ : ∃ W', W2.alloc (.cells #[.string ⟨tx.toArray⟩] 9 (0, 0)) = W' := ⟨_, rfl⟩
        have b7 : W3.heap[W2.heap.size]? = some (.cells #[strV tx] 9 (0, 0)) := by rw [← hW3]; exact heap_alloc_new
        have U3 := hid (show Upd (fun _ => False) wc W3 by rw [← hW3]; exact U2.out.alloc _)
        rw [hW3]
        clear hW3
        refine ⟨fun h => (Bool.false_ne_true (h.symm.trans (by kernel_rfl))).elim, ?_⟩
        (try simp only [List.getElem_toArray, List.getElem_cons_zero, List.getElem_cons_succ])
        (try go_frame)
        obtain ⟨v8, W4, r8, o8, u8, n8⟩ := Own1.app elemS (Own1.upd (Own1.upd OW.out UT.out fun _ _ => id) U3.out fun _ _ => id) (strV tx) rfl hll5.out (by decide) 50 b7
        obtain ⟨a8, c8, rfl, _, _⟩ := o8.fits
        have O8 := hid o8
        have N8 := hid (show ∀ g, (Value.slice a8 (l.length + 1) c8).ownBlock = some g → w.heap.size ≤ g from fun g hg => by
          rcases n8 with n8 | ⟨g', n8, hs⟩
          · exact NW.out g (by rw [← n8]; exact hg)
          · rw [hg] at n8; injection n8 with n8; subst n8; exact Nat.le_trans U.out.size (Nat.le_trans UT.out.size (Nat.le_trans U3.out.size hs)))
        have U4 := hid (show Upd (fun _ => False) w W4 from ((U.out.trans UT.out).trans U3.out).comp u8 fun i hi e => absurd (NW.out i e.1) (by omega))
        have B4 := hid ((u8.block t (heap_lt ((U3.out.block t (heap_lt HBT.out) id).trans HBT.out)) fun e => own_ne (Own1.upd (Own1.upd OW.out UT.out fun _ _ => id) U3.out fun _ _ => id) ((U3.out.block t (heap_lt HBT.out) id).trans HBT.out) (by decide) t e.1 rfl).trans ((U3.out.block t (heap_lt HBT.out) id).trans HBT.out))
        clear o8 u8 n8
        refine g_op (i := 12) (by kernel_rfl) rfl ?_
        (try simp only [List.getElem_toArray, List.getElem_cons_zero, List.getElem_cons_succ])
        (try go_frame)
        refine wpList_append_run rfl _ _ _ _ rfl rfl rfl r8 ?_
        go_wp2_with fail
        clear r8
        refine ⟨fun h => (Bool.false_ne_true (h.symm.trans (by kernel_rfl))).elim, ?_⟩
        (try simp only [List.getElem_toArray, List.getElem_cons_zero, List.getElem_cons_succ])
        (try go_frame)
        refine g_op (i := 13) (by kernel_rfl) rfl ?_
        go_wp2_with fail
        refine ⟨fun h => (Bool.false_ne_true (h.symm.trans (by kernel_rfl))).elim, ?_⟩
        (try simp only [List.getElem_toArray, List.getElem_cons_zero, List.getElem_cons_succ])
        (try go_frame)
        refine g_done (by kernel_rfl) ?_
        obtain ⟨z0, z1, z2, z3, z4, z5, z6⟩ := (show W4.cell? ⟨t, 0, none⟩ = some (.int .i64 0) ∧ W4.cell? ⟨t, 1, none⟩ = some (.int .i64 ps) ∧ W4.cell? ⟨t, 2, none⟩ = some (.int .i64 sl) ∧ W4.cell? ⟨t, 3, none⟩ = some (.int .i64 S.recs.length) ∧ W4.cell? ⟨t, 4, none⟩ = some (.int .i64 f) ∧ W4.cell? ⟨t, 5, none⟩ = some (.int .i64 rs) ∧ W4.cell? ⟨t, 6, none⟩ = some (.string ⟨#[]⟩) from pg_cells B4.out)
        have HRM2 := hid (HRM.out W4 (HE.out.keep0 U4.out))
        clear HCH HRM LC EX SHOW
        go_wp2_with fail
        refine HRM2.out.mono ?_
        rintro e W5 ⟨rfl, u5⟩
        have U5 := hid (U4.out.trans u5); have O9 := hid (Own1.upd O8.out u5 fun _ _ => id)
        clear u5 z0 z1 z2 z3 z4 z5 z6
        have f3 : (f : Int) + rm = t1 := F3.out
        obtain ⟨w3a, w3b⟩ := HW3.out
        go_wp2_with fail
        go_roundg n'
        case measure => clear w3a w3b; omega
        case rel => exact ⟨l ++ [tx], a8, c8, t1, by rw [List.length_append]; rfl, rfl, PN.out, by rw [show (l ++ [tx]).length = l.length + 1 from by rw [List.length_append]; rfl]; unfold OwnS; rw [List.length_append, List.map_append]; exact O9.out, by rw [show (l ++ [tx]).length = l.length + 1 from by rw [List.length_append]; rfl]; exact N8.out, U5.out⟩
    have hc2i : ¬ (l.length : Int) = 0 := by omega
    have hc2b : ((l.length : Int) == 0) = false := beq_eq_false_iff_ne.2 hc2i
    have RT := hid (PA.out.done hc1 hc2)
    obtain ⟨m1, hm1⟩ : ∃ m, S.next + l.length = m := ⟨_, rfl⟩
    obtain ⟨m2, hm2⟩ : ∃ m, S.next + l.length - 1 = m := ⟨_, rfl⟩
    obtain ⟨m3, hm3⟩ : ∃ m, S.next + l.length - 1 + F.np = m := ⟨_, rfl⟩
    have ST := hid (H.out.upd0 U.out)
    obtain ⟨⟨c0, c1, c2, c3, c4, c5, c6⟩, hf⟩ := ST.out.cells
    have hnp := ST.out.flash.ok.np
    have hnx := SM.out.next
    have f1 : (S.next : Int) + l.length = m1 := by omega
    have f2 : (m1 : Int) - 1 = m2 := by omega
    have f3 : (m2 : Int) + F.np = m3 := by omega
    have b1 : m1 ≤ 1000000000 := by omega
    have b2 : m2 ≤ 1000000000 := by omega
    have b3 : m3 ≤ 1000000000 := by omega
    have HM3 := hid (show m3 ≤ 2000000 by omega)
    have FC := hid (fun (b : Bool) (hb : fitsP F S m3 = b) => (show Calls Tryz.prog 44 #[.pointer (some ⟨x, 0, none⟩), .int .i64 m3] wr fun e w' => e = .returned (.bool b) ∧ Upd (fun _ => False) wr w' from by rw [← hb]; exact fits_any ST.out OK.out m3 HM3.out))
    have M3 := hid hm3
    have HC2 := hid hc2
    have HLP := hid (show 0 < l.length by omega)
    clear hm1 hm2 hm3 hnp hnx hc2
    obtain ⟨w1a, w1b⟩ := wrap_nat b1
    obtain ⟨w2a, w2b⟩ := wrap_nat b2
    obtain ⟨w3a, w3b⟩ := wrap_nat b3
    clear b1 b2 b3
    cases hfit : fitsP F S m3 with
    | false =>
      have R := hid (append_full RT.out H4.out (by rw [M3.out]; exact hfit))
      have FC1 := hid (FC.out false hfit)
      clear hfit
      go_wp2_with fail
      refine FC1.out.mono ?_
      rintro e w2 ⟨rfl, u2⟩
      have ST2 := hid (ST.out.upd0 u2); have U2 := hid (U.out.trans u2)
      clear u2
      go_wp2_with fail
      go_ret
      exact call_same R.out ST2.out (.of0 U2.out)
    | true =>
      have FC1 := hid (FC.out true hfit)
      have HFIT := hid (show fitsP F S (S.next + l.length - 1 + F.np) = true by rw [M3.out]; exact hfit)
      clear hfit
      obtain ⟨gt, ct, hvt, hbt, hgtl, _, _, hct⟩ := OW.out.cell HLP.out
      injection hvt with hv1 _ hv3
      subst hv1 hv3
      have HCT := hid hct
      have HGT := hid (NW.out gt rfl)
      clear hct hbt hgtl
      go_wp2_with fail
      refine FC1.out.mono ?_
      rintro e w2 ⟨rfl, u2⟩
      have ST2 := hid (ST.out.upd0 u2); have U2 := hid (U.out.trans u2)
      have HCT2 := hid (fun (j : Nat) (u : Value) (hj : (l.map strV)[j]? = some u) => cell_kept (HCT.out j u hj) (u2.block gt (World.block_lt_of_cell? _ _ (HCT.out j u hj)) id))
      clear u2 c0 c1 c2 c3 c4 c5 c6 hf w1a w1b w2a w2b w3a w3b f1 f2 f3
      go_wp2_with fail
      go_loopg [80] l.length (fun gg s80 wy => ∃ (k : Nat) (G : Fl) (T : St), s80 = .int .i64 k ∧ k ≤ l.length ∧ gg = l.length - k ∧ WriteAt F S l k G T ∧ StoreAt wy O x p q G T (.slice ar S.recs.length cr) va ∧ Sto O w2 wy)
      case atStart => exact ⟨0, F, S, rfl, Nat.zero_le _, rfl, writeAt_zero HD.out, ST2.out, Sto.refl _ _⟩
      case round =>
        obtain ⟨k, G, T, rfl, hk, hg, hwa, hst, hso⟩ := hrel
        have WA := hid hwa; have SG := hid hst; have SO := hid hso; have HG := hid hg
        clear hwa hst hso hg
        by_cases hkl : k < l.length
        case pos =>
          have hkli : (k : Int) < l.length := by omega
          have ck := cell_kept (HCT2.out k (strV l[k]) (by simp [hkl])) (SO.out.block (Nat.lt_of_lt_of_le (World.block_lt_of_cell? _ _ (HCT2.out k (strV l[k]) (by simp [hkl]))) (Nat.le_refl _)) (fun e => absurd (H.out.lt gt e) (by have := HGT.out; omega)))
          have WC := hid (write_any SG.out WA.out.up (by have := WA.out.next; have := OK.out.next; omega) l[k] (rec_texts SM.out l[k] (by rw [RT.out]; exact List.getElem_mem hkl)))
          have GD := hid (WA.out.good hkl); have BD := hid (WA.out.bad hkl)
          obtain ⟨R, hR⟩ : ∃ R, writeP G T l[k] = R := ⟨_, rfl⟩
          rw [hR] at WC GD BD
          clear hR
          obtain ⟨tk, htk⟩ : ∃ tk, l[k] = tk := ⟨_, rfl⟩
          rw [htk] at ck WC
          clear htk
          obtain ⟨G2, T2, e2⟩ := R
          go_wp2_with fail
          refine WC.out.mono ?_
          rintro e w3 ⟨rfl, st3, so3⟩
          have ST3 := hid st3; have SO3 := hid (SO.out.then so3)
          clear st3 so3 ck
          dsimp only at GD BD ST3 ⊢
          by_cases h2 : e2 = 0
          case pos =>
            subst h2
            have GD1 := hid (GD.out rfl)
            go_wp2_with fail
            go_roundg (l.length - (k + 1))
            case measure => have := HG.out; omega
            case rel => exact ⟨k + 1, _, _, by go_num, hkl, rfl, GD1.out, ST3.out, SO3.out⟩
          have g2 : (e2 == 0) = false := beq_eq_false_iff_ne.2 h2
          have R := hid (append_bad RT.out H4.out HFIT.out (by rw [BD.out h2]; exact h2))
          have R2 := hid (R.out.trans (BD.out h2))
          go_wp2_with fail
          go_ret
          exact call_same R2.out ST3.out ((Sto.of0 U2.out).then SO3.out)
        have hkli : ¬ (k : Int) < l.length := by omega
        have R := hid (show appendP F S r = (G, { T with recs := T.recs ++ [r], ats := T.ats ++ [S.next] }, 0) by rw [WA.out.recs, WA.out.ats]; exact append_good RT.out H4.out HFIT.out (WA.out.end_ (by omega)))
        go_upto_region 19 with (fail)
        obtain ⟨W, hW⟩ : ∃ W, wr = W := ⟨_, rfl⟩
        have SW := hid (show StoreAt W O x p q G T (.slice ar S.recs.length cr) va by rw [← hW]; exact SG.out)
        have SOW := hid (show Sto O w W by rw [← hW]; exact (Sto.of0 U2.out).then SO.out)
        have HLN := hid (show T.recs.length + 1 ≤ 1000000 ∧ T.ats.length + 1 ≤ 1000000 by have h1 := OK.out.same; have h2 : S.recs.length ≤ S.len := (by unfold St.len; omega); have h3 := OK.out.len; rw [WA.out.recs, WA.out.ats]; omega)
        rw [hW]
        clear hW
        have HX := hid SW.out.head
        have CL := hid (fun (w' : World) (e : w'.heap[x]? = W.heap[x]?) => SW.out.cells_of e)
        refine wp_region_g (fun w' => w'.cell? ⟨x, 5, none⟩ = some (.slice ar S.recs.length cr) ∧ w'.cell? ⟨x, 6, none⟩ = some va) 15 (by kernel_rfl) ?_
        obtain ⟨Wd, hWd⟩ : ∃ Wd, W.drew = Wd := ⟨_, rfl⟩
        have uWd : Upd (fun _ => False) W Wd := by rw [← hWd]; exact (Upd.refl _ _).drew
        have R0 := hid (SW.out.rowsOf.upd0 (heap_lt SW.out.head) uWd)
        rw [hWd]
        clear hWd uWd
        have hS := CL.out Wd R0.out.hx
        refine g_take0 (i := 0) rfl (by kernel_rfl) (by kernel_rfl) (by kernel_rfl) (by decide) (fun _ _ _ h => h) (Or.inl ⟨by kernel_rfl, by (intro w _; go_simp; try with_reducible rfl)⟩) (fun _ => hS) ?_
        (try simp only [List.getElem_toArray, List.getElem_cons_zero, List.getElem_cons_succ])
        (try go_frame)
        refine g_take0 (i := 1) rfl (by kernel_rfl) (by kernel_rfl) (by kernel_rfl) (by decide) (fun _ _ _ h => h) (Or.inl ⟨by kernel_rfl, by (intro w _; go_simp; try with_reducible rfl)⟩) (fun _ => hS) ?_
        (try simp only [List.getElem_toArray, List.getElem_cons_zero, List.getElem_cons_succ])
        (try go_frame)
        refine g_take0 (i := 2) rfl (by kernel_rfl) (by kernel_rfl) (by kernel_rfl) (by decide) (fun _ _ _ h => h) (Or.inl ⟨by kernel_rfl, by (intro w _; go_simp; try with_reducible rfl)⟩) (fun _ => hS) ?_
        (try simp only [List.getElem_toArray, List.getElem_cons_zero, List.getElem_cons_succ])
        (try go_frame)
        refine g_take0 (i := 3) rfl (by kernel_rfl) (by kernel_rfl) (by kernel_rfl) (by decide) (fun _ _ _ h => h) (Or.inl ⟨by kernel_rfl, by (intro w _; go_simp; try with_reducible rfl)⟩) (fun _ => hS) ?_
        (try simp only [List.getElem_toArray, List.getElem_cons_zero, List.getElem_cons_succ])
        (try go_frame)
        refine g_take0 (i := 4) rfl (by kernel_rfl) (by kernel_rfl) (by kernel_rfl) (by decide) (fun _ _ _ h => h) (Or.inl ⟨by kernel_rfl, by (intro w _; go_simp; try with_reducible rfl)⟩) (fun _ => hS) ?_
        (try simp only [List.getElem_toArray, List.getElem_cons_zero, List.getElem_cons_succ])
        (try go_frame)
        refine g_takeP [15, 8] (i := 5) (v := .slice ar S.recs.length cr) rfl (by kernel_rfl) (by kernel_rfl) (by kernel_rfl) (by kernel_rfl) (fun _ _ _ h => h) (Or.inl ⟨by kernel_rfl, by (intro w hSw; (try dsimp only at hSw); obtain ⟨z0, z1⟩ := hSw; go_simp; try with_reducible rfl)⟩) hS ?_
        (try simp only [List.getElem_toArray, List.getElem_cons_zero, List.getElem_cons_succ])
        (try go_frame)
        refine g_take0 (i := 6) rfl (by kernel_rfl) (by kernel_rfl) (by kernel_rfl) (by decide) (fun _ _ _ h => h) (Or.inl ⟨by kernel_rfl, by (intro w _; go_simp; try with_reducible rfl)⟩) (fun _ => hS) ?_
        (try simp only [List.getElem_toArray, List.getElem_cons_zero, List.getElem_cons_succ])
        (try go_frame)
        refine g_take0 (i := 9) rfl (by kernel_rfl) (by kernel_rfl) (by kernel_rfl) (by decide) (fun _ _ _ h => h) (Or.inl ⟨by kernel_rfl, by (intro w _; go_simp; try with_reducible rfl)⟩) (fun _ => hS) ?_
        (try simp only [List.getElem_toArray, List.getElem_cons_zero, List.getElem_cons_succ])
        (try go_frame)
        refine g_take0 (i := 10) rfl (by kernel_rfl) (by kernel_rfl) (by kernel_rfl) (by decide) (fun _ _ _ h => h) (Or.inl ⟨by kernel_rfl, by (intro w _; go_simp; try with_reducible rfl)⟩) (fun _ => hS) ?_
        (try simp only [List.getElem_toArray, List.getElem_cons_zero, List.getElem_cons_succ])
        (try go_frame)
        refine g_take0 (i := 11) rfl (by kernel_rfl) (by kernel_rfl) (by kernel_rfl) (by decide) (fun _ _ _ h => h) (Or.inl ⟨by kernel_rfl, by (intro w _; go_simp; try with_reducible rfl)⟩) (fun _ => hS) ?_
        (try simp only [List.getElem_toArray, List.getElem_cons_zero, List.getElem_cons_succ])
        (try go_frame)
        refine g_take (i := 12) (v := va) rfl (by kernel_rfl) (by kernel_rfl) (by kernel_rfl) (by kernel_rfl) (fun _ _ _ h => h) (Or.inl ⟨by kernel_rfl, by (intro w hSw; (try dsimp only at hSw); obtain ⟨z0, z1⟩ := hSw; go_simp; try with_reducible rfl)⟩) hS ?_
        (try simp only [List.getElem_toArray, List.getElem_cons_zero, List.getElem_cons_succ])
        (try go_frame)
        refine g_take0 (i := 13) rfl (by kernel_rfl) (by kernel_rfl) (by kernel_rfl) (by decide) (fun _ _ _ h => h) (Or.inl ⟨by kernel_rfl, by (intro w _; go_simp; try with_reducible rfl)⟩) (fun _ => hS) ?_
        (try simp only [List.getElem_toArray, List.getElem_cons_zero, List.getElem_cons_succ])
        (try go_frame)
        refine g_two (i := 7) (j := 14) (by kernel_rfl) rfl rfl ?_ ?_
        · skip
          go_wp2_with fail
          obtain ⟨W1, hW1⟩ : ∃ W', Wd.alloc (.cells #[.string ⟨r.toArray⟩] 9 (0, 0)) = W' := ⟨_, rfl⟩
          have uW1 : Upd (fun _ => False) Wd W1 := by rw [← hW1]; exact (Upd.refl _ _).alloc _
          have b7 : W1.heap[Wd.heap.size]? = some (.cells #[.string ⟨r.toArray⟩] 9 (0, 0)) := by rw [← hW1]; exact heap_alloc_new
          have R1 := hid (R0.out.upd0 (heap_lt HX.out) uW1)
          rw [hW1]
          clear hW1 uW1
          first | (refine ⟨fun _ => CL.out W1 R1.out.hx, ?_⟩) | (refine ⟨CL.out W1 R1.out.hx, ?_⟩)
          (try simp only [List.getElem_toArray, List.getElem_cons_zero, List.getElem_cons_succ])
          (try go_frame)
          refine g_two (i := 8) (j := 14) (by kernel_rfl) rfl rfl ?_ ?_
          · skip
            obtain ⟨a8, c8, W2, r8, rr8, k8⟩ := R1.out.app1 HX.out r HLN.out.1 50 b7
            have R2 := hid rr8; have K8 := hid k8
            clear rr8 k8
            (try simp only [List.getElem_toArray, List.getElem_cons_zero, List.getElem_cons_succ])
            (try go_frame)
            refine wpList_append_run rfl _ _ _ _ rfl rfl rfl r8 ?_
            go_wp2_with fail
            clear r8
            first | (refine ⟨fun _ => CL.out W2 R2.out.hx, ?_⟩) | (refine ⟨CL.out W2 R2.out.hx, ?_⟩)
            (try simp only [List.getElem_toArray, List.getElem_cons_zero, List.getElem_cons_succ])
            (try go_frame)
            refine g_op (i := 14) (by kernel_rfl) rfl ?_
            go_wp2_with fail
            obtain ⟨W3, hW3⟩ : ∃ W', W2.alloc (.cells #[.int .i64 (S.next : Int)] 3 (0, 0)) = W' := ⟨_, rfl⟩
            have uW3 : Upd (fun _ => False) W2 W3 := by rw [← hW3]; exact (Upd.refl _ _).alloc _
            have b14 : W3.heap[W2.heap.size]? = some (.cells #[.int .i64 (S.next : Int)] 3 (0, 0)) := by rw [← hW3]; exact heap_alloc_new
            have R3 := hid (R2.out.upd0 (heap_lt HX.out) uW3)
            rw [hW3]
            clear hW3 uW3
            first | (refine ⟨fun _ => CL.out W3 R3.out.hx, ?_⟩) | (refine ⟨CL.out W3 R3.out.hx, ?_⟩)
            (try simp only [List.getElem_toArray, List.getElem_cons_zero, List.getElem_cons_succ])
            (try go_frame)
            refine g_op (i := 15) (by kernel_rfl) rfl ?_
            obtain ⟨a15, c15, W4, r15, rr15⟩ := R3.out.app2 HX.out S.next HLN.out.2 51 b14
            have R4 := hid rr15
            clear rr15
            (try simp only [List.getElem_toArray, List.getElem_cons_zero, List.getElem_cons_succ])
            (try go_frame)
            refine wpList_append_run rfl _ _ _ _ rfl rfl rfl r15 ?_
            go_wp2_with fail
            clear r15
            refine ⟨fun h => (Bool.false_ne_true (h.symm.trans (by kernel_rfl))).elim, ?_⟩
            (try simp only [List.getElem_toArray, List.getElem_cons_zero, List.getElem_cons_succ])
            (try go_frame)
            have z5 := (CL.out W4 R4.out.hx).1
            have z6 := (CL.out W4 R4.out.hx).2
            have zf : ∀ o, W4.frozen? ⟨x, o, none⟩ = false := fun o => frozen_of_block (R4.out.hx.trans HX.out)
            have R4 := R4.out
            refine g_take0 (i := 16) rfl (by kernel_rfl) (by kernel_rfl) (by kernel_rfl) (by decide) (fun _ _ _ h => h) (Or.inl ⟨by kernel_rfl, by (intro w _; go_simp; try with_reducible rfl)⟩) ((fun h => (Bool.false_ne_true (h.symm.trans (by kernel_rfl))).elim)) ?_
            (try simp only [List.getElem_toArray, List.getElem_cons_zero, List.getElem_cons_succ])
            (try go_frame)
            refine g_take0 (i := 17) rfl (by kernel_rfl) (by kernel_rfl) (by kernel_rfl) (by decide) (fun _ _ _ h => h) (Or.inl ⟨by kernel_rfl, by (intro w _; go_simp; try with_reducible rfl)⟩) ((fun h => (Bool.false_ne_true (h.symm.trans (by kernel_rfl))).elim)) ?_
            (try simp only [List.getElem_toArray, List.getElem_cons_zero, List.getElem_cons_succ])
            (try go_frame)
            refine g_op (i := 18) (by kernel_rfl) rfl ?_
            go_wp2_with fail
            refine ⟨fun h => (Bool.false_ne_true (h.symm.trans (by kernel_rfl))).elim, ?_⟩
            (try simp only [List.getElem_toArray, List.getElem_cons_zero, List.getElem_cons_succ])
            (try go_frame)
            refine g_take0 (i := 19) rfl (by kernel_rfl) (by kernel_rfl) (by kernel_rfl) (by decide) (fun _ _ _ h => h) (Or.inl ⟨by kernel_rfl, by (intro w _; go_simp; try with_reducible rfl)⟩) ((fun h => (Bool.false_ne_true (h.symm.trans (by kernel_rfl))).elim)) ?_
            (try simp only [List.getElem_toArray, List.getElem_cons_zero, List.getElem_cons_succ])
            (try go_frame)
            refine g_take0 (i := 20) rfl (by kernel_rfl) (by kernel_rfl) (by kernel_rfl) (by decide) (fun _ _ _ h => h) (Or.inl ⟨by kernel_rfl, by (intro w _; go_simp; try with_reducible rfl)⟩) ((fun h => (Bool.false_ne_true (h.symm.trans (by kernel_rfl))).elim)) ?_
            (try simp only [List.getElem_toArray, List.getElem_cons_zero, List.getElem_cons_succ])
            (try go_frame)
            refine g_op (i := 21) (by kernel_rfl) rfl ?_
            go_wp2_with fail
            refine ⟨fun h => (Bool.false_ne_true (h.symm.trans (by kernel_rfl))).elim, ?_⟩
            (try simp only [List.getElem_toArray, List.getElem_cons_zero, List.getElem_cons_succ])
            (try go_frame)
            clear z5 z6 zf
            refine g_done (by kernel_rfl) ?_
            obtain ⟨⟨O2, st2, ho2⟩, s2⟩ := R4.stored SW.out
            have CAN := hid (show CallPost O x p q (appendP F S r) w (.returned (.int .i64 0)) ((W4.setCell ⟨x, 5, none⟩ (.slice a8 (T.recs.length + 1) c8)).setCell ⟨x, 6, none⟩ (.slice a15 (T.ats.length + 1) c15)) by
              unfold CallPost
              rw [R.out]
              exact ⟨rfl, O2, _, _, st2, SOW.out.then s2, fun k hk => (ho2 k hk).imp id fun h => Nat.le_trans SOW.out.size h⟩)
            clear R4 st2 ho2 s2
            go_wp2_with fail
            go_ret
            exact CAN.out
          · skip
            go_wp2_with fail
            obtain ⟨W2, hW2⟩ : ∃ W', W1.alloc (.cells #[.int .i64 (S.next : Int)] 3 (0, 0)) = W' := ⟨_, rfl⟩
            have uW2 : Upd (fun _ => False) W1 W2 := by rw [← hW2]; exact (Upd.refl _ _).alloc _
            have b14 : W2.heap[W1.heap.size]? = some (.cells #[.int .i64 (S.next : Int)] 3 (0, 0)) := by rw [← hW2]; exact heap_alloc_new
            have R2 := hid (R1.out.upd0 (heap_lt HX.out) uW2)
            have b7 := (uW2.block _ (heap_lt b7) id).trans b7
            rw [hW2]
            clear hW2 uW2
            first | (refine ⟨fun _ => CL.out W2 R2.out.hx, ?_⟩) | (refine ⟨CL.out W2 R2.out.hx, ?_⟩)
            (try simp only [List.getElem_toArray, List.getElem_cons_zero, List.getElem_cons_succ])
            (try go_frame)
            refine g_op (i := 8) (by kernel_rfl) rfl ?_
            obtain ⟨a8, c8, W3, r8, rr8, k8⟩ := R2.out.app1 HX.out r HLN.out.1 50 b7
            have R3 := hid rr8; have K8 := hid k8
            clear rr8 k8
            have b14 := K8.out _ _ b14
            (try simp only [List.getElem_toArray, List.getElem_cons_zero, List.getElem_cons_succ])
            (try go_frame)
            refine wpList_append_run rfl _ _ _ _ rfl rfl rfl r8 ?_
            go_wp2_with fail
            clear r8
            first | (refine ⟨fun _ => CL.out W3 R3.out.hx, ?_⟩) | (refine ⟨CL.out W3 R3.out.hx, ?_⟩)
            (try simp only [List.getElem_toArray, List.getElem_cons_zero, List.getElem_cons_succ])
            (try go_frame)
            refine g_op (i := 15) (by kernel_rfl) rfl ?_
            obtain ⟨a15, c15, W4, r15, rr15⟩ := R3.out.app2 HX.out S.next HLN.out.2 51 b14
            have R4 := hid rr15
            clear rr15
            (try simp only [List.getElem_toArray, List.getElem_cons_zero, List.getElem_cons_succ])
            (try go_frame)
            refine wpList_append_run rfl _ _ _ _ rfl rfl rfl r15 ?_
            go_wp2_with fail
            clear r15
            refine ⟨fun h => (Bool.false_ne_true (h.symm.trans (by kernel_rfl))).elim, ?_⟩
            (try simp only [List.getElem_toArray, List.getElem_cons_zero, List.getElem_cons_succ])
            (try go_frame)
            have z5 := (CL.out W4 R4.out.hx).1
            have z6 := (CL.out W4 R4.out.hx).2
            have zf : ∀ o, W4.frozen? ⟨x, o, none⟩ = false := fun o => frozen_of_block (R4.out.hx.trans HX.out)
            have R4 := R4.out
            refine g_take0 (i := 16) rfl (by kernel_rfl) (by kernel_rfl) (by kernel_rfl) (by decide) (fun _ _ _ h => h) (Or.inl ⟨by kernel_rfl, by (intro w _; go_simp; try with_reducible rfl)⟩) ((fun h => (Bool.false_ne_true (h.symm.trans (by kernel_rfl))).elim)) ?_
            (try simp only [List.getElem_toArray, List.getElem_cons_zero, List.getElem_cons_succ])
            (try go_frame)
            refine g_take0 (i := 17) rfl (by kernel_rfl) (by kernel_rfl) (by kernel_rfl) (by decide) (fun _ _ _ h => h) (Or.inl ⟨by kernel_rfl, by (intro w _; go_simp; try with_reducible rfl)⟩) ((fun h => (Bool.false_ne_true (h.symm.trans (by kernel_rfl))).elim)) ?_
            (try simp only [List.getElem_toArray, List.getElem_cons_zero, List.getElem_cons_succ])
            (try go_frame)
            refine g_op (i := 18) (by kernel_rfl) rfl ?_
            go_wp2_with fail
            refine ⟨fun h => (Bool.false_ne_true (h.symm.trans (by kernel_rfl))).elim, ?_⟩
            (try simp only [List.getElem_toArray, List.getElem_cons_zero, List.getElem_cons_succ])
            (try go_frame)
            refine g_take0 (i := 19) rfl (by kernel_rfl) (by kernel_rfl) (by kernel_rfl) (by decide) (fun _ _ _ h => h) (Or.inl ⟨by kernel_rfl, by (intro w _; go_simp; try with_reducible rfl)⟩) ((fun h => (Bool.false_ne_true (h.symm.trans (by kernel_rfl))).elim)) ?_
            (try simp only [List.getElem_toArray, List.getElem_cons_zero, List.getElem_cons_succ])
            (try go_frame)
            refine g_take0 (i := 20) rfl (by kernel_rfl) (by kernel_rfl) (by kernel_rfl) (by decide) (fun _ _ _ h => h) (Or.inl ⟨by kernel_rfl, by (intro w _; go_simp; try with_reducible rfl)⟩) ((fun h => (Bool.false_ne_true (h.symm.trans (by kernel_rfl))).elim)) ?_
            (try simp only [List.getElem_toArray, List.getElem_cons_zero, List.getElem_cons_succ])
            (try go_frame)
            refine g_op (i := 21) (by kernel_rfl) rfl ?_
            go_wp2_with fail
            refine ⟨fun h => (Bool.false_ne_true (h.symm.trans (by kernel_rfl))).elim, ?_⟩
            (try simp only [List.getElem_toArray, List.getElem_cons_zero, List.getElem_cons_succ])
            (try go_frame)
            clear z5 z6 zf
            refine g_done (by kernel_rfl) ?_
            obtain ⟨⟨O2, st2, ho2⟩, s2⟩ := R4.stored SW.out
            have CAN := hid (show CallPost O x p q (appendP F S r) w (.returned (.int .i64 0)) ((W4.setCell ⟨x, 5, none⟩ (.slice a8 (T.recs.length + 1) c8)).setCell ⟨x, 6, none⟩ (.slice a15 (T.ats.length + 1) c15)) by
              unfold CallPost
              rw [R.out]
              exact ⟨rfl, O2, _, _, st2, SOW.out.then s2, fun k hk => (ho2 k hk).imp id fun h => Nat.le_trans SOW.out.size h⟩)
            clear R4 st2 ho2 s2
            go_wp2_with fail
            go_ret
            exact CAN.out
        · skip
          go_wp2_with fail
          obtain ⟨W1, hW1⟩ : ∃ W', Wd.alloc (.cells #[.int .i64 (S.next : Int)] 3 (0, 0)) = W' := ⟨_, rfl⟩
          have uW1 : Upd (fun _ => False) Wd W1 := by rw [← hW1]; exact (Upd.refl _ _).alloc _
          have b14 : W1.heap[Wd.heap.size]? = some (.cells #[.int .i64 (S.next : Int)] 3 (0, 0)) := by rw [← hW1]; exact heap_alloc_new
          have R1 := hid (R0.out.upd0 (heap_lt HX.out) uW1)
          rw [hW1]
          clear hW1 uW1
          first | (refine ⟨fun _ => CL.out W1 R1.out.hx, ?_⟩) | (refine ⟨CL.out W1 R1.out.hx, ?_⟩)
          (try simp only [List.getElem_toArray, List.getElem_cons_zero, List.getElem_cons_succ])
          (try go_frame)
          refine g_op (i := 7) (by kernel_rfl) rfl ?_
          go_wp2_with fail
          obtain ⟨W2, hW2⟩ : ∃ W', W1.alloc (.cells #[.string ⟨r.toArray⟩] 9 (0, 0)) = W' := ⟨_, rfl⟩
          have uW2 : Upd (fun _ => False) W1 W2 := by rw [← hW2]; exact (Upd.refl _ _).alloc _
          have b7 : W2.heap[W1.heap.size]? = some (.cells #[.string ⟨r.toArray⟩] 9 (0, 0)) := by rw [← hW2]; exact heap_alloc_new
          have R2 := hid (R1.out.upd0 (heap_lt HX.out) uW2)
          have b14 := (uW2.block _ (heap_lt b14) id).trans b14
          rw [hW2]
          clear hW2 uW2
          first | (refine ⟨fun _ => CL.out W2 R2.out.hx, ?_⟩) | (refine ⟨CL.out W2 R2.out.hx, ?_⟩)
          (try simp only [List.getElem_toArray, List.getElem_cons_zero, List.getElem_cons_succ])
          (try go_frame)
          refine g_op (i := 8) (by kernel_rfl) rfl ?_
          obtain ⟨a8, c8, W3, r8, rr8, k8⟩ := R2.out.app1 HX.out r HLN.out.1 50 b7
          have R3 := hid rr8; have K8 := hid k8
          clear rr8 k8
          have b14 := K8.out _ _ b14
          (try simp only [List.getElem_toArray, List.getElem_cons_zero, List.getElem_cons_succ])
          (try go_frame)
          refine wpList_append_run rfl _ _ _ _ rfl rfl rfl r8 ?_
          go_wp2_with fail
          clear r8
          first | (refine ⟨fun _ => CL.out W3 R3.out.hx, ?_⟩) | (refine ⟨CL.out W3 R3.out.hx, ?_⟩)
          (try simp only [List.getElem_toArray, List.getElem_cons_zero, List.getElem_cons_succ])
          (try go_frame)
          refine g_op (i := 15) (by kernel_rfl) rfl ?_
          obtain ⟨a15, c15, W4, r15, rr15⟩ := R3.out.app2 HX.out S.next HLN.out.2 51 b14
          have R4 := hid rr15
          clear rr15
          (try simp only [List.getElem_toArray, List.getElem_cons_zero, List.getElem_cons_succ])
          (try go_frame)
          refine wpList_append_run rfl _ _ _ _ rfl rfl rfl r15 ?_
          go_wp2_with fail
          clear r15
          refine ⟨fun h => (Bool.false_ne_true (h.symm.trans (by kernel_rfl))).elim, ?_⟩
          (try simp only [List.getElem_toArray, List.getElem_cons_zero, List.getElem_cons_succ])
          (try go_frame)
          have z5 := (CL.out W4 R4.out.hx).1
          have z6 := (CL.out W4 R4.out.hx).2
          have zf : ∀ o, W4.frozen? ⟨x, o, none⟩ = false := fun o => frozen_of_block (R4.out.hx.trans HX.out)
          have R4 := R4.out
          refine g_take0 (i := 16) rfl (by kernel_rfl) (by kernel_rfl) (by kernel_rfl) (by decide) (fun _ _ _ h => h) (Or.inl ⟨by kernel_rfl, by (intro w _; go_simp; try with_reducible rfl)⟩) ((fun h => (Bool.false_ne_true (h.symm.trans (by kernel_rfl))).elim)) ?_
          (try simp only [List.getElem_toArray, List.getElem_cons_zero, List.getElem_cons_succ])
          (try go_frame)
          refine g_take0 (i := 17) rfl (by kernel_rfl) (by kernel_rfl) (by kernel_rfl) (by decide) (fun _ _ _ h => h) (Or.inl ⟨by kernel_rfl, by (intro w _; go_simp; try with_reducible rfl)⟩) ((fun h => (Bool.false_ne_true (h.symm.trans (by kernel_rfl))).elim)) ?_
          (try simp only [List.getElem_toArray, List.getElem_cons_zero, List.getElem_cons_succ])
          (try go_frame)
          refine g_op (i := 18) (by kernel_rfl) rfl ?_
          go_wp2_with fail
          refine ⟨fun h => (Bool.false_ne_true (h.symm.trans (by kernel_rfl))).elim, ?_⟩
          (try simp only [List.getElem_toArray, List.getElem_cons_zero, List.getElem_cons_succ])
          (try go_frame)
          refine g_take0 (i := 19) rfl (by kernel_rfl) (by kernel_rfl) (by kernel_rfl) (by decide) (fun _ _ _ h => h) (Or.inl ⟨by kernel_rfl, by (intro w _; go_simp; try with_reducible rfl)⟩) ((fun h => (Bool.false_ne_true (h.symm.trans (by kernel_rfl))).elim)) ?_
          (try simp only [List.getElem_toArray, List.getElem_cons_zero, List.getElem_cons_succ])
          (try go_frame)
          refine g_take0 (i := 20) rfl (by kernel_rfl) (by kernel_rfl) (by kernel_rfl) (by decide) (fun _ _ _ h => h) (Or.inl ⟨by kernel_rfl, by (intro w _; go_simp; try with_reducible rfl)⟩) ((fun h => (Bool.false_ne_true (h.symm.trans (by kernel_rfl))).elim)) ?_
          (try simp only [List.getElem_toArray, List.getElem_cons_zero, List.getElem_cons_succ])
          (try go_frame)
          refine g_op (i := 21) (by kernel_rfl) rfl ?_
          go_wp2_with fail
          refine ⟨fun h => (Bool.false_ne_true (h.symm.trans (by kernel_rfl))).elim, ?_⟩
          (try simp only [List.getElem_toArray, List.getElem_cons_zero, List.getElem_cons_succ])
          (try go_frame)
          clear z5 z6 zf
          refine g_done (by kernel_rfl) ?_
          obtain ⟨⟨O2, st2, ho2⟩, s2⟩ := R4.stored SW.out
          have CAN := hid (show CallPost O x p q (appendP F S r) w (.returned (.int .i64 0)) ((W4.setCell ⟨x, 5, none⟩ (.slice a8 (T.recs.length + 1) c8)).setCell ⟨x, 6, none⟩ (.slice a15 (T.ats.length + 1) c15)) by
            unfold CallPost
            rw [R.out]
            exact ⟨rfl, O2, _, _, st2, SOW.out.then s2, fun k hk => (ho2 k hk).imp id fun h => Nat.le_trans SOW.out.size h⟩)
          clear R4 st2 ho2 s2
          go_wp2_with fail
          go_ret
          exact CAN.out
end
end Go.Proofs.YtlefilfdomjkeaaGreatDoor
