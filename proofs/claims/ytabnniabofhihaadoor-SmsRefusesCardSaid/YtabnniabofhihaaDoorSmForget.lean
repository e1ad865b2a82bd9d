/- sms.Forget, and the statements' helper missing. -/
import Derived.Test.YtabnniabofhihaaDoorSmRef
import Derived.Test.YtabnniabofhihaaDoorSmFew
namespace Go.Proofs.YtabnniabofhihaaDoor
open Go.RowKit Go.Deep

theorem box_del {w w' : World} {O : Nat → Prop} {b bm : Nat} {L : List En} {x : Int} (B : BoxAt w O b bm L) (hbm : MapIs Tryd.prog 3 w' bm (delM (ptrs L) x)) (u : Upd (· = bm) w w') :
    BoxAt w' O b bm (delM L x) ∧ bxOf (delM L x) = delM (bxOf L) x := by
  have hbx : bxOf (delM L x) = delM (bxOf L) x := map_del (fun e : Nat × Nat × Ms => e.2.2) L x
  have hptr : ptrs (delM L x) = delM (ptrs L) x := map_del (fun e : Nat × Nat × Ms => Value.pointer (some ⟨e.1, 0, none⟩)) L x
  have hap := B.apart
  rw [List.nodup_cons] at hap
  have hsub : (delM L x).Sublist L := List.filter_sublist
  refine ⟨⟨?_, (u.block b (heap_lt B.head) (cells_ne_map B.map B.head)).trans B.head, by rw [hptr]; exact hbm, fun e he => ?_, ⟨B.own.1, B.own.2.1, fun e he => B.own.2.2 e (hsub.subset he)⟩, fun k hk => ⟨(B.lt k hk).1, Nat.lt_of_lt_of_le (B.lt k hk).2 u.size⟩, ?_⟩, hbx⟩
  · rw [hbx]; exact delM_ok B.ok x
  · have he' := hsub.subset he
    have hE := B.ms e he'
    exact hE.upd u (cells_ne_map B.map hE.head) fun hqe => hap.1 (List.mem_map.2 ⟨e, he', hqe⟩)
  · rw [List.nodup_cons]
    exact ⟨fun h => hap.1 ((hsub.map _).subset h), hap.2.sublist (hsub.map _)⟩
def ForgetPost (b : Nat) (O : Nat → Prop) (bx : Bx) (x : Int) (w : World) (e : Ending) (w' : World) : Prop := e = .returned (.tuple #[]) ∧ IsBox w' O b (delM bx x) ∧ Upd O w w'
set_option maxRecDepth 100000 in
theorem forget_any (b : Nat) (O : Nat → Prop) (bx : Bx) (x : Int) (w : World) (h : IsBox w O b bx) (hx : (Lit.int .i64 x).wf = true) :
    Calls Tryd.prog 21 #[.pointer (some ⟨b, 0, none⟩), .int .i64 x] w (ForgetPost b O bx x w) := by
  obtain ⟨bm, L, B, rfl⟩ := h
  obtain ⟨c0, cf⟩ := cells1 B.head
  obtain ⟨w', hdel, hm, u⟩ := B.map.del Tryd.underlying3 Tryd.underlying61 hx 0
  obtain ⟨h1, h2⟩ := box_del B hm u
  have HB := hid h1; have HX := hid h2
  have HU := hid (show Upd O w w' from u.mono fun k hk => by rw [hk]; exact B.own.2.1)
  clear h1 h2 hm u B
  go_enter Tryd.func21, Tryd.ntmps21
  go_wp2_with fail
  go_end0
  exact ⟨rfl, ⟨bm, _, HB.out, HX.out⟩, HU.out⟩
theorem missingN_any (b : Nat) (O : Nat → Prop) (bx : Bx) (n : Int) (w : World) (h : IsBox w O b bx) (hn : (Lit.int .i64 n).wf = true) :
    Calls Tryd.prog 20 #[.pointer (some ⟨b, 0, none⟩), .int .i64 n] w fun e w' => e = .returned (.int .i64 (missF bx n).1.length) ∧ Upd (fun _ => False) w w' := by
  have HB := hid h; have HN := hid hn
  clear h hn
  go_enter Tryd.func20, Tryd.ntmps20
  go_wp2_with fail
  refine (missing_any b O bx n w HB.out HN.out).mono ?_
  rintro e w1 ⟨v, rfl, hrep, u⟩
  obtain ⟨ya, yc, rfl, hy1, hy2, _⟩ := slice_open hrep
  have U := hid u
  clear u hrep hy2
  go_wp2_with fail
  go_ret
  exact ⟨rfl, U.out⟩
end Go.Proofs.YtabnniabofhihaaDoor
