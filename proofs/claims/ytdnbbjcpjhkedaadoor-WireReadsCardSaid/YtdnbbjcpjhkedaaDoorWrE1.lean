/- Values within bounds: their encodings, and reading them back. -/
import Derived.Test.YtdnbbjcpjhkedaaDoorWrD2
import Derived.Test.YtdnbbjcpjhkedaaDoorWrPlain
namespace Go.Proofs.YtdnbbjcpjhkedaaDoor
open Go.RowKit Go.Deep

theorem ints_i64 {A : Nat → Prop} {w : World} {v : Value} {l : List Int} (h : kInts.rep A w [v] l) : ∀ x ∈ l, I64 x := by
  intro x hx
  obtain ⟨j, hj, rfl⟩ := List.mem_iff_getElem.1 hx
  obtain ⟨a, cap, rfl, _, _, h3⟩ := slice_open h
  obtain ⟨b, o, _, _, hel⟩ := h3 (by omega)
  obtain ⟨cs, h1, _⟩ := hel.cell hj
  exact wfi h1.2
theorem vlOk_of {v : Vl} (hk : (Lit.int .i64 v.kind).wf = true) (hn : (Lit.int .i64 v.n).wf = true) (hl : ∀ x ∈ v.l, I64 x) (hf : FewV v) : VlOk v := by
  obtain ⟨h1, h2, h3, h4⟩ := hf
  refine ⟨hk, wfi hn, by omega, hl, ?_, fun x hx => by have := h4 x hx; omega, ?_⟩
  · have := numsE_len (l := v.l) (by omega) hl; omega
  · have := textsE_len (l := v.t) (c := 400) (by omega) (by omega) h4; omega
theorem writeF_len {v : Vl} (hv : VlOk v) (hf : FewV v) : (writeF v).length ≤ 200000 := by
  obtain ⟨h1, h2, h3, h4⟩ := hf
  unfold writeF
  split
  · have := numE_len (numOf_i64 hv.n).1; omega
  split
  · have := intE_len hv.n; omega
  split
  · have := textE_len (s := v.s) (by omega); omega
  split
  · have := numsE_len (l := v.l) (by omega) hv.l; omega
  · have := textsE_len (l := v.t) (c := 400) (by omega) (by omega) h4; omega
theorem equal_mk {v : Vl} (hv : VlOk v) (hf : FewV v) (t : List UInt8) : equalF ⟨writeF v ++ t, false⟩ v = (true, ⟨t, false⟩) := by
  obtain ⟨h1, h2, h3, h4⟩ := hf
  unfold writeF equalF
  by_cases k0 : v.kind % 5 = 0
  · rw [if_pos k0, if_pos k0, numF_mk (numOf_i64 hv.n).1 (numOf_i64 hv.n).2]; simp
  rw [if_neg k0, if_neg k0]
  by_cases k1 : v.kind % 5 = 1
  · rw [if_pos k1, if_pos k1, intF_mk hv.n]; simp
  rw [if_neg k1, if_neg k1]
  by_cases k2 : v.kind % 5 = 2
  · rw [if_pos k2, if_pos k2, textF_mk _ _ _ (by unfold I64; omega) rfl]; simp
  rw [if_neg k2, if_neg k2]
  by_cases k3 : v.kind % 5 = 3
  · rw [if_pos k3, if_pos k3, numsF_mk (by unfold I64; omega) hv.l]; simp
  rw [if_neg k3, if_neg k3, textsF_mk (by unfold I64; omega) (fun x hx => by have := h4 x hx; unfold I64; omega)]; simp
/-- The encodings of values, one after the other. -/
def writes (l : List Vl) : List UInt8 := (l.map writeF).flatten
theorem writes_snoc (l : List Vl) (i : Nat) (h : i < l.length) : writes (l.take (i + 1)) = writes (l.take i) ++ writeF l[i] := by
  unfold writes
  rw [List.take_succ_eq_append_getElem h, List.map_append, List.flatten_append]
  simp
theorem writes_cons (l : List Vl) (i : Nat) (h : i < l.length) (t : List UInt8) : writes (l.drop i) ++ t = writeF l[i] ++ (writes (l.drop (i + 1)) ++ t) := by
  unfold writes
  rw [List.drop_eq_getElem_cons h, List.map_cons, List.flatten_cons, List.append_assoc]
theorem writes_len (l : List Vl) (h : ∀ v ∈ l, VlOk v ∧ FewV v) : (writes l).length ≤ 200000 * l.length :=
  flat_len writeF 200000 l fun v hv => writeF_len (h v hv).1 (h v hv).2
/-- The values of a slice of at most 20 are in bounds. -/
theorem vls_ok {A : Nat → Prop} {w : World} {v : Value} {l : List Vl} (h : (kSlice kVl).rep A w [v] l) (hf : Few l) : ∀ v ∈ l, VlOk v ∧ FewV v := by
  intro x hx
  have hfx := hf.2 x hx
  obtain ⟨j, hj, rfl⟩ := List.mem_iff_getElem.1 hx
  obtain ⟨a, cap, rfl, _, _, h3⟩ := slice_open h
  obtain ⟨b, o, _, _, hel⟩ := h3 (by omega)
  obtain ⟨a, c, d, f, ⟨_, _, _, _, g1, g2, _, g3, _⟩, _⟩ := vl_cells hel hj
  exact ⟨vlOk_of g1 g2 (ints_i64 g3) hfx, hfx⟩
end Go.Proofs.YtdnbbjcpjhkedaaDoor
