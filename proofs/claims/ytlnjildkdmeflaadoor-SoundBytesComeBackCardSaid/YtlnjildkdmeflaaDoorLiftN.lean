/- From a law's walk to its row: rows of notes and of bytes opened. -/
import Derived.Test.YtlnjildkdmeflaaDoorWj
import Derived.Test.YtlnjildkdmeflaaDoorYno
import Derived.Deep.Slices
import Derived.Deep.Fields
set_option linter.unusedSimpArgs false
set_option linter.unusedVariables false
namespace Go.Proofs.YtlnjildkdmeflaaDoor
open Go.ChangeShapes Go.WideShapes Go.ChangeAt Go.RowKit Go.Joins Go.Deep Go.Dw
theorem rd_NOTES : Tryd.prog.readableRec 25 = true ∧ 25 < Tryd.prog.types.size := ⟨by kernel_rfl, of_decide_eq_true (by kernel_rfl)⟩
theorem rd_BYTES : Tryd.prog.readableRec 26 = true ∧ 26 < Tryd.prog.types.size := ⟨by kernel_rfl, of_decide_eq_true (by kernel_rfl)⟩
def toB (z : Int) : UInt8 := UInt8.ofNat z.toNat
theorem toB_v {z : Int} (h : (Lit.int .u8 z).wf = true) : Value.int .u8 z = byV (toB z) := by
  have h1 : IntKind.u8.min = 0 := rfl
  have h2 : IntKind.u8.max = 255 := rfl
  simp only [Lit.wf, Bool.and_eq_true, decide_eq_true_eq] at h
  unfold byV toB
  congr 1
  rw [UInt8.toNat_ofNat']
  omega
theorem bys_of {W : World} {a : Addr} {len : Nat} {zs : List Int} (hl : len ≤ zs.length) (hc : ∀ i, i < zs.length → W.cell? (a.add i) = some (.int .u8 (zs.getD i 0))) (hw : ∀ n ∈ zs, (Lit.int .u8 n).wf = true) :
    BysAt W W.heap.size (some a) len ((zs.take len).map toB) := by
  refine ⟨by simp; omega, fun j hj => ?_⟩
  have hs := spot_none (hc 0 (by omega))
  have h1 := hc j (by omega)
  have hz : zs.getD j 0 ∈ zs := by simp [List.getD, List.getElem?_eq_getElem (show j < zs.length by omega)]
  rw [hs, add_flat, toB_v (hw _ hz)] at h1
  refine ⟨a.block, a.off, by rw [← hs], lt_of_cell (a := ⟨a.block, a.off + j, none⟩) h1, ?_⟩
  rw [h1]
  simp [byOf, List.getD, List.getElem?_take, hj, List.getElem?_eq_getElem (show j < zs.length by omega)]
section
variable {H : Type} {enc : TypeId × Value → H}
set_option maxRecDepth 100000 in
theorem open_bytes {W : World} {b0 : Nat} {v : Value} {d : DataW H} {p : List MemPlace} (hv : Value.okWide Tryd.prog W .any b0 26 v) (h : DataW.Trod enc Tryd.prog W 0 (fun _ => true) true 26 v d p) :
    ∃ A n c xs, v = .slice A n c ∧ n ≤ c ∧ c ≤ maxLen ∧ BysAt W W.heap.size A n xs ∧ True ∧ ((d = .nil ∧ n = 0) ∨ ∃ es sp, d = .slice es sp ∧ es.length = n) := by
  obtain ⟨a0, n0, c0, rfl⟩ := okWide_slice Tryd.underlying26 hv
  obtain ⟨fuel, hf⟩ := h
  rcases open_ints Tryd.underlying26 Tryd.underlying5 (by kernel_rfl) hf with ⟨hcs, hx⟩ | ⟨a, len, cap, zs, hcs, _, hl, hm, hz, hx, hcell, hwz⟩
  · simp [Value.cells] at hcs
    obtain ⟨rfl, rfl, rfl⟩ := hcs
    simp only [Prod.mk.injEq] at hx
    obtain ⟨rfl, rfl⟩ := hx
    exact ⟨none, 0, 0, [], rfl, Nat.le_refl _, Nat.zero_le _, BysAt.nil _ _ _, trivial, .inl ⟨rfl, rfl⟩⟩
  · simp [Value.cells] at hcs
    obtain ⟨rfl, rfl, rfl⟩ := hcs
    simp only [Prod.mk.injEq] at hx
    obtain ⟨rfl, rfl⟩ := hx
    simp only [if_true] at hz
    exact ⟨some a, n0, c0, _, rfl, hl, hm, bys_of (by omega) hcell hwz, trivial, .inr ⟨_, _, rfl, by simp [lits]; omega⟩⟩
end
section
variable {H : Type} {enc : TypeId × Value → H}
set_option maxRecDepth 100000 in
theorem open_notes {W : World} {b0 : Nat} {v : Value} {d : DataW H} {p : List MemPlace} (hv : Value.okWide Tryd.prog W .any b0 25 v) (h : DataW.Trod enc Tryd.prog W 0 (fun _ => true) true 25 v d p) :
    ∃ A n c l, v = .slice A n c ∧ n ≤ c ∧ c ≤ maxLen ∧ NtsAt W W.heap.size A n l ∧ ∀ x ∈ l, x.1.size ≤ maxLen ∧ x.2.size ≤ maxLen := by
  obtain ⟨a0, n0, c0, rfl⟩ := okWide_slice Tryd.underlying25 hv
  obtain ⟨fuel, hf⟩ := h
  have hf0 : DataW.trod enc Tryd.prog W 0 (fun _ => true) true fuel 25 [Value.slice a0 n0 c0] = some (d, p) := hf
  have hC : Tryd.prog.cellsOf 36 = 2 := by kernel_rfl
  rcases open_slice Tryd.underlying25 hf0 with ⟨hcs, hx⟩ | ⟨a, len, cap, m, n, D, Pl, hcs, _, hl, hm, hmm, hx, hi⟩
  · simp at hcs
    obtain ⟨rfl, rfl, rfl⟩ := hcs
    exact ⟨none, 0, 0, [], rfl, Nat.le_refl _, Nat.zero_le _, NtsAt.nil _ _ _, fun x hx => by cases hx⟩
  · simp at hcs
    obtain ⟨rfl, rfl, rfl⟩ := hcs
    simp only [if_true] at hmm
    have hel : ∀ i, i < n0 → ∃ x : Nx, W.cell? (a.add (i * 2)) = some (.string x.1) ∧ W.cell? (a.add (i * 2 + 1)) = some (.string x.2) ∧ x.1.size ≤ maxLen ∧ x.2.size ≤ maxLen := by
      intro i hin
      obtain ⟨cs', hc, ht⟩ := hi i (by omega)
      rw [hC] at hc
      obtain ⟨_, hcl, hat⟩ := World.cells?_some hc
      obtain ⟨ys, n', hn', hy, hlen, hyl, hf'⟩ := DataW.trod_struct Tryd.underlying36 ht
      match cs', hcl with
      | [c0, c1], _ =>
      match ys, hyl with
      | [y0, y1], _ =>
      have t0 : DataW.trod enc Tryd.prog W 0 (fun _ => true) true n' 9 (([c0, c1].drop 0).take (Tryd.prog.cellsOf 9)) = some y0 := hf' 0 _ rfl
      have t1 : DataW.trod enc Tryd.prog W 0 (fun _ => true) true n' 9 (([c0, c1].drop 1).take (Tryd.prog.cellsOf 9)) = some y1 := hf' 1 _ rfl
      have hc1 : Tryd.prog.cellsOf 9 = 1 := by kernel_rfl
      rw [hc1] at t0 t1
      obtain ⟨z0, e0, _, w0⟩ := DataW.trod_string Tryd.underlying9 t0
      obtain ⟨z1, e1, _, w1⟩ := DataW.trod_string Tryd.underlying9 t1
      simp at e0 e1
      subst e0 e1
      refine ⟨(z0, z1), ?_, ?_, w0, w1⟩
      · have := hat 0 (by omega); rw [add_add] at this; simpa using this
      · have := hat 1 (by omega); rw [add_add] at this; simpa using this
    obtain ⟨f, hff⟩ := choose_lt hel
    refine ⟨some a, n0, c0, (List.range n0).map f, rfl, hl, hm, ⟨by simp, fun k hk => ?_⟩, fun x hx => ?_⟩
    · have hsp := spot_none (show W.cell? (a.add 0) = _ by have := (hff 0 (by omega)).1; simpa using this)
      obtain ⟨c1, c2, c3, c4⟩ := hff k hk
      have e : nxOf ((List.range n0).map f) k = f k := by simp [nxOf, List.getD, hk]
      rw [hsp, add_flat] at c1 c2
      rw [e]
      exact ⟨a.block, a.off, by rw [← hsp], lt_of_cell (a := ⟨a.block, a.off + k * 2, none⟩) c1, c1, by rw [Nat.add_assoc]; exact c2⟩
    · simp only [List.mem_map, List.mem_range] at hx
      obtain ⟨k, hk, rfl⟩ := hx
      exact (hff k hk).2.2
end
end Go.Proofs.YtlnjildkdmeflaaDoor
