/- From a law's walk to its row: rows of rows of ratios opened. -/
import Derived.Test.YtnhmhjhfoonakaaGreatDoorWj
import Derived.Test.YtnhmhjhfoonakaaGreatDoorWh
set_option linter.unusedSimpArgs false
set_option linter.unusedVariables false
namespace Go.Proofs.YtnhmhjhfoonakaaGreatDoor
open Go.ChangeShapes Go.WideShapes Go.ChangeAt Go.RowKit Go.Joins Go.Deep Go.Dw
theorem rd_MATRIX : Tryz.prog.readableRec 33 = true ∧ 33 < Tryz.prog.types.size := ⟨by kernel_rfl, of_decide_eq_true (by kernel_rfl)⟩
section
variable {H : Type} {enc : TypeId × Value → H}
set_option maxRecDepth 100000 in
theorem rowopen_rats {W : World} {fuel : Nat} {cs : List Value} {y : DataW H × List MemPlace} (hf : DataW.trod enc Tryz.prog W 0 (fun _ => true) true fuel 63 cs = some y) :
    ∃ A n cp l, cs = [.slice A n cp] ∧ n ≤ cp ∧ cp ≤ maxLen ∧ RatsAt W W.heap.size A n l := by
  have hC : Tryz.prog.cellsOf 26 = 2 := by kernel_rfl
  rcases open_slice Tryz.underlying63 hf with ⟨hcs, hx⟩ | ⟨a, len, cap, m, n, D, Pl, hcs, _, hl, hm, hmm, hx, hi⟩
  · exact ⟨none, 0, 0, [], hcs, Nat.le_refl _, Nat.zero_le _, RatsAt.nil _ _ _⟩
  · simp only [if_true] at hmm
    have hel : ∀ i, i < len → ∃ x : Rx, W.cell? (a.add (i * 2)) = some (.string x.1) ∧ W.cell? (a.add (i * 2 + 1)) = some (.string x.2) ∧ x.1.size ≤ maxLen ∧ x.2.size ≤ maxLen := by
      intro i hin
      obtain ⟨cs', hc, ht⟩ := hi i (by omega)
      rw [hC] at hc
      obtain ⟨_, hcl, hat⟩ := World.cells?_some hc
      obtain ⟨ys, n', hn', hy, hlen, hyl, hf'⟩ := DataW.trod_struct Tryz.underlying26 ht
      match cs', hcl with
      | [c0, c1], _ =>
      match ys, hyl with
      | [y0, y1], _ =>
      have t0 : DataW.trod enc Tryz.prog W 0 (fun _ => true) true n' 9 (([c0, c1].drop 0).take (Tryz.prog.cellsOf 9)) = some y0 := hf' 0 _ rfl
      have t1 : DataW.trod enc Tryz.prog W 0 (fun _ => true) true n' 9 (([c0, c1].drop 1).take (Tryz.prog.cellsOf 9)) = some y1 := hf' 1 _ rfl
      have hc1 : Tryz.prog.cellsOf 9 = 1 := by kernel_rfl
      rw [hc1] at t0 t1
      obtain ⟨z0, e0, _, w0⟩ := DataW.trod_string Tryz.underlying9 t0
      obtain ⟨z1, e1, _, w1⟩ := DataW.trod_string Tryz.underlying9 t1
      simp at e0 e1
      subst e0 e1
      refine ⟨(z0, z1), ?_, ?_, w0, w1⟩
      · have := hat 0 (by omega); rw [add_add] at this; simpa using this
      · have := hat 1 (by omega); rw [add_add] at this; simpa using this
    obtain ⟨f, hff⟩ := choose_lt hel
    refine ⟨some a, len, cap, (List.range len).map f, hcs, hl, hm, ⟨by simp, fun k hk => ?_⟩⟩
    have hsp := spot_none (show W.cell? (a.add 0) = _ by have := (hff 0 (by omega)).1; simpa using this)
    obtain ⟨c1, c2, c3, c4⟩ := hff k hk
    have e : rxOf ((List.range len).map f) k = f k := by simp [rxOf, List.getD, hk]
    rw [hsp, add_flat] at c1 c2
    rw [e]
    exact ⟨a.block, a.off, by rw [← hsp], lt_of_cell (a := ⟨a.block, a.off + k * 2, none⟩) c1, c1, by rw [Nat.add_assoc]; exact c2, c3, c4⟩
set_option maxRecDepth 100000 in
theorem open_matrix {W : World} {b0 : Nat} {v : Value} {d : DataW H} {p : List MemPlace} (hv : Value.okWide Tryz.prog W .any b0 33 v) (h : DataW.Trod enc Tryz.prog W 0 (fun _ => true) true 33 v d p) :
    ∃ A n c m, v = .slice A n c ∧ MatAt W W.heap.size A n m := by
  obtain ⟨a0, n0, c0, rfl⟩ := okWide_slice Tryz.underlying33 hv
  obtain ⟨fuel, hf⟩ := h
  have hf0 : DataW.trod enc Tryz.prog W 0 (fun _ => true) true fuel 33 [Value.slice a0 n0 c0] = some (d, p) := hf
  have hC : Tryz.prog.cellsOf 63 = 1 := by kernel_rfl
  rcases open_slice Tryz.underlying33 hf0 with ⟨hcs, hx⟩ | ⟨a, len, cap, m, n, D, Pl, hcs, _, hl, hm, hmm, hx, hi⟩
  · simp at hcs
    obtain ⟨rfl, rfl, rfl⟩ := hcs
    exact ⟨none, 0, 0, [], rfl, rfl, fun k hk => by omega⟩
  · simp at hcs
    obtain ⟨rfl, rfl, rfl⟩ := hcs
    simp only [if_true] at hmm
    have hel : ∀ i, i < n0 → ∃ x : List Rx, ∃ A' n' c', W.cell? (a.add i) = some (.slice A' n' c') ∧ n' ≤ c' ∧ c' ≤ maxLen ∧ RatsAt W W.heap.size A' n' x := by
      intro i hin
      obtain ⟨cs', hc, ht⟩ := hi i (by omega)
      rw [hC] at hc
      obtain ⟨_, hcl, hat⟩ := World.cells?_some hc
      obtain ⟨A', n', c', l, rfl, h1, h2, h3⟩ := rowopen_rats ht
      refine ⟨l, A', n', c', ?_, h1, h2, h3⟩
      have := hat 0 (by omega); rw [add_add] at this; simpa using this
    obtain ⟨f, hff⟩ := choose_lt hel
    refine ⟨some a, n0, c0, (List.range n0).map f, rfl, by simp, fun k hk => ?_⟩
    obtain ⟨A0, n9, c9, e0, _⟩ := hff 0 (by omega)
    have hsp := spot_none (show W.cell? (a.add 0) = _ by simpa using e0)
    obtain ⟨A', n', c', c1, c2, c3, c4⟩ := hff k hk
    have e : mxOf ((List.range n0).map f) k = f k := by simp [mxOf, List.getD, hk]
    rw [hsp, add_flat] at c1
    rw [e]
    exact ⟨a.block, a.off, by rw [← hsp], lt_of_cell (a := ⟨a.block, a.off + k, none⟩) c1, A', n', c', c1, c2, c3, c4⟩
end
end Go.Proofs.YtnhmhjhfoonakaaGreatDoor
