/- From a law's walk to its row: tempo maps opened. -/
import Derived.Test.YthgjgiccoobcgaaDoorLiftB
import Derived.Test.YthgjgiccoobcgaaDoorYq
set_option linter.unusedSimpArgs false
set_option linter.unusedVariables false
namespace Go.Proofs.YthgjgiccoobcgaaDoor
open Go.ChangeShapes Go.WideShapes Go.ChangeAt Go.RowKit Go.Joins Go.Deep Go.Dw
theorem rd_TMAP : Tryd.prog.readableRec 25 = true ∧ 25 < Tryd.prog.types.size := ⟨by kernel_rfl, of_decide_eq_true (by kernel_rfl)⟩
section
variable {H : Type} {enc : TypeId × Value → H}
set_option maxRecDepth 100000 in
theorem open_tempos {W : World} {fuel : Nat} {c : Value} {y : DataW H × List MemPlace} (hf : DataW.trod enc Tryd.prog W 0 (fun _ => true) true fuel 22 [c] = some y) :
    ∃ A n cp xs, c = .slice A n cp ∧ n ≤ cp ∧ cp ≤ maxLen ∧ PrsAt W W.heap.size A n xs ∧ (n = 0 ∨ ∃ k, k ∈ y.1.weights Tryd.prog 22 ∧ n * 16 ≤ k) := by
  have hC : Tryd.prog.cellsOf 98 = 2 := by kernel_rfl
  have hB : Tryd.prog.bytesOf 98 = 16 := by kernel_rfl
  rcases open_slice Tryd.underlying22 hf with ⟨hcs, hx⟩ | ⟨a, len, cap, m, n, D, Pl, hcs, _, hl, hm, hmm, hx, hi⟩
  · simp at hcs
    subst hcs
    exact ⟨none, 0, 0, [], rfl, Nat.le_refl _, Nat.zero_le _, ⟨rfl, fun k hk => by omega⟩, .inl rfl⟩
  · simp at hcs
    subst hcs
    simp only [if_true] at hmm
    have hel : ∀ i, i < len → ∃ x : Pr, W.cell? (a.add (i * 2)) = some (.int .i64 x.1) ∧ W.cell? (a.add (i * 2 + 1)) = some (.int .i64 x.2) := by
      intro i hin
      obtain ⟨cs', hc, ht⟩ := hi i (by omega)
      rw [hC] at hc
      obtain ⟨_, hcl, hat⟩ := World.cells?_some hc
      obtain ⟨ys, n', hn', hy, hlen, hyl, hf'⟩ := DataW.trod_struct Tryd.underlying98 ht
      match cs', hcl with
      | [c0, c1], _ =>
      match ys, hyl with
      | [y0, y1], _ =>
      have t0 : DataW.trod enc Tryd.prog W 0 (fun _ => true) true n' 3 (([c0, c1].drop 0).take (Tryd.prog.cellsOf 3)) = some y0 := hf' 0 _ rfl
      have t1 : DataW.trod enc Tryd.prog W 0 (fun _ => true) true n' 3 (([c0, c1].drop 1).take (Tryd.prog.cellsOf 3)) = some y1 := hf' 1 _ rfl
      have hc1 : Tryd.prog.cellsOf 3 = 1 := by kernel_rfl
      rw [hc1] at t0 t1
      obtain ⟨z0, e0, _, w0⟩ := DataW.trod_int Tryd.underlying3 t0
      obtain ⟨z1, e1, _, w1⟩ := DataW.trod_int Tryd.underlying3 t1
      simp at e0 e1
      subst e0 e1
      refine ⟨(z0, z1), ?_, ?_⟩
      · have := hat 0 (by omega); rw [add_add] at this; simpa using this
      · have := hat 1 (by omega); rw [add_add] at this; simpa using this
    obtain ⟨f, hff⟩ := choose_lt hel
    refine ⟨some a, len, cap, (List.range len).map f, rfl, hl, hm, ⟨by simp, fun k hk => ?_⟩, ?_⟩
    · have hsp := spot_none (show W.cell? (a.add 0) = _ by have := (hff 0 (by omega)).1; simpa using this)
      obtain ⟨c1, c2⟩ := hff k hk
      have e : prOf ((List.range len).map f) k = f k := by simp [prOf, List.getD, hk]
      rw [hsp, add_flat] at c1 c2
      rw [e]
      exact ⟨a.block, a.off, by rw [← hsp], lt_of_cell (a := ⟨a.block, a.off + k * 2, none⟩) c1, c1, by rw [Nat.add_assoc]; exact c2⟩
    · right
      have hu : Tryd.prog.underlying 22 = _ := Tryd.underlying22
      rw [hx]
      simp only [DataW.weights, hu]
      exact ⟨_, List.mem_cons_self, by rw [hB]; simp; omega⟩
set_option maxRecDepth 100000 in
theorem open_meters {W : World} {fuel : Nat} {c : Value} {y : DataW H × List MemPlace} (hf : DataW.trod enc Tryd.prog W 0 (fun _ => true) true fuel 23 [c] = some y) :
    ∃ A n cp xs, c = .slice A n cp ∧ n ≤ cp ∧ cp ≤ maxLen ∧ PrsAt W W.heap.size A n xs ∧ (n = 0 ∨ ∃ k, k ∈ y.1.weights Tryd.prog 23 ∧ n * 16 ≤ k) := by
  have hC : Tryd.prog.cellsOf 55 = 2 := by kernel_rfl
  have hB : Tryd.prog.bytesOf 55 = 16 := by kernel_rfl
  rcases open_slice Tryd.underlying23 hf with ⟨hcs, hx⟩ | ⟨a, len, cap, m, n, D, Pl, hcs, _, hl, hm, hmm, hx, hi⟩
  · simp at hcs
    subst hcs
    exact ⟨none, 0, 0, [], rfl, Nat.le_refl _, Nat.zero_le _, ⟨rfl, fun k hk => by omega⟩, .inl rfl⟩
  · simp at hcs
    subst hcs
    simp only [if_true] at hmm
    have hel : ∀ i, i < len → ∃ x : Pr, W.cell? (a.add (i * 2)) = some (.int .i64 x.1) ∧ W.cell? (a.add (i * 2 + 1)) = some (.int .i64 x.2) := by
      intro i hin
      obtain ⟨cs', hc, ht⟩ := hi i (by omega)
      rw [hC] at hc
      obtain ⟨_, hcl, hat⟩ := World.cells?_some hc
      obtain ⟨ys, n', hn', hy, hlen, hyl, hf'⟩ := DataW.trod_struct Tryd.underlying55 ht
      match cs', hcl with
      | [c0, c1], _ =>
      match ys, hyl with
      | [y0, y1], _ =>
      have t0 : DataW.trod enc Tryd.prog W 0 (fun _ => true) true n' 3 (([c0, c1].drop 0).take (Tryd.prog.cellsOf 3)) = some y0 := hf' 0 _ rfl
      have t1 : DataW.trod enc Tryd.prog W 0 (fun _ => true) true n' 3 (([c0, c1].drop 1).take (Tryd.prog.cellsOf 3)) = some y1 := hf' 1 _ rfl
      have hc1 : Tryd.prog.cellsOf 3 = 1 := by kernel_rfl
      rw [hc1] at t0 t1
      obtain ⟨z0, e0, _, w0⟩ := DataW.trod_int Tryd.underlying3 t0
      obtain ⟨z1, e1, _, w1⟩ := DataW.trod_int Tryd.underlying3 t1
      simp at e0 e1
      subst e0 e1
      refine ⟨(z0, z1), ?_, ?_⟩
      · have := hat 0 (by omega); rw [add_add] at this; simpa using this
      · have := hat 1 (by omega); rw [add_add] at this; simpa using this
    obtain ⟨f, hff⟩ := choose_lt hel
    refine ⟨some a, len, cap, (List.range len).map f, rfl, hl, hm, ⟨by simp, fun k hk => ?_⟩, ?_⟩
    · have hsp := spot_none (show W.cell? (a.add 0) = _ by have := (hff 0 (by omega)).1; simpa using this)
      obtain ⟨c1, c2⟩ := hff k hk
      have e : prOf ((List.range len).map f) k = f k := by simp [prOf, List.getD, hk]
      rw [hsp, add_flat] at c1 c2
      rw [e]
      exact ⟨a.block, a.off, by rw [← hsp], lt_of_cell (a := ⟨a.block, a.off + k * 2, none⟩) c1, c1, by rw [Nat.add_assoc]; exact c2⟩
    · right
      have hu : Tryd.prog.underlying 23 = _ := Tryd.underlying23
      rw [hx]
      simp only [DataW.weights, hu]
      exact ⟨_, List.mem_cons_self, by rw [hB]; simp; omega⟩
set_option maxRecDepth 100000 in
theorem open_tmap {W : World} {b0 : Nat} {v : Value} {d : DataW H} {p : List MemPlace} (hv : Value.okWide Tryd.prog W .any b0 25 v) (h : DataW.Trod enc Tryd.prog W 0 (fun _ => true) true 25 v d p)
    {ts : List TypeId} {ds : List (DataW H)} (hsz : (DataW.weightsEach Tryd.prog ts ds).all (· ≤ reachBytes) = true) {j : Nat} (ht : ts[j]? = some 25) (hd : ds[j]? = some d) :
    ∃ A n c A' n' c' l ms, v = .agg #[.slice A n c, .slice A' n' c'] ∧ PrsAt W W.heap.size A n l ∧ PrsAt W W.heap.size A' n' ms ∧ n ≤ 8796093022207 ∧ n' ≤ 8796093022207 := by
  obtain ⟨c0, c1, y0, y1, m, rfl, rfl, rfl, hy0, hy1⟩ := open_agg2 Tryd.underlying25 (by kernel_rfl) (by kernel_rfl) hv h
  obtain ⟨A, n, c, l, rfl, _, _, hl, hz⟩ := open_tempos hy0
  obtain ⟨A', n', c', ms, rfl, _, _, hl', hz'⟩ := open_meters hy1
  have hu : Tryd.prog.underlying 25 = _ := Tryd.underlying25
  have hmem : ∀ k, k ∈ y0.1.weights Tryd.prog 22 ∨ k ∈ y1.1.weights Tryd.prog 23 → k ≤ 140737488351232 := fun k hk => by
    have h1 : k ∈ (DataW.agg [y0.1, y1.1]).weights Tryd.prog 25 := by
      simp only [DataW.weights, hu]
      simp only [List.map_cons, List.map_nil, DataW.weightsEach, List.mem_append]
      rcases hk with h | h
      · exact .inl h
      · exact .inr (.inl h)
    have := List.all_eq_true.1 hsz _ (DataW.weights_mem_each ht hd k h1)
    have h9 : k ≤ reachBytes := by simpa using this
    simp only [reachBytes] at h9
    omega
  refine ⟨A, n, c, A', n', c', l, ms, rfl, hl, hl', ?_, ?_⟩
  · rcases hz with h | ⟨k, h1, h2⟩
    · omega
    · have := hmem k (.inl h1); omega
  · rcases hz' with h | ⟨k, h1, h2⟩
    · omega
    · have := hmem k (.inr h1); omega
end
end Go.Proofs.YthgjgiccoobcgaaDoor
