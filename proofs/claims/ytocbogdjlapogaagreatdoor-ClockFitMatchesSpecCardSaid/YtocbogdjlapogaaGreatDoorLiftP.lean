/- From a law's walk to its row: rows of pairs and of spans opened. -/
import Derived.Test.YtocbogdjlapogaaGreatDoorLiftB
import Derived.Test.YtocbogdjlapogaaGreatDoorZa
set_option linter.unusedSimpArgs false
set_option linter.unusedVariables false
namespace Go.Proofs.YtocbogdjlapogaaGreatDoor
open Go.ChangeShapes Go.WideShapes Go.ChangeAt Go.RowKit Go.Joins Go.Deep Go.Dw
theorem rd_PAIRS : Tryz.prog.readableRec 22 = true ∧ 22 < Tryz.prog.types.size := ⟨by kernel_rfl, of_decide_eq_true (by kernel_rfl)⟩
section
variable {H : Type} {enc : TypeId × Value → H}
set_option maxRecDepth 100000 in
theorem rowopen_pairs {W : World} {fuel : Nat} {c : Value} {y : DataW H × List MemPlace} (hf : DataW.trod enc Tryz.prog W 0 (fun _ => true) true fuel 22 [c] = some y) :
    ∃ A n cp xs, c = .slice A n cp ∧ n ≤ cp ∧ cp ≤ maxLen ∧ PrsAt W W.heap.size A n xs ∧ (n = 0 ∨ ∃ k, k ∈ y.1.weights Tryz.prog 22 ∧ n * 16 ≤ k) := by
  have hC : Tryz.prog.cellsOf 39 = 2 := by kernel_rfl
  have hB : Tryz.prog.bytesOf 39 = 16 := by kernel_rfl
  rcases open_slice Tryz.underlying22 hf with ⟨hcs, hx⟩ | ⟨a, len, cap, m, n, D, Pl, hcs, _, hl, hm, hmm, hx, hi⟩
  · simp at hcs
    subst hcs
    exact ⟨none, 0, 0, [], rfl, Nat.le_refl _, Nat.zero_le _, ⟨rfl, fun k hk => by omega⟩, .inl rfl⟩
  · simp at hcs
    subst hcs
    simp only [if_true] at hmm
    have hel : ∀ i, i < len → ∃ x : Pr, W.cell? (a.add (i * 2)) = some (.int .i64 x.1) ∧ W.cell? (a.add (i * 2 + 1)) = some (.int .i64 x.2) := by
      intro i hin
      obtain ⟨cs', hc, ht⟩ := hi i (by omega)
      rw [hC] at hc
      obtain ⟨_, hcl, hat⟩ := World.cells?_some hc
      obtain ⟨ys, n', hn', hy, hlen, hyl, hf'⟩ := DataW.trod_struct Tryz.underlying39 ht
      match cs', hcl with
      | [c0, c1], _ =>
      match ys, hyl with
      | [y0, y1], _ =>
      have t0 : DataW.trod enc Tryz.prog W 0 (fun _ => true) true n' 3 (([c0, c1].drop 0).take (Tryz.prog.cellsOf 3)) = some y0 := hf' 0 _ rfl
      have t1 : DataW.trod enc Tryz.prog W 0 (fun _ => true) true n' 3 (([c0, c1].drop 1).take (Tryz.prog.cellsOf 3)) = some y1 := hf' 1 _ rfl
      have hc1 : Tryz.prog.cellsOf 3 = 1 := by kernel_rfl
      rw [hc1] at t0 t1
      obtain ⟨z0, e0, _, w0⟩ := DataW.trod_int Tryz.underlying3 t0
      obtain ⟨z1, e1, _, w1⟩ := DataW.trod_int Tryz.underlying3 t1
      simp at e0 e1
      subst e0 e1
      refine ⟨(z0, z1), ?_, ?_⟩
      · have := hat 0 (by omega); rw [add_add] at this; simpa using this
      · have := hat 1 (by omega); rw [add_add] at this; simpa using this
    obtain ⟨f, hff⟩ := choose_lt hel
    refine ⟨some a, len, cap, (List.range len).map f, rfl, hl, hm, ⟨by simp, fun k hk => ?_⟩, ?_⟩
    · have hsp := spot_none (show W.cell? (a.add 0) = _ by have := (hff 0 (by omega)).1; simpa using this)
      obtain ⟨c1, c2⟩ := hff k hk
      have e : prOf ((List.range len).map f) k = f k := by simp [prOf, List.getD, hk]
      rw [hsp, add_flat] at c1 c2
      rw [e]
      exact ⟨a.block, a.off, by rw [← hsp], lt_of_cell (a := ⟨a.block, a.off + k * 2, none⟩) c1, c1, by rw [Nat.add_assoc]; exact c2⟩
    · right
      have hu : Tryz.prog.underlying 22 = _ := Tryz.underlying22
      rw [hx]
      simp only [DataW.weights, hu]
      exact ⟨_, List.mem_cons_self, by rw [hB]; simp; omega⟩
set_option maxRecDepth 100000 in
theorem open_pairs {W : World} {b0 : Nat} {v : Value} {d : DataW H} {p : List MemPlace} (hv : Value.okWide Tryz.prog W .any b0 22 v) (h : DataW.Trod enc Tryz.prog W 0 (fun _ => true) true 22 v d p)
    {ts : List TypeId} {ds : List (DataW H)} (hsz : (DataW.weightsEach Tryz.prog ts ds).all (· ≤ reachBytes) = true) {j : Nat} (ht : ts[j]? = some 22) (hd : ds[j]? = some d) :
    ∃ A n c l, v = .slice A n c ∧ n ≤ c ∧ c ≤ maxLen ∧ PrsAt W W.heap.size A n l ∧ n ≤ 8796093022207 := by
  obtain ⟨a0, n0, c0, rfl⟩ := okWide_slice Tryz.underlying22 hv
  obtain ⟨fuel, hf⟩ := h
  have hf' : DataW.trod enc Tryz.prog W 0 (fun _ => true) true fuel 22 [Value.slice a0 n0 c0] = some (d, p) := hf
  obtain ⟨A, n, cp, xs, e, h1, h2, h3, h4⟩ := rowopen_pairs hf'
  refine ⟨A, n, cp, xs, e, h1, h2, h3, ?_⟩
  rcases h4 with h | ⟨k, hk, hle⟩
  · omega
  · have := List.all_eq_true.1 hsz _ (DataW.weights_mem_each ht hd k hk)
    have h9 : k ≤ reachBytes := by simpa using this
    simp only [reachBytes] at h9
    omega
end
end Go.Proofs.YtocbogdjlapogaaGreatDoor
