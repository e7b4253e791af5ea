/- Rows of bytes and of chunks, opened where a law takes them. -/
import Derived.Test.YtpnbkkpbgpcgiaaLift2
import Derived.Test.YtpnbkkpbgpcgiaaPackLaw
set_option linter.unusedSimpArgs false
set_option linter.unusedVariables false
namespace Go.Proofs.Ytpnbkkpbgpcgiaa
open Go.ChangeShapes Go.WideShapes Go.ChangeAt Go.RowKit Go.Joins Go.Deep Go.Dw
theorem rd_BYTES : Try.prog.readableRec 59 = true ∧ 59 < Try.prog.types.size := ⟨by kernel_rfl, of_decide_eq_true (by kernel_rfl)⟩
theorem rd_CHUNKS : Try.prog.readableRec 58 = true ∧ 58 < Try.prog.types.size := ⟨by kernel_rfl, of_decide_eq_true (by kernel_rfl)⟩
def toB (z : Int) : UInt8 := UInt8.ofNat z.toNat
theorem toB_v {z : Int} (h : (Lit.int .u8 z).wf = true) : Value.int .u8 z = byV (toB z) := by
  have h1 : IntKind.u8.min = 0 := rfl
  have h2 : IntKind.u8.max = 255 := rfl
  simp only [Lit.wf, Bool.and_eq_true, decide_eq_true_eq] at h
  unfold byV toB
  congr 1
  rw [UInt8.toNat_ofNat']
  omega
theorem bys_of {W : World} {a : Addr} {len : Nat} {zs : List Int} (hl : len ≤ zs.length) (hc : ∀ i, i < zs.length → W.cell? (a.add i) = some (.int .u8 (zs.getD i 0))) (hw : ∀ n ∈ zs, (Lit.int .u8 n).wf = true) :
    BysAt W W.heap.size (some a) len ((zs.take len).map toB) := by
  refine ⟨by simp; omega, fun j hj => ?_⟩
  have hs := spot_none (hc 0 (by omega))
  have h1 := hc j (by omega)
  have hz : zs.getD j 0 ∈ zs := by simp [List.getD, List.getElem?_eq_getElem (show j < zs.length by omega)]
  rw [hs, add_flat, toB_v (hw _ hz)] at h1
  refine ⟨a.block, a.off, by rw [← hs], lt_of_cell (a := ⟨a.block, a.off + j, none⟩) h1, ?_⟩
  rw [h1]
  simp [byOf, List.getD, List.getElem?_take, hj, List.getElem?_eq_getElem (show j < zs.length by omega)]
section
variable {H : Type} {enc : TypeId × Value → H}
set_option maxRecDepth 100000 in
theorem open_bytes {W : World} {b0 : Nat} {v : Value} {d : DataW H} {p : List MemPlace} (hv : Value.okWide Try.prog W .any b0 59 v) (h : DataW.Trod enc Try.prog W 0 (fun _ => true) true 59 v d p) :
    ∃ A n c xs, v = .slice A n c ∧ n ≤ c ∧ c ≤ maxLen ∧ BysAt W W.heap.size A n xs ∧ True ∧ ((d = .nil ∧ n = 0) ∨ ∃ es sp, d = .slice es sp ∧ es.length = n) := by
  obtain ⟨a0, n0, c0, rfl⟩ := okWide_slice Try.underlying59 hv
  obtain ⟨fuel, hf⟩ := h
  rcases open_ints Try.underlying59 Try.underlying5 (by kernel_rfl) hf with ⟨hcs, hx⟩ | ⟨a, len, cap, zs, hcs, _, hl, hm, hz, hx, hcell, hwz⟩
  · simp [Value.cells] at hcs
    obtain ⟨rfl, rfl, rfl⟩ := hcs
    simp only [Prod.mk.injEq] at hx
    obtain ⟨rfl, rfl⟩ := hx
    exact ⟨none, 0, 0, [], rfl, Nat.le_refl _, Nat.zero_le _, BysAt.nil _ _ _, trivial, .inl ⟨rfl, rfl⟩⟩
  · simp [Value.cells] at hcs
    obtain ⟨rfl, rfl, rfl⟩ := hcs
    simp only [Prod.mk.injEq] at hx
    obtain ⟨rfl, rfl⟩ := hx
    simp only [if_true] at hz
    exact ⟨some a, n0, c0, _, rfl, hl, hm, bys_of (by omega) hcell hwz, trivial, .inr ⟨_, _, rfl, by simp [lits]; omega⟩⟩
theorem weights_all {P : Program} {e : TypeId} {d : DataW H} {k : Nat} (hk : k ∈ d.weights P e) : ∀ {es : List (DataW H)}, d ∈ es → k ∈ DataW.weightsAll P e es
  | x :: es, hm => by
    unfold DataW.weightsAll
    rcases List.mem_cons.1 hm with rfl | hm
    · exact List.mem_append_left _ hk
    · exact List.mem_append_right _ (weights_all hk hm)
theorem bytes_one : Try.prog.bytesOf 5 = 1 := by kernel_rfl
set_option maxRecDepth 100000 in
theorem open_chunks {W : World} {b0 : Nat} {v : Value} {d : DataW H} {p : List MemPlace} (hv : Value.okWide Try.prog W .any b0 58 v) (h : DataW.Trod enc Try.prog W 0 (fun _ => true) true 58 v d p) :
    ∃ A n c xs, v = .slice A n c ∧ n ≤ c ∧ c ≤ maxLen ∧ CksAt W W.heap.size A n xs ∧ (∀ x ∈ xs, ∃ k, k ∈ d.weights Try.prog 58 ∧ x.2.length ≤ k ∨ x.2.length = 0) ∧ ((d = .nil ∧ n = 0) ∨ ∃ es sp, d = .slice es sp ∧ es.length = n) := by
  obtain ⟨a0, n0, c0, rfl⟩ := okWide_slice Try.underlying58 hv
  obtain ⟨fuel, hf⟩ := h
  have hC : Try.prog.cellsOf 86 = 2 := by kernel_rfl
  rcases open_slice Try.underlying58 hf with ⟨hcs, hx⟩ | ⟨a, len, cap, m, n, D, Pl, hcs, _, hl, hm, hmm, hx, hi⟩
  · simp [Value.cells] at hcs
    obtain ⟨rfl, rfl, rfl⟩ := hcs
    simp only [Prod.mk.injEq] at hx
    obtain ⟨rfl, rfl⟩ := hx
    exact ⟨none, 0, 0, [], rfl, Nat.le_refl _, Nat.zero_le _, CksAt.nil _ _ _, (fun x hx => by cases hx), .inl ⟨rfl, rfl⟩⟩
  · simp [Value.cells] at hcs
    obtain ⟨rfl, rfl, rfl⟩ := hcs
    simp only [Prod.mk.injEq] at hx
    obtain ⟨rfl, rfl⟩ := hx
    simp only [if_true] at hmm
    have hel : ∀ i, i < n0 → ∃ x : Ck, W.cell? (a.add (i * 2)) = some (strOf x.1) ∧ (∃ A' c', W.cell? (a.add (i * 2 + 1)) = some (.slice A' x.2.length c') ∧ x.2.length ≤ c' ∧ c' ≤ maxLen ∧ BysAt W W.heap.size A' x.2.length x.2) ∧
        ∃ k, k ∈ (D i).weights Try.prog 86 ∧ x.2.length ≤ k ∨ x.2.length = 0 := by
      intro i hin
      obtain ⟨cs', hc, ht⟩ := hi i (by omega)
      rw [hC] at hc
      obtain ⟨_, hcl, hat⟩ := World.cells?_some hc
      obtain ⟨ys, n', hn', hy, hlen, hyl, hf'⟩ := DataW.trod_struct Try.underlying86 ht
      match cs', hcl with
      | [c0', c1'], _ =>
      match ys, hyl with
      | [y0, y1], _ =>
      have t0 : DataW.trod enc Try.prog W 0 (fun _ => true) true n' 9 (([c0', c1'].drop 0).take (Try.prog.cellsOf 9)) = some y0 := hf' 0 _ rfl
      have t1 : DataW.trod enc Try.prog W 0 (fun _ => true) true n' 59 (([c0', c1'].drop 1).take (Try.prog.cellsOf 59)) = some y1 := hf' 1 _ rfl
      rw [show Try.prog.cellsOf 9 = 1 by kernel_rfl] at t0
      rw [show Try.prog.cellsOf 59 = 1 by kernel_rfl] at t1
      obtain ⟨s, e0, _, _⟩ := DataW.trod_string Try.underlying9 t0
      have g0 : W.cell? (a.add (i * 2)) = some (.string s) := by
        have := hat 0 (by omega); rw [add_add] at this; simp at e0; subst e0; simpa using this
      simp only [Prod.mk.injEq] at hy
      have hDi : D i = .agg [y0.1, y1.1] := by rw [hy.1]; rfl
      have hstr : (Value.string s) = strOf s.data.toList := by unfold strOf; cases s; simp
      rw [hstr] at g0
      rcases open_ints Try.underlying59 Try.underlying5 (by kernel_rfl) t1 with ⟨hcs, hx⟩ | ⟨a', len, cap, zs, hcs, _, hl', hm', hz, hx, hcell, hwz⟩
      · simp at hcs
        subst hcs
        refine ⟨(s.data.toList, []), g0, ⟨none, 0, ?_, Nat.le_refl _, Nat.zero_le _, BysAt.nil _ _ _⟩, 0, .inr rfl⟩
        have := hat 1 (by omega); rw [add_add] at this; simpa using this
      · simp at hcs
        subst hcs
        simp only [if_true] at hz
        have hll : ((zs.take len).map toB).length = len := by simp; omega
        refine ⟨(s.data.toList, (zs.take len).map toB), g0, ⟨some a', cap, ?_, by rw [hll]; exact hl', hm', ?_⟩, ?_⟩
        · rw [hll]; have := hat 1 (by omega); rw [add_add] at this; simpa using this
        · rw [hll]; exact bys_of (by omega) hcell hwz
        · refine ⟨zs.length, .inl ⟨?_, by rw [hll]; omega⟩⟩
          have hu : Try.prog.underlying 86 = _ := Try.underlying86
          have hb : Try.prog.underlying 59 = _ := Try.underlying59
          rw [hDi, hx]
          simp [DataW.weights, DataW.weightsEach, hu, hb, bytes_one, lits]
          omega
    obtain ⟨f, hff⟩ := choose_lt hel
    have hfk : ∀ k, k < n0 → ((List.range n0).map f).getD k ([], []) = f k := fun k hk => by simp [List.getD, hk]
    refine ⟨some a, n0, c0, (List.range n0).map f, rfl, hl, hm, ⟨by simp, fun k hk => ?_⟩, fun x hx => ?_, .inr ⟨_, _, rfl, by simp⟩⟩
    · have hsp := spot_none (show W.cell? (a.add 0) = _ by have := (hff 0 (by omega)).1; simpa using this)
      obtain ⟨c1, ⟨A', c', c2, c3, c4, c5⟩, _⟩ := hff k hk
      rw [hsp, add_flat] at c1 c2
      rw [hfk k hk]
      exact ⟨a.block, a.off, by rw [← hsp], lt_of_cell (a := ⟨a.block, a.off + k * 2, none⟩) c1, c1, A', c', by rw [Nat.add_assoc]; exact c2, c3, c4, c5⟩
    · simp only [List.mem_map, List.mem_range] at hx
      obtain ⟨k, hk, rfl⟩ := hx
      obtain ⟨q, hq⟩ := (hff k hk).2.2
      refine ⟨q, hq.imp (fun ⟨h1, h2⟩ => ⟨?_, h2⟩) id⟩
      have hu : Try.prog.underlying 58 = _ := Try.underlying58
      simp only [DataW.weights, hu]
      refine List.mem_cons_of_mem _ (List.mem_append_left _ (weights_all h1 ?_))
      exact List.mem_map.2 ⟨k, List.mem_range.2 hk, rfl⟩
end
end Go.Proofs.Ytpnbkkpbgpcgiaa
