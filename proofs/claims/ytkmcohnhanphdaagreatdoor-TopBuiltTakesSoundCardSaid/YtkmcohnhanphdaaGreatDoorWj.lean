/- Arguments of type Ratio opened. -/
import Derived.Test.YtkmcohnhanphdaaGreatDoorLiftB
import Derived.Deep.Matrix
set_option linter.unusedSimpArgs false
set_option linter.unusedVariables false
namespace Go.Proofs.YtkmcohnhanphdaaGreatDoor
open Go.ChangeShapes Go.WideShapes Go.ChangeAt Go.RowKit Go.Joins Go.Deep Go.Dw
theorem rd_RATIO : Tryz.prog.readableRec 66 = true ∧ 66 < Tryz.prog.types.size := ⟨by kernel_rfl, of_decide_eq_true (by kernel_rfl)⟩
theorem rd_STRING : Tryz.prog.readableRec 9 = true ∧ 9 < Tryz.prog.types.size := ⟨by kernel_rfl, of_decide_eq_true (by kernel_rfl)⟩
theorem i64_wf {a : Int} (h : (Lit.int .i64 a).wf = true) : -9223372036854775808 ≤ a ∧ a ≤ 9223372036854775807 := by
  have h2 : (decide (IntKind.i64.min ≤ a) && decide (a ≤ IntKind.i64.max)) = true := h
  simp only [Bool.and_eq_true, decide_eq_true_eq] at h2
  exact ⟨h2.1, h2.2⟩
section
variable {H : Type} {enc : TypeId × Value → H}
set_option maxRecDepth 100000 in
theorem open_ratio {W : World} {b0 : Nat} {v : Value} {d : DataW H} {p : List MemPlace} (hv : Value.okWide Tryz.prog W .any b0 66 v) (h : DataW.Trod enc Tryz.prog W 0 (fun _ => true) true 66 v d p) :
    ∃ s t : ByteArray, v = .agg #[.string s, .string t] ∧ s.size ≤ maxLen ∧ t.size ≤ maxLen := by
  obtain ⟨c0, c1, y0, y1, m, rfl, rfl, rfl, hy0, hy1⟩ := open_agg2 Tryz.underlying66 (by kernel_rfl) (by kernel_rfl) hv h
  obtain ⟨s, e0, _, z0⟩ := DataW.trod_string Tryz.underlying9 hy0
  obtain ⟨t, e1, _, z1⟩ := DataW.trod_string Tryz.underlying9 hy1
  simp at e0 e1
  subst e0 e1
  exact ⟨s, t, rfl, z0, z1⟩
end
end Go.Proofs.YtkmcohnhanphdaaGreatDoor

/- From a law's walk to its row: sounds and spans opened, beside a row with laid tables. -/
set_option linter.unusedSimpArgs false
set_option linter.unusedVariables false
namespace Go.Proofs.YtkmcohnhanphdaaGreatDoor
open Go.ChangeShapes Go.WideShapes Go.ChangeAt Go.RowKit Go.Joins Go.Deep Go.Dw
theorem rd_SND : Tryz.prog.readableRec 33 = true ∧ 33 < Tryz.prog.types.size := ⟨by kernel_rfl, of_decide_eq_true (by kernel_rfl)⟩
theorem rd_SPAN : Tryz.prog.readableRec 51 = true ∧ 51 < Tryz.prog.types.size := ⟨by kernel_rfl, of_decide_eq_true (by kernel_rfl)⟩
section
variable {H : Type} {enc : TypeId × Value → H}
theorem open_rows {W : World} {fuel : Nat} {cs : List Value} {x : DataW H × List MemPlace} (h : DataW.trod enc Tryz.prog W 0 (fun _ => true) true fuel 31 cs = some x) :
    ∃ A n c xss, cs = [.slice A n c] ∧ n ≤ c ∧ c ≤ maxLen ∧ RowsAt W W.heap.size A n xss := by
  rcases open_int_rows Tryz.underlying31 Tryz.underlying42 Tryz.underlying3 (by kernel_rfl) (by kernel_rfl) h with ⟨rfl, _⟩ | ⟨a, len, cap, A, L, C, Z, rfl, _, hl, hm, _, hx⟩
  · exact ⟨none, 0, 0, [], rfl, Nat.le_refl _, Nat.zero_le _, rfl, Nat.zero_le _, fun k hk => by omega⟩
  · refine ⟨some a, len, cap, (List.range len).map fun r => (Z r).take (L r), rfl, hl, hm, by simp, by omega, fun k hk => ?_⟩
    obtain ⟨h1, h2, h3, h4, _, h6, h7⟩ := hx k (by omega)
    have hrow : rowOf ((List.range len).map fun r => (Z r).take (L r)) k = (Z k).take (L k) := by
      simp [rowOf, List.getD, hk]
    refine ⟨a, rfl, by have := lt_of_cell h1; rwa [block_of_add] at this, A k, L k, C k, h1, h2, h3, ?_⟩
    rw [hrow]
    refine ⟨by simp [h4, h2], fun j hj => ?_⟩
    cases hA : A k with
    | none => have := h6 hA; omega
    | some a' =>
      have hc := (h7 a' hA).2 j (by omega)
      refine ⟨a', rfl, by have := lt_of_cell hc; rwa [block_of_add] at this, ?_⟩
      rw [hc]
      simp [elOf, List.getD, List.getElem?_take, hj]

set_option maxRecDepth 100000 in
theorem open_snd {W : World} {b0 : Nat} {v : Value} {d : DataW H} {p : List MemPlace} (hv : Value.okWide Tryz.prog W .any b0 33 v) (h : DataW.Trod enc Tryz.prog W 0 (fun _ => true) true 33 v d p) :
    ∃ r A n c xss, v = .agg #[.int .i64 r, .slice A n c] ∧ (Lit.int .i64 r).wf = true ∧ n ≤ c ∧ c ≤ maxLen ∧ RowsAt W W.heap.size A n xss := by
  obtain ⟨c0, c1, y0, y1, m, rfl, rfl, rfl, hy0, hy1⟩ := open_agg2 Tryz.underlying33 (by kernel_rfl) (by kernel_rfl) hv h
  obtain ⟨r, e0, rfl, wr⟩ := DataW.trod_int Tryz.underlying3 hy0
  simp at e0
  subst e0
  obtain ⟨A, n, c, xss, e1, h1, h2, h3⟩ := open_rows hy1
  simp at e1
  subst e1
  exact ⟨r, A, n, c, xss, rfl, wr, h1, h2, h3⟩

set_option maxRecDepth 100000 in
theorem open_span {W : World} {b0 : Nat} {v : Value} {d : DataW H} {p : List MemPlace} (hv : Value.okWide Tryz.prog W .any b0 51 v) (h : DataW.Trod enc Tryz.prog W 0 (fun _ => true) true 51 v d p) :
    ∃ a b, v = .agg #[.int .i64 a, .int .i64 b] ∧ (Lit.int .i64 a).wf = true ∧ (Lit.int .i64 b).wf = true := by
  obtain ⟨c0, c1, y0, y1, m, rfl, rfl, rfl, hy0, hy1⟩ := open_agg2 Tryz.underlying51 (by kernel_rfl) (by kernel_rfl) hv h
  obtain ⟨a, e0, rfl, wa⟩ := DataW.trod_int Tryz.underlying3 hy0
  obtain ⟨b, e1, rfl, wb⟩ := DataW.trod_int Tryz.underlying3 hy1
  simp at e0 e1
  subst e0 e1
  exact ⟨a, b, rfl, wa, wb⟩
end
end Go.Proofs.YtkmcohnhanphdaaGreatDoor
