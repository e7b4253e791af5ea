/- From a law's walk to its row: rows of takes, of numbers and of media opened. -/
import Derived.Test.YtkmcohnhanphdaaGreatDoorWj
import Derived.Test.YtkmcohnhanphdaaGreatDoorVb
import Derived.Test.YtkmcohnhanphdaaGreatDoorVd
import Derived.Deep.Slices
import Derived.Deep.Fields
set_option linter.unusedSimpArgs false
set_option linter.unusedVariables false
namespace Go.Proofs.YtkmcohnhanphdaaGreatDoor
open Go.ChangeShapes Go.WideShapes Go.ChangeAt Go.RowKit Go.Joins Go.Deep Go.Dw
theorem rd_MEDIA : Tryz.prog.readableRec 25 = true ∧ 25 < Tryz.prog.types.size := ⟨by kernel_rfl, of_decide_eq_true (by kernel_rfl)⟩
instance : Inhabited Tk := ⟨tkOf [] 0⟩
instance : Inhabited Md := ⟨mdOf [] 0⟩
section
variable {H : Type} {enc : TypeId × Value → H}
set_option maxRecDepth 100000 in
theorem open_media {W : World} {b0 : Nat} {v : Value} {d : DataW H} {p : List MemPlace} (hv : Value.okWide Tryz.prog W .any b0 25 v) (h : DataW.Trod enc Tryz.prog W 0 (fun _ => true) true 25 v d p) :
    ∃ A n c l, v = .slice A n c ∧ n ≤ c ∧ c ≤ maxLen ∧ MediaAt W W.heap.size A n l ∧ ∀ x ∈ l, x.name.size ≤ maxLen := by
  obtain ⟨a0, n0, c0, rfl⟩ := okWide_slice Tryz.underlying25 hv
  obtain ⟨fuel, hf⟩ := h
  have hf0 : DataW.trod enc Tryz.prog W 0 (fun _ => true) true fuel 25 [Value.slice a0 n0 c0] = some (d, p) := hf
  have hC : Tryz.prog.cellsOf 38 = 3 := by kernel_rfl
  rcases open_slice Tryz.underlying25 hf0 with ⟨hcs, hx⟩ | ⟨a, len, cap, m, n, D, Pl, hcs, _, hl, hm, hmm, hx, hi⟩
  · simp at hcs
    obtain ⟨rfl, rfl, rfl⟩ := hcs
    exact ⟨none, 0, 0, [], rfl, Nat.le_refl _, Nat.zero_le _, ⟨rfl, fun k hk => by omega⟩, fun x hx => by cases hx⟩
  · simp at hcs
    obtain ⟨rfl, rfl, rfl⟩ := hcs
    simp only [if_true] at hmm
    have hel : ∀ i, i < n0 → ∃ x : Md, W.cell? (a.add (i * 3)) = some (.string x.name) ∧ W.cell? (a.add (i * 3 + 1)) = some (.int .i64 x.rate) ∧
        (∃ A' n' c', W.cell? (a.add (i * 3 + 2)) = some (.slice A' n' c') ∧ n' ≤ c' ∧ c' ≤ maxLen ∧ RowsAt W W.heap.size A' n' x.xss) ∧ x.name.size ≤ maxLen := by
      intro i hin
      obtain ⟨cs', hc, ht⟩ := hi i (by omega)
      rw [hC] at hc
      obtain ⟨_, hcl, hat⟩ := World.cells?_some hc
      obtain ⟨ys, n', hn', hy, hlen, hyl, hf'⟩ := DataW.trod_struct Tryz.underlying38 ht
      match cs', hcl with
      | [c0, c1, c2], _ =>
      match ys, hyl with
      | [y0, y1], _ =>
      have t0 : DataW.trod enc Tryz.prog W 0 (fun _ => true) true n' 9 (([c0, c1, c2].drop 0).take (Tryz.prog.cellsOf 9)) = some y0 := hf' 0 _ rfl
      have t1 : DataW.trod enc Tryz.prog W 0 (fun _ => true) true n' 33 (([c0, c1, c2].drop 1).take (Tryz.prog.cellsOf 33)) = some y1 := hf' 1 _ rfl
      have hc1 : Tryz.prog.cellsOf 9 = 1 := by kernel_rfl
      have hc2 : Tryz.prog.cellsOf 33 = 2 := by kernel_rfl
      have hc3 : Tryz.prog.cellsOf 3 = 1 := by kernel_rfl
      have hc4 : Tryz.prog.cellsOf 31 = 1 := by kernel_rfl
      rw [hc1] at t0
      rw [hc2] at t1
      have t1' : DataW.trod enc Tryz.prog W 0 (fun _ => true) true n' 33 [c1, c2] = some y1 := t1
      obtain ⟨zs, n2, hn2, hz, hzlen, hzl, hfz⟩ := DataW.trod_struct Tryz.underlying33 t1'
      match zs, hzl with
      | [y2, y3], _ =>
      have t2 : DataW.trod enc Tryz.prog W 0 (fun _ => true) true n2 3 (([c1, c2].drop 0).take (Tryz.prog.cellsOf 3)) = some y2 := hfz 0 _ rfl
      have t3 : DataW.trod enc Tryz.prog W 0 (fun _ => true) true n2 31 (([c1, c2].drop 1).take (Tryz.prog.cellsOf 31)) = some y3 := hfz 1 _ rfl
      rw [hc3] at t2
      rw [hc4] at t3
      obtain ⟨z0, e0, _, w0⟩ := DataW.trod_string Tryz.underlying9 t0
      obtain ⟨z1, e1, _, w1⟩ := DataW.trod_int Tryz.underlying3 t2
      obtain ⟨A', n1, c', xss, e3, g1, g2, g3⟩ := open_rows t3
      simp at e0 e1 e3
      subst e0 e1 e3
      refine ⟨⟨z0, z1, xss⟩, ?_, ?_, ⟨A', n1, c', ?_, g1, g2, g3⟩, w0⟩
      · have := hat 0 (by omega); rw [add_add] at this; simpa using this
      · have := hat 1 (by omega); rw [add_add] at this; simpa using this
      · have := hat 2 (by omega); rw [add_add] at this; simpa using this
    obtain ⟨f, hff⟩ := choose_lt hel
    refine ⟨some a, n0, c0, (List.range n0).map f, rfl, hl, hm, ⟨by simp, fun k hk => ?_⟩, fun x hx => ?_⟩
    · have hsp := spot_none (show W.cell? (a.add 0) = _ by have := (hff 0 (by omega)).1; simpa using this)
      obtain ⟨c1, c2, ⟨A', n', c', c4, g1, g2, g3⟩, c5⟩ := hff k hk
      have e : mdOf ((List.range n0).map f) k = f k := by simp [mdOf, List.getD, hk]
      rw [hsp, add_flat] at c1 c2 c4
      rw [e]
      exact ⟨a.block, a.off, A', n', c', by rw [← hsp], lt_of_cell (a := ⟨a.block, a.off + k * 3, none⟩) c1, ⟨c1, by rw [Nat.add_assoc]; exact c2, by rw [Nat.add_assoc]; exact c4⟩, g1, g2, g3⟩
    · simp only [List.mem_map, List.mem_range] at hx
      obtain ⟨k, hk, rfl⟩ := hx
      exact (hff k hk).2.2.2
end
end Go.Proofs.YtkmcohnhanphdaaGreatDoor
/- From a law's walk to its row: an edit opened. -/
namespace Go.Proofs.YtkmcohnhanphdaaGreatDoor
open Go.ChangeShapes Go.WideShapes Go.ChangeAt Go.RowKit Go.Joins Go.Deep Go.Dw
theorem rd_EDIT : Tryz.prog.readableRec 24 = true ∧ 24 < Tryz.prog.types.size := ⟨by kernel_rfl, of_decide_eq_true (by kernel_rfl)⟩
instance : Inhabited Pt := ⟨pt0⟩
instance : Inhabited Cp := ⟨cp0⟩
section
variable {H : Type} {enc : TypeId × Value → H}
set_option maxRecDepth 100000 in
theorem open_ptsT {W : World} {fuel : Nat} {cs : List Value} {x : DataW H × List MemPlace} (h : DataW.trod enc Tryz.prog W 0 (fun _ => true) true fuel 56 cs = some x) :
    ∃ A n c l, cs = [.slice A n c] ∧ n ≤ c ∧ c ≤ maxLen ∧ PtsAt W W.heap.size A n l ∧ ∀ p ∈ l, p.num.size ≤ maxLen ∧ p.den.size ≤ maxLen := by
  have hC : Tryz.prog.cellsOf 68 = 3 := by kernel_rfl
  have hc1 : Tryz.prog.cellsOf 9 = 1 := by kernel_rfl
  have hc2 : Tryz.prog.cellsOf 3 = 1 := by kernel_rfl
  have hc3 : Tryz.prog.cellsOf 66 = 2 := by kernel_rfl
  rcases open_slice Tryz.underlying56 h with ⟨hcs, hx⟩ | ⟨a, len, cap, m, n, D, Pl, hcs, _, hl, hm, hmm, hx, hi⟩
  · exact ⟨none, 0, 0, [], hcs, Nat.le_refl _, Nat.zero_le _, PtsAt.nil _ _ _, fun p hp => by cases hp⟩
  · simp only [if_true] at hmm
    have hel : ∀ i, i < len → ∃ x : Pt, W.cell? (a.add (i * 3)) = some (.int .i64 x.at_) ∧ W.cell? (a.add (i * 3 + 1)) = some (.string x.num) ∧ W.cell? (a.add (i * 3 + 2)) = some (.string x.den) ∧ x.num.size ≤ maxLen ∧ x.den.size ≤ maxLen := by
      intro i hin
      obtain ⟨cs', hc, ht⟩ := hi i (by omega)
      rw [hC] at hc
      obtain ⟨_, hcl, hat⟩ := World.cells?_some hc
      obtain ⟨ys, n', hn', hy, hlen, hyl, hf'⟩ := DataW.trod_struct Tryz.underlying68 ht
      match cs', hcl with
      | [c0, c1, c2], _ =>
      match ys, hyl with
      | [y0, y1], _ =>
      have t0 : DataW.trod enc Tryz.prog W 0 (fun _ => true) true n' 3 (([c0, c1, c2].drop 0).take (Tryz.prog.cellsOf 3)) = some y0 := hf' 0 _ rfl
      have t1 : DataW.trod enc Tryz.prog W 0 (fun _ => true) true n' 66 (([c0, c1, c2].drop 1).take (Tryz.prog.cellsOf 66)) = some y1 := hf' 1 _ rfl
      rw [hc2] at t0
      rw [hc3] at t1
      have t1' : DataW.trod enc Tryz.prog W 0 (fun _ => true) true n' 66 [c1, c2] = some y1 := t1
      obtain ⟨zs, n2, hn2, hz, hzlen, hzl, hfz⟩ := DataW.trod_struct Tryz.underlying66 t1'
      match zs, hzl with
      | [y2, y3], _ =>
      have t2 : DataW.trod enc Tryz.prog W 0 (fun _ => true) true n2 9 (([c1, c2].drop 0).take (Tryz.prog.cellsOf 9)) = some y2 := hfz 0 _ rfl
      have t3 : DataW.trod enc Tryz.prog W 0 (fun _ => true) true n2 9 (([c1, c2].drop 1).take (Tryz.prog.cellsOf 9)) = some y3 := hfz 1 _ rfl
      rw [hc1] at t2 t3
      obtain ⟨z0, e0, _, w0⟩ := DataW.trod_int Tryz.underlying3 t0
      obtain ⟨z1, e1, _, w1⟩ := DataW.trod_string Tryz.underlying9 t2
      obtain ⟨z2, e2, _, w2⟩ := DataW.trod_string Tryz.underlying9 t3
      simp at e0 e1 e2
      subst e0 e1 e2
      refine ⟨⟨z0, z1, z2⟩, ?_, ?_, ?_, w1, w2⟩
      · have := hat 0 (by omega); rw [add_add] at this; simpa using this
      · have := hat 1 (by omega); rw [add_add] at this; simpa using this
      · have := hat 2 (by omega); rw [add_add] at this; simpa using this
    obtain ⟨f, hff⟩ := choose_lt hel
    refine ⟨some a, len, cap, (List.range len).map f, hcs, hl, hm, ⟨by simp, fun k hk => ?_⟩, fun x hx => ?_⟩
    · have hsp := spot_none (show W.cell? (a.add 0) = _ by have := (hff 0 (by omega)).1; simpa using this)
      obtain ⟨c1, c2, c3, _⟩ := hff k hk
      have e : ptOf ((List.range len).map f) k = f k := by simp [ptOf, List.getD, hk]
      rw [hsp, add_flat] at c1 c2 c3
      rw [e]
      exact ⟨a.block, a.off, by rw [← hsp], lt_of_cell (a := ⟨a.block, a.off + k * 3, none⟩) c1, c1, by rw [Nat.add_assoc]; exact c2, by rw [Nat.add_assoc]; exact c3⟩
    · simp only [List.mem_map, List.mem_range] at hx
      obtain ⟨k, hk, rfl⟩ := hx
      exact (hff k hk).2.2.2
set_option maxRecDepth 100000 in
theorem open_clipsT {W : World} {fuel : Nat} {cs : List Value} {x : DataW H × List MemPlace} (h : DataW.trod enc Tryz.prog W 0 (fun _ => true) true fuel 22 cs = some x) :
    ∃ A n c l, cs = [.slice A n c] ∧ n ≤ c ∧ c ≤ maxLen ∧ ClipsAt W W.heap.size A n l ∧ ∀ x ∈ l, CpFits x := by
  have hC : Tryz.prog.cellsOf 58 = 7 := by kernel_rfl
  have hc1 : Tryz.prog.cellsOf 9 = 1 := by kernel_rfl
  have hc2 : Tryz.prog.cellsOf 3 = 1 := by kernel_rfl
  have hc3 : Tryz.prog.cellsOf 56 = 1 := by kernel_rfl
  rcases open_slice Tryz.underlying22 h with ⟨hcs, hx⟩ | ⟨a, len, cap, m, n, D, Pl, hcs, _, hl, hm, hmm, hx, hi⟩
  · exact ⟨none, 0, 0, [], hcs, Nat.le_refl _, Nat.zero_le _, ClipsAt.nil _ _ _, fun p hp => by cases hp⟩
  · simp only [if_true] at hmm
    have hel : ∀ i, i < len → ∃ x : Cp, W.cell? (a.add (i * 7)) = some (.string x.media) ∧ W.cell? (a.add (i * 7 + 1)) = some (.int .i64 x.chan) ∧ W.cell? (a.add (i * 7 + 2)) = some (.int .i64 x.from_) ∧ W.cell? (a.add (i * 7 + 3)) = some (.int .i64 x.track) ∧ W.cell? (a.add (i * 7 + 4)) = some (.int .i64 x.at_) ∧ W.cell? (a.add (i * 7 + 5)) = some (.int .i64 x.len) ∧
        (∃ A' n' c', W.cell? (a.add (i * 7 + 6)) = some (.slice A' n' c') ∧ n' ≤ c' ∧ c' ≤ maxLen ∧ PtsAt W W.heap.size A' n' x.env) ∧ CpFits x := by
      intro i hin
      obtain ⟨cs', hc, ht⟩ := hi i (by omega)
      rw [hC] at hc
      obtain ⟨_, hcl, hat⟩ := World.cells?_some hc
      obtain ⟨ys, n', hn', hy, hlen, hyl, hf'⟩ := DataW.trod_struct Tryz.underlying58 ht
      match cs', hcl with
      | [c0, c1, c2, c3, c4, c5, c6], _ =>
      match ys, hyl with
      | [y0, y1, y2, y3, y4, y5, y6], _ =>
      have t0 : DataW.trod enc Tryz.prog W 0 (fun _ => true) true n' 9 (([c0, c1, c2, c3, c4, c5, c6].drop 0).take (Tryz.prog.cellsOf 9)) = some y0 := hf' 0 _ rfl
      have t1 : DataW.trod enc Tryz.prog W 0 (fun _ => true) true n' 3 (([c0, c1, c2, c3, c4, c5, c6].drop 1).take (Tryz.prog.cellsOf 3)) = some y1 := hf' 1 _ rfl
      have t2 : DataW.trod enc Tryz.prog W 0 (fun _ => true) true n' 3 (([c0, c1, c2, c3, c4, c5, c6].drop 2).take (Tryz.prog.cellsOf 3)) = some y2 := hf' 2 _ rfl
      have t3 : DataW.trod enc Tryz.prog W 0 (fun _ => true) true n' 3 (([c0, c1, c2, c3, c4, c5, c6].drop 3).take (Tryz.prog.cellsOf 3)) = some y3 := hf' 3 _ rfl
      have t4 : DataW.trod enc Tryz.prog W 0 (fun _ => true) true n' 3 (([c0, c1, c2, c3, c4, c5, c6].drop 4).take (Tryz.prog.cellsOf 3)) = some y4 := hf' 4 _ rfl
      have t5 : DataW.trod enc Tryz.prog W 0 (fun _ => true) true n' 3 (([c0, c1, c2, c3, c4, c5, c6].drop 5).take (Tryz.prog.cellsOf 3)) = some y5 := hf' 5 _ rfl
      have t6 : DataW.trod enc Tryz.prog W 0 (fun _ => true) true n' 56 (([c0, c1, c2, c3, c4, c5, c6].drop 6).take (Tryz.prog.cellsOf 56)) = some y6 := hf' 6 _ rfl
      rw [hc1] at t0
      rw [hc2] at t1 t2 t3 t4 t5
      rw [hc3] at t6
      obtain ⟨z0, e0, _, w0⟩ := DataW.trod_string Tryz.underlying9 t0
      obtain ⟨z1, e1, _, _⟩ := DataW.trod_int Tryz.underlying3 t1
      obtain ⟨z2, e2, _, _⟩ := DataW.trod_int Tryz.underlying3 t2
      obtain ⟨z3, e3, _, _⟩ := DataW.trod_int Tryz.underlying3 t3
      obtain ⟨z4, e4, _, _⟩ := DataW.trod_int Tryz.underlying3 t4
      obtain ⟨z5, e5, _, _⟩ := DataW.trod_int Tryz.underlying3 t5
      obtain ⟨A', n1, c', ps, e6, g1, g2, g3, g4⟩ := open_ptsT t6
      simp at e0 e1 e2 e3 e4 e5 e6
      subst e0 e1 e2 e3 e4 e5 e6
      refine ⟨⟨z0, z1, z2, z3, z4, z5, ps⟩, ?_, ?_, ?_, ?_, ?_, ?_, ⟨A', n1, c', ?_, g1, g2, g3⟩, w0, g4⟩
      · have := hat 0 (by omega); rw [add_add] at this; simpa using this
      · have := hat 1 (by omega); rw [add_add] at this; simpa using this
      · have := hat 2 (by omega); rw [add_add] at this; simpa using this
      · have := hat 3 (by omega); rw [add_add] at this; simpa using this
      · have := hat 4 (by omega); rw [add_add] at this; simpa using this
      · have := hat 5 (by omega); rw [add_add] at this; simpa using this
      · have := hat 6 (by omega); rw [add_add] at this; simpa using this
    obtain ⟨f, hff⟩ := choose_lt hel
    refine ⟨some a, len, cap, (List.range len).map f, hcs, hl, hm, ⟨by simp, fun k hk => ?_⟩, fun x hx => ?_⟩
    · have hsp := spot_none (show W.cell? (a.add 0) = _ by have := (hff 0 (by omega)).1; simpa using this)
      obtain ⟨c0, c1, c2, c3, c4, c5, ⟨A', n', c', c6, g1, g2, g3⟩, _⟩ := hff k hk
      have e : cpOf ((List.range len).map f) k = f k := by simp [cpOf, List.getD, hk]
      rw [hsp, add_flat] at c0 c1 c2 c3 c4 c5 c6
      rw [e]
      exact ⟨a.block, a.off, A', n', c', by rw [← hsp], lt_of_cell (a := ⟨a.block, a.off + k * 7, none⟩) c0, ⟨c0, by rw [Nat.add_assoc]; exact c1, by rw [Nat.add_assoc]; exact c2, by rw [Nat.add_assoc]; exact c3, by rw [Nat.add_assoc]; exact c4, by rw [Nat.add_assoc]; exact c5, by rw [Nat.add_assoc]; exact c6⟩, g1, g2, g3⟩
    · simp only [List.mem_map, List.mem_range] at hx
      obtain ⟨k, hk, rfl⟩ := hx
      exact (hff k hk).2.2.2.2.2.2.2
set_option maxRecDepth 100000 in
theorem open_edit {W : World} {b0 : Nat} {v : Value} {d : DataW H} {p : List MemPlace} (hv : Value.okWide Tryz.prog W .any b0 24 v) (h : DataW.Trod enc Tryz.prog W 0 (fun _ => true) true 24 v d p) :
    ∃ r t A n c l, v = .agg #[.int .i64 r, .int .i64 t, .slice A n c] ∧ n ≤ c ∧ c ≤ maxLen ∧ ClipsAt W W.heap.size A n l ∧ ∀ x ∈ l, CpFits x := by
  obtain ⟨c0, c1, c2, y0, y1, y2, m, rfl, rfl, rfl, hy0, hy1, hy2⟩ := open_agg3 Tryz.underlying24 (by kernel_rfl) (by kernel_rfl) hv h
  obtain ⟨r, e0, _, _⟩ := DataW.trod_int Tryz.underlying3 hy0
  obtain ⟨t, e1, _, _⟩ := DataW.trod_int Tryz.underlying3 hy1
  obtain ⟨A, n, c, l, e2, h1, h2, h3, h4⟩ := open_clipsT hy2
  simp at e0 e1 e2
  subst e0 e1 e2
  exact ⟨r, t, A, n, c, l, rfl, h1, h2, h3, h4⟩
end
end Go.Proofs.YtkmcohnhanphdaaGreatDoor
