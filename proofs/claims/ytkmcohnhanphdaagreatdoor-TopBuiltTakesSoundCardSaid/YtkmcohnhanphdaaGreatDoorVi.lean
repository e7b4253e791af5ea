/- From a law's walk to its row: rows of takes, of numbers and of media opened. -/
import Derived.Test.YtkmcohnhanphdaaGreatDoorWj
import Derived.Test.YtkmcohnhanphdaaGreatDoorVb
import Derived.Test.YtkmcohnhanphdaaGreatDoorVd
import Derived.Deep.Slices
import Derived.Deep.Fields
import Derived.Test.YtkmcohnhanphdaaGreatDoorBl
import Derived.Deep.DeepHandedRow
import Derived.Stop.Joined
import Derived.JoinedCond
import Derived.HandedShaped
import Derived.ShapedOpen
import Derived.Shelf.Vars
import Derived.Lay
import Derived.MakeChecks
import Derived.LaidMore
import Derived.ChangeMaps5
set_option linter.unusedSimpArgs false
set_option linter.unusedVariables false
namespace Go.Proofs.YtkmcohnhanphdaaGreatDoor
open Go.ChangeShapes Go.WideShapes Go.ChangeAt Go.RowKit Go.Joins Go.Deep Go.Dw
theorem rd_TAKES : Tryz.prog.readableRec 41 = true ∧ 41 < Tryz.prog.types.size := ⟨by kernel_rfl, of_decide_eq_true (by kernel_rfl)⟩
theorem rd_INTS : Tryz.prog.readableRec 42 = true ∧ 42 < Tryz.prog.types.size := ⟨by kernel_rfl, of_decide_eq_true (by kernel_rfl)⟩
theorem rd_MEDIA : Tryz.prog.readableRec 25 = true ∧ 25 < Tryz.prog.types.size := ⟨by kernel_rfl, of_decide_eq_true (by kernel_rfl)⟩
instance : Inhabited Tk := ⟨tkOf [] 0⟩
instance : Inhabited Md := ⟨mdOf [] 0⟩
section
variable {H : Type} {enc : TypeId × Value → H}
theorem open_intsT {W : World} {fuel : Nat} {cs : List Value} {x : DataW H × List MemPlace} (h : DataW.trod enc Tryz.prog W 0 (fun _ => true) true fuel 42 cs = some x) :
    ∃ A n c xs, cs = [.slice A n c] ∧ n ≤ c ∧ c ≤ maxLen ∧ IntsAt W W.heap.size A n xs := by
  rcases open_ints Tryz.underlying42 Tryz.underlying3 (by kernel_rfl) h with ⟨rfl, _⟩ | ⟨a, len, cap, zs, rfl, _, hl, hm, hz, _, hc, _⟩
  · exact ⟨none, 0, 0, [], rfl, Nat.le_refl _, Nat.zero_le _, rfl, fun k hk => by omega⟩
  · simp only [if_true] at hz
    refine ⟨some a, len, cap, zs.take len, rfl, hl, hm, by simp; omega, fun j hj => ?_⟩
    have h1 := hc j (by omega)
    refine ⟨a, rfl, by have := lt_of_cell h1; rwa [block_of_add] at this, ?_⟩
    rw [h1]
    simp [elOf, List.getD, List.getElem?_take, hj]
set_option maxRecDepth 100000 in
theorem open_intsp {W : World} {b0 : Nat} {v : Value} {d : DataW H} {p : List MemPlace} (hv : Value.okWide Tryz.prog W .any b0 42 v) (h : DataW.Trod enc Tryz.prog W 0 (fun _ => true) true 42 v d p) :
    ∃ A n c xs, v = .slice A n c ∧ n ≤ c ∧ c ≤ maxLen ∧ IntsAt W W.heap.size A n xs := by
  obtain ⟨a0, n0, c0, rfl⟩ := okWide_slice Tryz.underlying42 hv
  obtain ⟨fuel, hf⟩ := h
  obtain ⟨A, n, c, xs, e, h1, h2, h3⟩ := open_intsT hf
  simp [Value.cells] at e
  obtain ⟨rfl, rfl, rfl⟩ := e
  exact ⟨_, _, _, xs, rfl, h1, h2, h3⟩
set_option maxRecDepth 100000 in
theorem open_takes {W : World} {b0 : Nat} {v : Value} {d : DataW H} {p : List MemPlace} (hv : Value.okWide Tryz.prog W .any b0 41 v) (h : DataW.Trod enc Tryz.prog W 0 (fun _ => true) true 41 v d p) :
    ∃ A n c l, v = .slice A n c ∧ n ≤ c ∧ c ≤ maxLen ∧ TakesAt W W.heap.size A n l ∧ ∀ x ∈ l, x.media.size ≤ maxLen := by
  obtain ⟨a0, n0, c0, rfl⟩ := okWide_slice Tryz.underlying41 hv
  obtain ⟨fuel, hf⟩ := h
  have hf0 : DataW.trod enc Tryz.prog W 0 (fun _ => true) true fuel 41 [Value.slice a0 n0 c0] = some (d, p) := hf
  have hC : Tryz.prog.cellsOf 47 = 4 := by kernel_rfl
  rcases open_slice Tryz.underlying41 hf0 with ⟨hcs, hx⟩ | ⟨a, len, cap, m, n, D, Pl, hcs, _, hl, hm, hmm, hx, hi⟩
  · simp at hcs
    obtain ⟨rfl, rfl, rfl⟩ := hcs
    exact ⟨none, 0, 0, [], rfl, Nat.le_refl _, Nat.zero_le _, ⟨rfl, fun k hk => by omega⟩, fun x hx => by cases hx⟩
  · simp at hcs
    obtain ⟨rfl, rfl, rfl⟩ := hcs
    simp only [if_true] at hmm
    have hel : ∀ i, i < n0 → ∃ x : Tk, W.cell? (a.add (i * 4)) = some (.string x.media) ∧ W.cell? (a.add (i * 4 + 1)) = some (.int .i64 x.rate) ∧ W.cell? (a.add (i * 4 + 2)) = some (.int .i64 x.chans) ∧
        (∃ A' n' c', W.cell? (a.add (i * 4 + 3)) = some (.slice A' n' c') ∧ n' ≤ c' ∧ c' ≤ maxLen ∧ IntsAt W W.heap.size A' n' x.starts) ∧ x.media.size ≤ maxLen := by
      intro i hin
      obtain ⟨cs', hc, ht⟩ := hi i (by omega)
      rw [hC] at hc
      obtain ⟨_, hcl, hat⟩ := World.cells?_some hc
      obtain ⟨ys, n', hn', hy, hlen, hyl, hf'⟩ := DataW.trod_struct Tryz.underlying47 ht
      match cs', hcl with
      | [c0, c1, c2, c3], _ =>
      match ys, hyl with
      | [y0, y1, y2, y3], _ =>
      have t0 : DataW.trod enc Tryz.prog W 0 (fun _ => true) true n' 9 (([c0, c1, c2, c3].drop 0).take (Tryz.prog.cellsOf 9)) = some y0 := hf' 0 _ rfl
      have t1 : DataW.trod enc Tryz.prog W 0 (fun _ => true) true n' 3 (([c0, c1, c2, c3].drop 1).take (Tryz.prog.cellsOf 3)) = some y1 := hf' 1 _ rfl
      have t2 : DataW.trod enc Tryz.prog W 0 (fun _ => true) true n' 3 (([c0, c1, c2, c3].drop 2).take (Tryz.prog.cellsOf 3)) = some y2 := hf' 2 _ rfl
      have t3 : DataW.trod enc Tryz.prog W 0 (fun _ => true) true n' 42 (([c0, c1, c2, c3].drop 3).take (Tryz.prog.cellsOf 42)) = some y3 := hf' 3 _ rfl
      have hc1 : Tryz.prog.cellsOf 9 = 1 := by kernel_rfl
      have hc2 : Tryz.prog.cellsOf 3 = 1 := by kernel_rfl
      have hc3 : Tryz.prog.cellsOf 42 = 1 := by kernel_rfl
      rw [hc1] at t0
      rw [hc2] at t1 t2
      rw [hc3] at t3
      obtain ⟨z0, e0, _, w0⟩ := DataW.trod_string Tryz.underlying9 t0
      obtain ⟨z1, e1, _, w1⟩ := DataW.trod_int Tryz.underlying3 t1
      obtain ⟨z2, e2, _, w2⟩ := DataW.trod_int Tryz.underlying3 t2
      obtain ⟨A', n1, c', xs, e3, g1, g2, g3⟩ := open_intsT t3
      simp at e0 e1 e2 e3
      subst e0 e1 e2 e3
      refine ⟨⟨z0, z1, z2, xs⟩, ?_, ?_, ?_, ⟨A', n1, c', ?_, g1, g2, g3⟩, w0⟩
      · have := hat 0 (by omega); rw [add_add] at this; simpa using this
      · have := hat 1 (by omega); rw [add_add] at this; simpa using this
      · have := hat 2 (by omega); rw [add_add] at this; simpa using this
      · have := hat 3 (by omega); rw [add_add] at this; simpa using this
    obtain ⟨f, hff⟩ := choose_lt hel
    refine ⟨some a, n0, c0, (List.range n0).map f, rfl, hl, hm, ⟨by simp, fun k hk => ?_⟩, fun x hx => ?_⟩
    · have hsp := spot_none (show W.cell? (a.add 0) = _ by have := (hff 0 (by omega)).1; simpa using this)
      obtain ⟨c1, c2, c3, ⟨A', n', c', c4, g1, g2, g3⟩, c5⟩ := hff k hk
      have e : tkOf ((List.range n0).map f) k = f k := by simp [tkOf, List.getD, hk]
      rw [hsp, add_flat] at c1 c2 c3 c4
      rw [e]
      exact ⟨a.block, a.off, A', n', c', by rw [← hsp], lt_of_cell (a := ⟨a.block, a.off + k * 4, none⟩) c1, ⟨c1, by rw [Nat.add_assoc]; exact c2, by rw [Nat.add_assoc]; exact c3, by rw [Nat.add_assoc]; exact c4⟩, g1, g2, g3⟩
    · simp only [List.mem_map, List.mem_range] at hx
      obtain ⟨k, hk, rfl⟩ := hx
      exact (hff k hk).2.2.2.2
set_option maxRecDepth 100000 in
theorem open_media {W : World} {b0 : Nat} {v : Value} {d : DataW H} {p : List MemPlace} (hv : Value.okWide Tryz.prog W .any b0 25 v) (h : DataW.Trod enc Tryz.prog W 0 (fun _ => true) true 25 v d p) :
    ∃ A n c l, v = .slice A n c ∧ n ≤ c ∧ c ≤ maxLen ∧ MediaAt W W.heap.size A n l ∧ ∀ x ∈ l, x.name.size ≤ maxLen := by
  obtain ⟨a0, n0, c0, rfl⟩ := okWide_slice Tryz.underlying25 hv
  obtain ⟨fuel, hf⟩ := h
  have hf0 : DataW.trod enc Tryz.prog W 0 (fun _ => true) true fuel 25 [Value.slice a0 n0 c0] = some (d, p) := hf
  have hC : Tryz.prog.cellsOf 38 = 3 := by kernel_rfl
  rcases open_slice Tryz.underlying25 hf0 with ⟨hcs, hx⟩ | ⟨a, len, cap, m, n, D, Pl, hcs, _, hl, hm, hmm, hx, hi⟩
  · simp at hcs
    obtain ⟨rfl, rfl, rfl⟩ := hcs
    exact ⟨none, 0, 0, [], rfl, Nat.le_refl _, Nat.zero_le _, ⟨rfl, fun k hk => by omega⟩, fun x hx => by cases hx⟩
  · simp at hcs
    obtain ⟨rfl, rfl, rfl⟩ := hcs
    simp only [if_true] at hmm
    have hel : ∀ i, i < n0 → ∃ x : Md, W.cell? (a.add (i * 3)) = some (.string x.name) ∧ W.cell? (a.add (i * 3 + 1)) = some (.int .i64 x.rate) ∧
        (∃ A' n' c', W.cell? (a.add (i * 3 + 2)) = some (.slice A' n' c') ∧ n' ≤ c' ∧ c' ≤ maxLen ∧ RowsAt W W.heap.size A' n' x.xss) ∧ x.name.size ≤ maxLen := by
      intro i hin
      obtain ⟨cs', hc, ht⟩ := hi i (by omega)
      rw [hC] at hc
      obtain ⟨_, hcl, hat⟩ := World.cells?_some hc
      obtain ⟨ys, n', hn', hy, hlen, hyl, hf'⟩ := DataW.trod_struct Tryz.underlying38 ht
      match cs', hcl with
      | [c0, c1, c2], _ =>
      match ys, hyl with
      | [y0, y1], _ =>
      have t0 : DataW.trod enc Tryz.prog W 0 (fun _ => true) true n' 9 (([c0, c1, c2].drop 0).take (Tryz.prog.cellsOf 9)) = some y0 := hf' 0 _ rfl
      have t1 : DataW.trod enc Tryz.prog W 0 (fun _ => true) true n' 33 (([c0, c1, c2].drop 1).take (Tryz.prog.cellsOf 33)) = some y1 := hf' 1 _ rfl
      have hc1 : Tryz.prog.cellsOf 9 = 1 := by kernel_rfl
      have hc2 : Tryz.prog.cellsOf 33 = 2 := by kernel_rfl
      have hc3 : Tryz.prog.cellsOf 3 = 1 := by kernel_rfl
      have hc4 : Tryz.prog.cellsOf 31 = 1 := by kernel_rfl
      rw [hc1] at t0
      rw [hc2] at t1
      have t1' : DataW.trod enc Tryz.prog W 0 (fun _ => true) true n' 33 [c1, c2] = some y1 := t1
      obtain ⟨zs, n2, hn2, hz, hzlen, hzl, hfz⟩ := DataW.trod_struct Tryz.underlying33 t1'
      match zs, hzl with
      | [y2, y3], _ =>
      have t2 : DataW.trod enc Tryz.prog W 0 (fun _ => true) true n2 3 (([c1, c2].drop 0).take (Tryz.prog.cellsOf 3)) = some y2 := hfz 0 _ rfl
      have t3 : DataW.trod enc Tryz.prog W 0 (fun _ => true) true n2 31 (([c1, c2].drop 1).take (Tryz.prog.cellsOf 31)) = some y3 := hfz 1 _ rfl
      rw [hc3] at t2
      rw [hc4] at t3
      obtain ⟨z0, e0, _, w0⟩ := DataW.trod_string Tryz.underlying9 t0
      obtain ⟨z1, e1, _, w1⟩ := DataW.trod_int Tryz.underlying3 t2
      obtain ⟨A', n1, c', xss, e3, g1, g2, g3⟩ := open_rows t3
      simp at e0 e1 e3
      subst e0 e1 e3
      refine ⟨⟨z0, z1, xss⟩, ?_, ?_, ⟨A', n1, c', ?_, g1, g2, g3⟩, w0⟩
      · have := hat 0 (by omega); rw [add_add] at this; simpa using this
      · have := hat 1 (by omega); rw [add_add] at this; simpa using this
      · have := hat 2 (by omega); rw [add_add] at this; simpa using this
    obtain ⟨f, hff⟩ := choose_lt hel
    refine ⟨some a, n0, c0, (List.range n0).map f, rfl, hl, hm, ⟨by simp, fun k hk => ?_⟩, fun x hx => ?_⟩
    · have hsp := spot_none (show W.cell? (a.add 0) = _ by have := (hff 0 (by omega)).1; simpa using this)
      obtain ⟨c1, c2, ⟨A', n', c', c4, g1, g2, g3⟩, c5⟩ := hff k hk
      have e : mdOf ((List.range n0).map f) k = f k := by simp [mdOf, List.getD, hk]
      rw [hsp, add_flat] at c1 c2 c4
      rw [e]
      exact ⟨a.block, a.off, A', n', c', by rw [← hsp], lt_of_cell (a := ⟨a.block, a.off + k * 3, none⟩) c1, ⟨c1, by rw [Nat.add_assoc]; exact c2, by rw [Nat.add_assoc]; exact c4⟩, g1, g2, g3⟩
    · simp only [List.mem_map, List.mem_range] at hx
      obtain ⟨k, hk, rfl⟩ := hx
      exact (hff k hk).2.2.2
end
end Go.Proofs.YtkmcohnhanphdaaGreatDoor

/- TopBuiltTakesSound: from the walk to the row. -/
set_option linter.unusedSimpArgs false
set_option linter.unusedVariables false
namespace Go.Proofs.YtkmcohnhanphdaaGreatDoor
open Go.ChangeShapes Go.WideShapes Go.ChangeAt Go.RowKit Go.Joins Go.Deep Go.Dw
theorem witness_row_shaped {H : Type} {enc : TypeId × Value → H} {C : Checked} {os : Os} {f : FuncId} {fn : Func} {s : OpenSpec} {conds : List PathCond} {apart : Bool} {laid : List (String × DataW Unit)} (modest : Bool) (w0 : World) (args : Array Value) (hos : w0.os = os)
    (hsh : (w0.forCall (fun _ _ => 0) ⟨#[], args, []⟩).Shaped C.prog)
    (hok : Input.okWideB C.prog (w0.forCall (fun _ _ => 0) ⟨#[], args, []⟩) f ⟨#[], args, []⟩ = true)
    (hrow : s.preRow enc C.prog fn conds apart laid (w0.forCall (fun _ _ => 0) ⟨#[], args, []⟩).memory args) :
    ∃ (w : World) (tape : Tape) (i : Input), w.os = os ∧ (w.forCall tape i).Shaped C.prog ∧ i.vars = [] ∧ Input.okWide C.prog (w.forCall tape i) .any w.heap.size f i ∧
      s.preRow enc C.prog fn conds apart laid (w.forCall tape i).memory i.args ∧ ({ modest := modest } : Assume).holds C.prog (lone (Frame.enter C.prog f i.args .normal) [] (w.forCall tape i)) :=
  ⟨w0, fun _ _ => 0, ⟨#[], args, []⟩, hos, hsh, (Input.okWide_of_okWideB (base := 0) hok).1, (Input.okWide_of_okWideB hok).2, hrow, by
    simp only [Assume.holds]
    exact ⟨by simp, by simp, fun _ => Modest.zero, by simp, by simp⟩⟩
theorem lawBt_rd : ∀ t ∈ Tryz.f4.params.toList, Tryz.prog.readableRec t = true ∧ t < Tryz.prog.types.size := by
  rw [Tryz.params4]
  intro t ht
  simp only [List.mem_cons, List.not_mem_nil, or_false] at ht
  rcases ht with rfl | rfl | rfl | rfl
  · exact rd_TAKES
  · exact rd_INTS
  · exact rd_INTS
  · exact rd_MEDIA
theorem lawBt_door (os : Os) (args : Array Value) : laidMetH Tryz.prog Rows.topBuiltTakesSoundRow.laid ((World.laidAll Tryz.prog os Rows.topBuiltTakesSoundRow.laid).forCall (fun _ _ => 0) ⟨#[], args, []⟩).memory := by
  rw [MakeChecks.laidMetH_plain _ _ _ (by kernel_rfl)]; exact laidMet_laidAll _ (by kernel_rfl) (by kernel_rfl)
theorem lawBt_reads (os : Os) {H : Type} (enc : TypeId × Value → H) : ∃ places, DataW.whole enc Tryz.prog ((World.laidAll Tryz.prog os Rows.topBuiltTakesSoundRow.laid).forCall (fun _ _ => 0) ⟨#[], #[.slice none 0 0, .slice none 0 0, .slice none 0 0, .slice none 0 0], []⟩).memory Tryz.f4.params.toList Rows.topBuiltTakesSoundSpec.vars false (#[.slice none 0 0, .slice none 0 0, .slice none 0 0, .slice none 0 0] : Array Value).toList 8 = some ([.nil, .nil, .nil, .nil], [], places) :=
  ⟨[], by kernel_rfl⟩
set_option maxRecDepth 100000 in
theorem lawBt_lifted (os : Os) (started : os.Started) (H : Type) (enc : TypeId × Value → H) (F : Stop.Interp) :
    ReturnsInHanded {} Tryz.checked os 4 .any ((OpenSpec.ofChange Rows.topBuiltTakesSoundSpec).preRow enc Tryz.prog Tryz.f4 Rows.topBuiltTakesSoundRow.domain false Rows.topBuiltTakesSoundRow.laid) (((OpenSpec.ofChange Rows.topBuiltTakesSoundSpec).at F).post enc Tryz.prog Tryz.f4 false true false false) := by
  obtain ⟨places, hx⟩ := lawBt_reads os enc
  refine returnsInHanded_of_row (C := Tryz.checked) (s := (OpenSpec.ofChange Rows.topBuiltTakesSoundSpec)) own started (by kernel_rfl) Tryz.func4
    (witness_row_shaped (enc := enc) (C := Tryz.checked) (os := os) false (World.laidAll Tryz.prog os Rows.topBuiltTakesSoundRow.laid) #[.slice none 0 0, .slice none 0 0, .slice none 0 0, .slice none 0 0] (World.laidAll_os _ _ _) (World.shaped_of_ZipB (by kernel_rfl) (by kernel_rfl)) (by kernel_rfl)
      (OpenSpec.preRow_of_cond 8 hx (by kernel_rfl) (fun k hk => by cases hk) (by kernel_rfl) (lawBt_door os _))) ?_
  intro W base args ds gs before hval0 hW _ _ hsz0 hL hSh _
  have hsz : (DataW.weightsEach Tryz.prog (Tryz.f4.params.toList ++ Rows.topBuiltTakesSoundSpec.plain.varTypes Tryz.prog) (ds ++ gs)).all (· ≤ reachBytes) = true := hsz0
  clear hsz0
  have hval : ∀ (j : Nat) t v, Tryz.f4.params[j]? = some t → args[j]? = some v → Value.okWide Tryz.prog W .any base t v := hval0
  have hW' := hW
  obtain ⟨p, q, hA0, hV, rfl, _, _⟩ := hW
  have hA : DataW.TrodAll enc Tryz.prog W 0 (fun _ => true) true Tryz.f4.params.toList args.toList ds p := hA0
  rw [Tryz.params4] at hA hval hsz
  obtain ⟨v0, v1, v2, v3, d0, d1, d2, d3, p0, p1, p2, p3, rfl, rfl, rfl, h0, h1, h2, h3⟩ := trodAll_four hA
  obtain ⟨rfl, rfl⟩ := trodVars_none hV
  obtain ⟨A0, n0, c0, l0, rfl, hl0, hm0, hr0, hz0⟩ := open_takes (hval 0 41 v0 rfl rfl) h0
  obtain ⟨A1, n1, c1, l1, rfl, hl1, hm1, hr1⟩ := open_intsp (hval 1 42 v1 rfl rfl) h1
  obtain ⟨A2, n2, c2, l2, rfl, hl2, hm2, hr2⟩ := open_intsp (hval 2 42 v2 rfl rfl) h2
  obtain ⟨A3, n3, c3, l3, rfl, hl3, hm3, hr3, hz3⟩ := open_media (hval 3 25 v3 rfl rfl) h3
  clear hA0 hval0
  refine (TBUILT_true _ _ _ _ _ _ _ _ _ _ _ _ _ _ _ _ hz0 hz3 W W.heap.size (Nat.le_refl _) hr0 hr1 hr2 hr3).mono fun e W' ⟨he, hb⟩ => ?_
  subst he
  exact ⟨_, rfl, law_post rfl (by kernel_rfl) lawBt_rd hW' rfl hb⟩
end Go.Proofs.YtkmcohnhanphdaaGreatDoor

/- TopBuiltTakesSound: the row. -/
set_option linter.unusedSimpArgs false
set_option linter.unusedVariables false
namespace Go.Proofs.YtkmcohnhanphdaaGreatDoor
open Go.ChangeShapes Go.WideShapes Go.ChangeAt Go.RowKit Go.Joins Go.Deep Go.Dw
theorem lawBt_closed : joinedFacts Tryz.pinned.checked.prog 4 Tryz.f4 (OpenSpec.ofChange Rows.topBuiltTakesSoundSpec).bare Rows.topBuiltTakesSoundRow = true := by kernel_rfl
theorem lawBt_inst : Tryz.f4.isInstance Tryz.pinned.checked.prog Rows.topBuiltTakesSoundRow.origin Rows.topBuiltTakesSoundRow.targs := of_decide_eq_true (by kernel_rfl)
theorem lawBt_wrap : Tryz.f4.isWrapper Tryz.pinned.checked.prog Rows.topBuiltTakesSoundRow.wrapper Rows.topBuiltTakesSoundRow.mainSum := by unfold Func.isWrapper; first | (rw [if_pos (by decide +kernel)]; kernel_rfl) | (rw [if_neg (by decide +kernel)]; exact ⟨rfl, rfl⟩)
theorem lawBt_named : Tryz.pinned.checked.prog.funcNamed Rows.topBuiltTakesSoundRow.func = some 4 := by kernel_rfl
theorem lawBt_holds : Rows.TopBuiltTakesSoundSaid :=
  OpenClaim.holds_of_cond 4 Tryz.f4 rfl rfl rfl rfl rfl rfl rfl ⟨rfl, rfl, rfl, rfl, rfl⟩ rfl rfl rfl rfl rfl lawBt_named Tryz.func4 lawBt_closed lawBt_inst lawBt_wrap
    (fun os started H enc _ F => by rw [OpenClaim.pre_eq_preRow]; exact lawBt_lifted os started H enc F)
end Go.Proofs.YtkmcohnhanphdaaGreatDoor
