/- SoundBytesComeBack: from the walk to the row. -/
import Derived.Test.YtlnjildkdmeflaaDoorUpn
import Derived.Test.YtlnjildkdmeflaaDoorLbk
set_option linter.unusedSimpArgs false
set_option linter.unusedVariables false
namespace Go.Proofs.YtlnjildkdmeflaaDoor
open Go.ChangeShapes Go.WideShapes Go.ChangeAt Go.RowKit Go.Joins Go.Deep Go.Dw
theorem lawBk_go (r bits : Int) (A AN A' : Option Addr) (n c nn cN n' c' : Nat) (xss : List (List Int)) (l : List Nx) (b : By) (w : World) (hz : ∀ x ∈ l, x.1.size ≤ maxLen ∧ x.2.size ≤ maxLen) (hc1 : n' ≤ c') (hc2 : c' ≤ maxLen) (hn1 : nn ≤ cN) (hn2 : cN ≤ maxLen)
    (hh : RowsAt w w.heap.size A n xss) (HN0 : NtsAt w w.heap.size AN nn l) (Hb0 : BysAt w w.heap.size A' n' b) (hSh : w.ShapedOpen Tryd.prog) :
    Calls Tryd.prog 4 #[.agg #[.int .i64 r, .slice A n c], .int .i64 bits, .slice AN nn cN, .slice A' n' c'] w fun e w' => e = .returned (.bool true) ∧ Below w.heap.size w w' := by
  obtain ⟨m9, hm⟩ := maxlen_of hSh
  exact lawBk_walk r bits A AN A' n c nn cN n' c' xss l b w hz ⟨hc1, hc2⟩ (by unfold maxLen at hn2; omega) hh HN0 Hb0 m9 (lt_of_cell hm) hm
theorem lawBk_rd : ∀ t ∈ Tryd.f4.params.toList, Tryd.prog.readableRec t = true ∧ t < Tryd.prog.types.size := by
  rw [Tryd.params4]
  intro t ht
  simp only [List.mem_cons, List.not_mem_nil, or_false] at ht
  rcases ht with rfl | rfl | rfl | rfl
  · exact rd_SND
  · exact rd_INT
  · exact rd_NOTES
  · exact rd_BYTES
theorem lawBk_door (os : Os) (args : Array Value) : laidMetH Tryd.prog Rows.soundBytesComeBackRow.laid ((World.laidAll Tryd.prog os Rows.soundBytesComeBackRow.laid).forCall (fun _ _ => 0) ⟨#[], args, []⟩).memory := by
  rw [MakeChecks.laidMetH_plain _ _ _ (by kernel_rfl)]; exact laidMet_laidAll _ (by kernel_rfl) (by kernel_rfl)
theorem lawBk_reads (os : Os) {H : Type} (enc : TypeId × Value → H) : ∃ places, DataW.whole enc Tryd.prog ((World.laidAll Tryd.prog os Rows.soundBytesComeBackRow.laid).forCall (fun _ _ => 0) ⟨#[], #[.agg #[.int .i64 0, .slice none 0 0], .int .i64 0, .slice none 0 0, .slice none 0 0], []⟩).memory Tryd.f4.params.toList Rows.soundBytesComeBackSpec.vars false (#[.agg #[.int .i64 0, .slice none 0 0], .int .i64 0, .slice none 0 0, .slice none 0 0] : Array Value).toList 8 = some ([.agg [.lit (.int .i64 0), .nil], .lit (.int .i64 0), .nil, .nil], [], places) :=
  ⟨[], by kernel_rfl⟩
set_option maxRecDepth 100000 in
theorem lawBk_lifted (os : Os) (started : os.Started) (H : Type) (enc : TypeId × Value → H) (F : Stop.Interp) :
    ReturnsInHanded {} Tryd.checked os 4 .any ((OpenSpec.ofChange Rows.soundBytesComeBackSpec).preRow enc Tryd.prog Tryd.f4 Rows.soundBytesComeBackRow.domain false Rows.soundBytesComeBackRow.laid) (((OpenSpec.ofChange Rows.soundBytesComeBackSpec).at F).post enc Tryd.prog Tryd.f4 false true false false) := by
  obtain ⟨places, hx⟩ := lawBk_reads os enc
  refine returnsInHanded_of_row (C := Tryd.checked) (s := (OpenSpec.ofChange Rows.soundBytesComeBackSpec)) own started (by kernel_rfl) Tryd.func4
    (witness_row_shaped (enc := enc) (C := Tryd.checked) (os := os) false (World.laidAll Tryd.prog os Rows.soundBytesComeBackRow.laid) #[.agg #[.int .i64 0, .slice none 0 0], .int .i64 0, .slice none 0 0, .slice none 0 0] (World.laidAll_os _ _ _) (World.shaped_of_ZipB (by kernel_rfl) (by kernel_rfl)) (by kernel_rfl)
      (OpenSpec.preRow_of_cond 8 hx (by kernel_rfl) (fun k hk => by cases hk) (by kernel_rfl) (lawBk_door os _))) ?_
  intro W base args ds gs before hval0 hW _ _ hsz0 hL hSh _
  have hsz : (DataW.weightsEach Tryd.prog (Tryd.f4.params.toList ++ Rows.soundBytesComeBackSpec.plain.varTypes Tryd.prog) (ds ++ gs)).all (· ≤ reachBytes) = true := hsz0
  clear hsz0
  have hval : ∀ (j : Nat) t v, Tryd.f4.params[j]? = some t → args[j]? = some v → Value.okWide Tryd.prog W .any base t v := hval0
  have hW' := hW
  obtain ⟨p, q, hA0, hV, rfl, _, _⟩ := hW
  have hA : DataW.TrodAll enc Tryd.prog W 0 (fun _ => true) true Tryd.f4.params.toList args.toList ds p := hA0
  rw [Tryd.params4] at hA hval hsz
  obtain ⟨v0, v1, v2, v3, d0, d1, d2, d3, p0, p1, p2, p3, rfl, rfl, rfl, h0, h1, h2, h3⟩ := trodAll_four hA
  obtain ⟨rfl, rfl⟩ := trodVars_none hV
  obtain ⟨r0, A0, n0, c0, xss0, rfl, _, _, _, hr0⟩ := open_snd (hval 0 24 v0 rfl rfl) h0
  obtain ⟨a1, rfl, rfl, rfl, hw1⟩ := open_int Tryd.underlying3 (hval 1 3 v1 rfl rfl) h1
  obtain ⟨A2, n2, c2, l2, rfl, hl2, hm2, hr2, hz2⟩ := open_notes (hval 2 25 v2 rfl rfl) h2
  obtain ⟨A3, n3, c3, xs3, rfl, hl3, hm3, hr3, _, hd3⟩ := open_bytes (hval 3 26 v3 rfl rfl) h3
  clear hA0 hval0
  refine (lawBk_go _ _ _ _ _ _ _ _ _ _ _ _ _ _ W hz2 hl3 hm3 hl2 hm2 hr0 hr2 hr3 hSh).mono fun e W' ⟨he, hb⟩ => ?_
  subst he
  exact ⟨_, rfl, law_post rfl (by kernel_rfl) lawBk_rd hW' rfl hb⟩
end Go.Proofs.YtlnjildkdmeflaaDoor
