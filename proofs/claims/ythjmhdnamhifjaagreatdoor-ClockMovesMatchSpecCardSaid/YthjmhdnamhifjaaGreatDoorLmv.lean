/- ClockMovesMatchSpec, walked. -/
import Derived.Test.YthjmhdnamhifjaaGreatDoorOut2
import Derived.Test.YthjmhdnamhifjaaGreatDoorAwk
set_option linter.unusedSimpArgs false
set_option linter.unusedVariables false
namespace Go.Proofs.YthjmhdnamhifjaaGreatDoor
open Go.RowKit Go.Dw Go.Joins
theorem mov_len (l : List Pr) (b : Int) : (movS l b).1.length ≤ 1000 := by
  unfold movS
  split
  · simp
  · rename_i h
    have := chkSp_few (Classical.byContradiction h)
    split
    · simp
    · split
      · simpa using this
      · simp
theorem out_len (l : List Pr) (frm tr : Int) : (outS l frm tr).1.length ≤ 1000 := by
  unfold outS
  split
  · simp
  · rename_i h
    have := chkSp_few (Classical.byContradiction h)
    split
    · simp
    · cases h9 : outK l frm tr l.length with
      | none => simp
      | some acc => have := outK_len h9; show acc.length ≤ 1000; omega
set_option maxRecDepth 100000 in
set_option maxHeartbeats 4000000 in
theorem lawMv_walk (A : Option Addr) (n c : Nat) (l : List Pr) (b frm tr : Int) (w : World) (ht9 : Hid (TabAt w)) (hh : Hid (PrsAt w w.heap.size A n l)) :
    Calls Tryz.prog 4 #[.slice A n c, .int .i64 b, .int .i64 frm, .int .i64 tr] w fun e w' => e = .returned (.bool true) ∧ Below w.heap.size w w' := by
  have hml := mov_len l b
  have hol := out_len l frm tr
  obtain ⟨⟨ml, mf⟩, hm⟩ : ∃ p, movS l b = p := ⟨_, rfl⟩
  obtain ⟨⟨ol, of_⟩, ho⟩ : ∃ p, outS l frm tr = p := ⟨_, rfl⟩
  have HM := Lib.hid hm
  have HO := Lib.hid ho
  rw [hm] at hml
  rw [ho] at hol
  dsimp only at hml hol
  clear hm ho
  go_enter Tryz.func4, Tryz.ntmps4
  go_wp2_with fail
  refine (MOVED_any A n c l b _ w.heap.size (Nat.le_refl _) hh).mono ?_
  rintro e w1 ⟨v1, rfl, ho1, hb1⟩
  rw [HM.out] at ho1 ⊢
  have HB1 := Lib.hid hb1
  dsimp only at ho1 ⊢
  obtain ⟨A1, c1, rfl, hc1, hm1⟩ := ho1.len
  have P1 := Lib.hid ho1.at_
  have hs1 := hb1.size
  clear hb1 ho1
  go_wp2_with fail
  refine (RMOVED_any A n c l b _ w.heap.size hs1 (Lib.hid (hh.out.below HB1.out (Nat.le_refl _)))).mono ?_
  rintro e w2 ⟨v2, rfl, ho2, hb2⟩
  rw [HM.out] at ho2 ⊢
  have HB2 := Lib.hid (HB1.out.trans (hb2.mono hs1))
  dsimp only at ho2 ⊢
  obtain ⟨A2, c2, rfl, hc2, hm2⟩ := ho2.len
  have P2 := Lib.hid ho2.at_
  replace P1 := Lib.hid (P1.out.to hb2 (Nat.le_refl _) hb2.size)
  have hs2 := HB2.out.size
  clear hb2 ho2
  go_wp2_with fail
  refine (OUTWARD_any A n c l frm tr _ w.heap.size hs2 (Lib.hid (hh.out.below HB2.out (Nat.le_refl _)))).mono ?_
  rintro e w3 ⟨v3, rfl, ho3, hb3⟩
  rw [HO.out] at ho3 ⊢
  have HB3 := Lib.hid (HB2.out.trans (hb3.mono hs2))
  dsimp only at ho3 ⊢
  obtain ⟨A3, c3, rfl, hc3, hm3⟩ := ho3.len
  have P3 := Lib.hid ho3.at_
  replace P1 := Lib.hid (P1.out.to hb3 (Nat.le_refl _) hb3.size)
  replace P2 := Lib.hid (P2.out.to hb3 (Nat.le_refl _) hb3.size)
  have hs3 := HB3.out.size
  clear hb3 ho3
  go_wp2_with fail
  refine (ROUTWARD_any A n c l frm tr _ (Lib.hid (ht9.out.below HB3.out)) w.heap.size hs3 (Lib.hid (hh.out.below HB3.out (Nat.le_refl _)))).mono ?_
  rintro e w4 ⟨v4, rfl, ho4, hb4⟩
  rw [HO.out] at ho4 ⊢
  have HB4 := Lib.hid (HB3.out.trans (hb4.mono hs3))
  dsimp only at ho4 ⊢
  obtain ⟨A4, c4, rfl, hc4, hm4⟩ := ho4.len
  have P4 := Lib.hid ho4.at_
  replace P1 := Lib.hid (P1.out.to hb4 (Nat.le_refl _) hb4.size)
  replace P2 := Lib.hid (P2.out.to hb4 (Nat.le_refl _) hb4.size)
  replace P3 := Lib.hid (P3.out.to hb4 (Nat.le_refl _) hb4.size)
  have hs4 := HB4.out.size
  clear hb4 ho4
  go_wp2_with fail
  refine (SPEQUAL_same A1 A2 ml.length c1 c2 ml (by omega) _ w4.heap.size (Nat.le_refl _) ⟨hc1, hm1⟩ ⟨hc2, hm2⟩ P1 P2).mono ?_
  rintro e w5 ⟨rfl, hb5⟩
  have HB5 := Lib.hid (HB4.out.trans (hb5.mono hs4))
  have HL5 := Lib.hid hb5
  clear hb5
  go_wp2_with fail
  refine (SPEQUAL_same A3 A4 ol.length c3 c4 ol (by omega) _ w4.heap.size HL5.out.size ⟨hc3, hm3⟩ ⟨hc4, hm4⟩ (Lib.hid (P3.out.below HL5.out (Nat.le_refl _))) (Lib.hid (P4.out.below HL5.out (Nat.le_refl _)))).mono ?_
  rintro e w6 ⟨rfl, hb6⟩
  have HB6 := Lib.hid (HB5.out.trans (hb6.mono HB5.out.size))
  clear hb6
  go_wp2_with fail
  refine (AWAKE_any _).mono ?_
  rintro e w7 ⟨rfl, hb7⟩
  have HB7 := Lib.hid (HB6.out.trans (hb7.mono HB6.out.size))
  clear hb7
  go_wp2_with fail
  go_ret
  exact ⟨rfl, HB7.out⟩
end Go.Proofs.YthjmhdnamhifjaaGreatDoor
