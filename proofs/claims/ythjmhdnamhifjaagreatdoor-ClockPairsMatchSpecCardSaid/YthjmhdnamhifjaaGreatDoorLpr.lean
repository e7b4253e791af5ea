/- ClockPairsMatchSpec, walked. -/
import Derived.Test.YthjmhdnamhifjaaGreatDoorRac
import Derived.Test.YthjmhdnamhifjaaGreatDoorAwk
set_option linter.unusedSimpArgs false
set_option linter.unusedVariables false
namespace Go.Proofs.YthjmhdnamhifjaaGreatDoor
open Go.RowKit Go.Dw Go.Joins
theorem turn_len (l : List Pr) : (turnS l).1.length ≤ 500 := by
  unfold turnS
  by_cases h : chkP l = 0
  · rw [if_pos h]
    have := (chkP_ok h).2
    show (swapP l).length ≤ 500
    rw [swap_len]; exact this
  · rw [if_neg h]; simp
set_option maxRecDepth 100000 in
set_option maxHeartbeats 4000000 in
theorem lawPr_walk (A : Option Addr) (n c : Nat) (l : List Pr) (a way : Int) (w : World) (ht9 : Hid (TabAt w)) (hh : Hid (PrsAt w w.heap.size A n l)) :
    Calls Tryz.prog 5 #[.slice A n c, .int .i64 a, .int .i64 way] w fun e w' => e = .returned (.bool true) ∧ Below w.heap.size w w' := by
  obtain ⟨⟨x, f⟩, hv⟩ : ∃ p, acrossS l a way = p := ⟨_, rfl⟩
  have HV := Lib.hid hv
  have htl := turn_len l
  obtain ⟨⟨tl, tf⟩, ht⟩ : ∃ p, turnS l = p := ⟨_, rfl⟩
  have HT := Lib.hid ht
  rw [ht] at htl
  dsimp only at htl
  obtain ⟨k, hk⟩ : ∃ k, chkP l = k := ⟨_, rfl⟩
  have HK := Lib.hid hk
  clear hv ht hk
  go_enter Tryz.func5, Tryz.ntmps5
  go_wp2_with fail
  refine (ACROSS_any A n c l a way _ w.heap.size (Nat.le_refl _) hh).mono ?_
  rintro e w1 ⟨rfl, hb1⟩
  rw [HV.out]
  have HB1 := Lib.hid hb1
  clear hb1
  dsimp only
  go_wp2_with fail
  refine (RACROSS_any A n c l a way _ (Lib.hid (ht9.out.below HB1.out)) w.heap.size HB1.out.size (Lib.hid (hh.out.below HB1.out (Nat.le_refl _)))).mono ?_
  rintro e w2 ⟨rfl, hb2⟩
  rw [HV.out]
  have HB2 := Lib.hid (HB1.out.trans (hb2.mono HB1.out.size))
  clear hb2
  dsimp only
  go_wp2_with fail
  refine (TURNED_any A n c l _ w.heap.size HB2.out.size (Lib.hid (hh.out.below HB2.out (Nat.le_refl _)))).mono ?_
  rintro e w3 ⟨v3, rfl, ho3, hb3⟩
  rw [HT.out] at ho3 ⊢
  have HB3 := Lib.hid (HB2.out.trans (hb3.mono HB2.out.size))
  dsimp only at ho3 ⊢
  obtain ⟨A3, c3, rfl, hc3, hm3⟩ := ho3.len
  have HO3 := Lib.hid ho3
  clear hb3 ho3
  go_wp2_with fail
  refine (RTURNED_any A n c l _ w.heap.size HB3.out.size (Lib.hid (hh.out.below HB3.out (Nat.le_refl _)))).mono ?_
  rintro e w4 ⟨v4, rfl, ho4, hb4⟩
  rw [HT.out] at ho4 ⊢
  have HB4 := Lib.hid (HB3.out.trans (hb4.mono HB3.out.size))
  dsimp only at ho4 ⊢
  obtain ⟨A4, c4, rfl, hc4, hm4⟩ := ho4.len
  have P3 := Lib.hid (((HO3.out.below hb4).at_))
  have P4 := Lib.hid ho4.at_
  clear hb4 ho4 HO3 HV HT
  go_wp2_with (first
    | (go_at_call 18; refine (CHECKPAIRS_any A n c l _ w.heap.size HB4.out.size (Lib.hid (hh.out.below HB4.out (Nat.le_refl _)))).mono ?_; rintro e w5 ⟨rfl, hb5⟩; rw [HK.out]; have HL5 := Lib.hid hb5; have HB5 := Lib.hid (HB4.out.trans (hb5.mono HB4.out.size)); clear hb5)
    | (go_at_call 19; refine (RCHECKPAIRS_any A n c l _ w.heap.size HB5.out.size (Lib.hid (hh.out.below HB5.out (Nat.le_refl _)))).mono ?_; rintro e w6 ⟨rfl, hb6⟩; rw [HK.out]; have HL6 := Lib.hid (HL5.out.trans (hb6.mono HL5.out.size)); have HB6 := Lib.hid (HB5.out.trans (hb6.mono HB5.out.size)); clear hb6)
    | (go_at_call 20; refine (PREQUAL_same A3 A4 tl.length c3 c4 tl (by omega) _ w4.heap.size HL6.out.size ⟨hc3, hm3⟩ ⟨hc4, hm4⟩ (Lib.hid (P3.out.below HL6.out (Nat.le_refl _))) (Lib.hid (P4.out.below HL6.out (Nat.le_refl _)))).mono ?_; rintro e w7 ⟨rfl, hb7⟩; have HB7 := Lib.hid (HB6.out.trans (hb7.mono HB6.out.size)); clear hb7)
    | (go_at_call 8; refine (AWAKE_any _).mono ?_; rintro e w8 ⟨rfl, hb8⟩; have HB8 := Lib.hid (HB7.out.trans (hb8.mono HB7.out.size)); clear hb8))
  go_ret
  exact ⟨rfl, HB8.out⟩
end Go.Proofs.YthjmhdnamhifjaaGreatDoor
