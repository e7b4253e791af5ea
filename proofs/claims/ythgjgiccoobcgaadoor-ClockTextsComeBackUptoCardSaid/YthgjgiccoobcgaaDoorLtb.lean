/- ClockTextsComeBack, walked. -/
import Derived.Test.YthgjgiccoobcgaaDoorRdc
import Derived.Test.YthgjgiccoobcgaaDoorLba
import Derived.Test.YthgjgiccoobcgaaDoorAwk
set_option linter.unusedSimpArgs false
set_option linter.unusedVariables false
namespace Go.Proofs.YthgjgiccoobcgaaDoor
open Go.RowKit Go.Dw Go.Joins
set_option maxRecDepth 100000 in
set_option maxHeartbeats 4000000 in
theorem lawTb_walk (n rate : Int) (s : ByteArray) (m : Int) (hs : s.size ≤ 1048576) (w : World) (hm : Hid (w.cell? ⟨3, 0, none⟩ = some (.int .i64 m))) (hmx : 3 < w.heap.size) (ht : Hid (TabAt w)) :
    Calls Tryd.prog 5 #[.int .i64 n, .int .i64 rate, .string s] w fun e w' => e = .returned (.bool true) ∧ Below w.heap.size w w' := by
  obtain ⟨⟨bt, bf⟩, hbt⟩ : ∃ p, showS n rate = p := ⟨_, rfl⟩
  have HBT := Lib.hid hbt
  clear hbt
  have hs0 : w.heap.size ≤ w.heap.size := Nat.le_refl _
  have HB0 : Hid (Below w.heap.size w w) := Below.refl _ _
  go_enter Tryd.func5, Tryd.ntmps5
  go_wp2_with fail
  refine (SHOW_any n rate _ ht).mono ?_
  rw [HBT.out]
  rintro e w1 ⟨z1, rfl, hz1, hb1⟩
  have HZ1 : Hid (z1.data.toList = bt) := hz1
  clear hz1
  have hs1 := Nat.le_trans hs0 hb1.size
  have HB1 := Lib.hid (HB0.out.trans (hb1.mono hs0))
  have ht1 : Hid (TabAt w1) := ht.out.below HB1.out
  have hm1 : Hid (w1.cell? ⟨3, 0, none⟩ = some (.int .i64 m)) := (HB1.out.cell (p := ⟨3, 0, none⟩) hmx).trans hm.out
  have hmx1 : 3 < w1.heap.size := Nat.lt_of_lt_of_le hmx hs1
  clear hb1
  dsimp only
  by_cases hf : bf = 0
  rotate_left
  · have hq : (bf == 0) = false := by simpa using hf
    go_wp2_with fail
    refine (READ_any s rate m hs _ hm1 hmx1 ht1).mono ?_
    rintro e w3 ⟨⟨k, g⟩, rfl, hz, hb3⟩
    have HTZ := Lib.hid hz
    clear hz
    have hs3 := Nat.le_trans hs1 hb3.size
    have HB3 := Lib.hid (HB1.out.trans (hb3.mono hs1))
    have ht3 : Hid (TabAt w3) := ht.out.below HB3.out
    have hm3 : Hid (w3.cell? ⟨3, 0, none⟩ = some (.int .i64 m)) := (HB3.out.cell (p := ⟨3, 0, none⟩) hmx).trans hm.out
    have hmx3 : 3 < w3.heap.size := Nat.lt_of_lt_of_le hmx hs3
    clear hb3
    dsimp only
    by_cases hg9 : g = 0
    · subst hg9
      have HBB := Lib.hid (show_readS HTZ.out)
      go_wp2_with fail
      refine (SHOW_any k rate _ ht3).mono ?_
      rw [HBB.out]
      rintro e w4 ⟨z4, rfl, hz4, hb4⟩
      obtain rfl : z4 = s := ba_eq hz4
      clear hz4
      have hs4 := Nat.le_trans hs3 hb4.size
      have HB4 := Lib.hid (HB3.out.trans (hb4.mono hs3))
      have ht4 : Hid (TabAt w4) := ht.out.below HB4.out
      have hm4 : Hid (w4.cell? ⟨3, 0, none⟩ = some (.int .i64 m)) := (HB4.out.cell (p := ⟨3, 0, none⟩) hmx).trans hm.out
      have hmx4 : 3 < w4.heap.size := Nat.lt_of_lt_of_le hmx hs4
      clear hb4
      dsimp only
      go_wp2_with (go_at_call 10; refine (AWAKE_any _).mono ?_; rintro e w5 ⟨rfl, hb5⟩)
      go_ret
      exact ⟨rfl, HB4.out.trans (hb5.mono hs4)⟩
    · have hk0 : k = 0 := readS_err HTZ.out hg9
      subst hk0
      have hgq : (g != 0) = true := by simpa using hg9
      go_wp2_with (go_at_call 10; refine (AWAKE_any _).mono ?_; rintro e w5 ⟨rfl, hb5⟩)
      go_ret
      exact ⟨rfl, HB3.out.trans (hb5.mono hs3)⟩
  · subst hf
    have hlz := showS_len HBT.out
    have HTB := Lib.hid (fun z (hz : ReadS rate z1.data.toList z) => readS_show (by rw [HZ1.out]; exact HBT.out) hz)
    go_wp2_with fail
    refine (READ_any z1 rate m (by rw [← len_data, HZ1.out]; omega) _ hm1 hmx1 ht1).mono ?_
    rintro e w2 ⟨z, rfl, hz, hb2⟩
    obtain rfl : z = (n, 0) := HTB.out z hz
    clear hz HTB
    have hs2 := Nat.le_trans hs1 hb2.size
    have HB2 := Lib.hid (HB1.out.trans (hb2.mono hs1))
    have ht2 : Hid (TabAt w2) := ht.out.below HB2.out
    have hm2 : Hid (w2.cell? ⟨3, 0, none⟩ = some (.int .i64 m)) := (HB2.out.cell (p := ⟨3, 0, none⟩) hmx).trans hm.out
    have hmx2 : 3 < w2.heap.size := Nat.lt_of_lt_of_le hmx hs2
    clear hb2
    dsimp only
    go_wp2_with fail
    refine (READ_any s rate m hs _ hm2 hmx2 ht2).mono ?_
    rintro e w3 ⟨⟨k, g⟩, rfl, hz, hb3⟩
    have HTZ := Lib.hid hz
    clear hz
    have hs3 := Nat.le_trans hs2 hb3.size
    have HB3 := Lib.hid (HB2.out.trans (hb3.mono hs2))
    have ht3 : Hid (TabAt w3) := ht.out.below HB3.out
    have hm3 : Hid (w3.cell? ⟨3, 0, none⟩ = some (.int .i64 m)) := (HB3.out.cell (p := ⟨3, 0, none⟩) hmx).trans hm.out
    have hmx3 : 3 < w3.heap.size := Nat.lt_of_lt_of_le hmx hs3
    clear hb3
    dsimp only
    by_cases hg9 : g = 0
    · subst hg9
      have HBB := Lib.hid (show_readS HTZ.out)
      go_wp2_with fail
      refine (SHOW_any k rate _ ht3).mono ?_
      rw [HBB.out]
      rintro e w4 ⟨z4, rfl, hz4, hb4⟩
      obtain rfl : z4 = s := ba_eq hz4
      clear hz4
      have hs4 := Nat.le_trans hs3 hb4.size
      have HB4 := Lib.hid (HB3.out.trans (hb4.mono hs3))
      have ht4 : Hid (TabAt w4) := ht.out.below HB4.out
      have hm4 : Hid (w4.cell? ⟨3, 0, none⟩ = some (.int .i64 m)) := (HB4.out.cell (p := ⟨3, 0, none⟩) hmx).trans hm.out
      have hmx4 : 3 < w4.heap.size := Nat.lt_of_lt_of_le hmx hs4
      clear hb4
      dsimp only
      go_wp2_with (go_at_call 10; refine (AWAKE_any _).mono ?_; rintro e w5 ⟨rfl, hb5⟩)
      go_ret
      exact ⟨rfl, HB4.out.trans (hb5.mono hs4)⟩
    · have hk0 : k = 0 := readS_err HTZ.out hg9
      subst hk0
      have hgq : (g != 0) = true := by simpa using hg9
      go_wp2_with (go_at_call 10; refine (AWAKE_any _).mono ?_; rintro e w5 ⟨rfl, hb5⟩)
      go_ret
      exact ⟨rfl, HB3.out.trans (hb5.mono hs3)⟩
theorem lawTb_walk2 (n rate : Int) (s : ByteArray) (hs : s.size ≤ 1048576) (w : World) (hm : ∃ m, w.cell? ⟨3, 0, none⟩ = some (.int .i64 m)) (ht : Hid (TabAt w)) :
    Calls Tryd.prog 5 #[.int .i64 n, .int .i64 rate, .string s] w fun e w' => e = .returned (.bool true) ∧ Below w.heap.size w w' := by
  obtain ⟨m, hm⟩ := hm
  obtain ⟨cs, e, fr, hb, _⟩ := Sort.cells_of_cell? hm
  exact lawTb_walk n rate s m hs w (Lib.hid hm) (blk_lt hb) ht
end Go.Proofs.YthgjgiccoobcgaaDoor
