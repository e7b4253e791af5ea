/- ClockBarsMatchSpec, walked. -/
import Derived.Test.YthgjgiccoobcgaaDoorRto
import Derived.Test.YthgjgiccoobcgaaDoorLba
import Derived.Test.YthgjgiccoobcgaaDoorAwk
set_option linter.unusedSimpArgs false
set_option linter.unusedVariables false
namespace Go.Proofs.YthgjgiccoobcgaaDoor
open Go.RowKit Go.Dw Go.Joins
set_option maxRecDepth 100000 in
set_option maxHeartbeats 4000000 in
theorem lawBm_walk (A A' : Option Addr) (n c n' c' : Nat) (l ms : List Pr) (t : Int) (s : ByteArray) (m : Int) (hs : s.size ≤ 1048576) (hn : n ≤ 8796093022207) (hn' : n' ≤ 8796093022207) (w : World) (hm : Hid (w.cell? ⟨3, 0, none⟩ = some (.int .i64 m))) (hmx : 3 < w.heap.size) (ht : Hid (TabAt w)) (hh : Hid (PrsAt w w.heap.size A n l)) (hh' : Hid (PrsAt w w.heap.size A' n' ms)) :
    Calls Tryd.prog 3 #[.agg #[.slice A n c, .slice A' n' c'], .int .i64 t, .string s] w fun e w' => e = .returned (.bool true) ∧ Below w.heap.size w w' := by
  obtain ⟨⟨bt, bf⟩, hbt⟩ : ∃ p, barS l ms t = p := ⟨_, rfl⟩
  have HBT := Lib.hid hbt
  clear hbt
  obtain ⟨w0, gx, hW, hgx, HHW, hb0, HSW⟩ := cell_new0 w 25 #[.slice A n c, .slice A' n' c']
  obtain ⟨hx0, hy0, _, _⟩ := pr_cells HHW.out
  have hs0 : w.heap.size ≤ w0.heap.size := hb0.out.size
  have hg0 := blk_lt HHW.out
  have HB0 : Hid (Below w.heap.size w w0) := hb0.out
  have hh0 : Hid (PrsAt w0 w.heap.size A n l) := hh.out.below hb0.out (Nat.le_refl _)
  have hhh0 : Hid (PrsAt w0 w.heap.size A' n' ms) := hh'.out.below hb0.out (Nat.le_refl _)
  have ht0 : Hid (TabAt w0) := ht.out.below HB0.out
  have hm0 : Hid (w0.cell? ⟨3, 0, none⟩ = some (.int .i64 m)) := (HB0.out.cell (p := ⟨3, 0, none⟩) hmx).trans hm.out
  have hmx0 : 3 < w0.heap.size := Nat.lt_of_lt_of_le hmx hs0
  go_enter Tryd.func3, Tryd.ntmps3
  go_upto_region 1 with (fail)
  rw [← hW, ← hgx]
  clear hW hgx HHW HSW hb0
  go_wp2_with fail
  refine (BAROF_any A A' n c n' c' l ms t hn hn' _ ht0 w.heap.size hs0 hh0 hhh0).mono ?_
  rw [HBT.out]
  rintro e w1 ⟨z1, rfl, hz1, hb1⟩
  have hs1 := Nat.le_trans hs0 hb1.size
  have hx1 := (hb1.cell (p := ⟨gx, 0, none⟩) hg0).trans hx0
  have hy1 := (hb1.cell (p := ⟨gx, 1, none⟩) hg0).trans hy0
  have hg1 := Nat.lt_of_lt_of_le hg0 hb1.size
  have HB1 := Lib.hid (HB0.out.trans (hb1.mono hs0))
  have hh1 := Lib.hid (hh0.out.below hb1 hs0)
  have hhh1 := Lib.hid (hhh0.out.below hb1 hs0)
  have ht1 : Hid (TabAt w1) := ht.out.below HB1.out
  have hm1 : Hid (w1.cell? ⟨3, 0, none⟩ = some (.int .i64 m)) := (HB1.out.cell (p := ⟨3, 0, none⟩) hmx).trans hm.out
  have hmx1 : 3 < w1.heap.size := Nat.lt_of_lt_of_le hmx hs1
  clear hb1 hx0 hy0 hg0 hh0 hhh0 ht0 hm0 hmx0
  dsimp only
  dsimp only at hz1
  have HZ1 := Lib.hid hz1
  clear hz1
  go_wp2_with fail
  refine (RBAROF_any A A' n c n' c' l ms t _ ht1 w.heap.size hs1 hh1 hhh1).mono ?_
  rw [HBT.out]
  rintro e w2 ⟨z2, rfl, hz2, hb2⟩
  dsimp only at hz2
  obtain rfl : z2 = z1 := ba_eq (hz2.trans HZ1.out.symm)
  clear hz2 HZ1
  have hs2 := Nat.le_trans hs1 hb2.size
  have hx2 := (hb2.cell (p := ⟨gx, 0, none⟩) hg1).trans hx1
  have hy2 := (hb2.cell (p := ⟨gx, 1, none⟩) hg1).trans hy1
  have hg2 := Nat.lt_of_lt_of_le hg1 hb2.size
  have HB2 := Lib.hid (HB1.out.trans (hb2.mono hs1))
  have hh2 := Lib.hid (hh1.out.below hb2 hs1)
  have hhh2 := Lib.hid (hhh1.out.below hb2 hs1)
  have ht2 : Hid (TabAt w2) := ht.out.below HB2.out
  have hm2 : Hid (w2.cell? ⟨3, 0, none⟩ = some (.int .i64 m)) := (HB2.out.cell (p := ⟨3, 0, none⟩) hmx).trans hm.out
  have hmx2 : 3 < w2.heap.size := Nat.lt_of_lt_of_le hmx hs2
  clear hb2 hx1 hy1 hg1 hh1 hhh1 ht1 hm1 hmx1
  dsimp only
  go_wp2_with fail
  refine (TICKOF_any A A' n c n' c' l ms s m hs hn hn' _ hm2 hmx2 ht2 w.heap.size hs2 hh2 hhh2).mono ?_
  rintro e w3 ⟨⟨k, g⟩, rfl, hz, hb3⟩
  have HTZ := Lib.hid (fun z' (h : TickS l ms s.data.toList z') => tickS_uniq h hz)
  clear hz
  have hs3 := Nat.le_trans hs2 hb3.size
  have hx3 := (hb3.cell (p := ⟨gx, 0, none⟩) hg2).trans hx2
  have hy3 := (hb3.cell (p := ⟨gx, 1, none⟩) hg2).trans hy2
  have hg3 := Nat.lt_of_lt_of_le hg2 hb3.size
  have HB3 := Lib.hid (HB2.out.trans (hb3.mono hs2))
  have hh3 := Lib.hid (hh2.out.below hb3 hs2)
  have hhh3 := Lib.hid (hhh2.out.below hb3 hs2)
  have ht3 : Hid (TabAt w3) := ht.out.below HB3.out
  have hm3 : Hid (w3.cell? ⟨3, 0, none⟩ = some (.int .i64 m)) := (HB3.out.cell (p := ⟨3, 0, none⟩) hmx).trans hm.out
  have hmx3 : 3 < w3.heap.size := Nat.lt_of_lt_of_le hmx hs3
  clear hb3 hx2 hy2 hg2 hh2 hhh2 ht2 hm2 hmx2
  dsimp only
  go_wp2_with fail
  refine (RTICKOF_any A A' n c n' c' l ms s m hs _ hm3 hmx3 ht3 w.heap.size hs3 hh3 hhh3).mono ?_
  rintro e w4 ⟨z, rfl, hz, hb4⟩
  obtain rfl : z = (k, g) := HTZ.out z hz
  clear hz HTZ
  have hs4 := Nat.le_trans hs3 hb4.size
  have hx4 := (hb4.cell (p := ⟨gx, 0, none⟩) hg3).trans hx3
  have hy4 := (hb4.cell (p := ⟨gx, 1, none⟩) hg3).trans hy3
  have hg4 := Nat.lt_of_lt_of_le hg3 hb4.size
  have HB4 := Lib.hid (HB3.out.trans (hb4.mono hs3))
  have hh4 := Lib.hid (hh3.out.below hb4 hs3)
  have hhh4 := Lib.hid (hhh3.out.below hb4 hs3)
  have ht4 : Hid (TabAt w4) := ht.out.below HB4.out
  have hm4 : Hid (w4.cell? ⟨3, 0, none⟩ = some (.int .i64 m)) := (HB4.out.cell (p := ⟨3, 0, none⟩) hmx).trans hm.out
  have hmx4 : 3 < w4.heap.size := Nat.lt_of_lt_of_le hmx hs4
  clear hb4 hx3 hy3 hg3 hh3 hhh3 ht3 hm3 hmx3
  dsimp only
  go_wp2_with (go_at_call 10; refine (AWAKE_any _).mono ?_; rintro e w5 ⟨rfl, hb5⟩)
  go_ret
  exact ⟨rfl, HB4.out.trans (hb5.mono hs4)⟩
theorem lawBm_walk2 (A A' : Option Addr) (n c n' c' : Nat) (l ms : List Pr) (t : Int) (s : ByteArray) (hs : s.size ≤ 1048576) (hn : n ≤ 8796093022207) (hn' : n' ≤ 8796093022207) (w : World) (hm : ∃ m, w.cell? ⟨3, 0, none⟩ = some (.int .i64 m)) (ht : Hid (TabAt w)) (hh : Hid (PrsAt w w.heap.size A n l)) (hh' : Hid (PrsAt w w.heap.size A' n' ms)) :
    Calls Tryd.prog 3 #[.agg #[.slice A n c, .slice A' n' c'], .int .i64 t, .string s] w fun e w' => e = .returned (.bool true) ∧ Below w.heap.size w w' := by
  obtain ⟨m, hm⟩ := hm
  obtain ⟨cs, e, fr, hb, _⟩ := Sort.cells_of_cell? hm
  exact lawBm_walk A A' n c n' c' l ms t s m hs hn hn' w (Lib.hid hm) (blk_lt hb) ht hh hh'
end Go.Proofs.YthgjgiccoobcgaaDoor
