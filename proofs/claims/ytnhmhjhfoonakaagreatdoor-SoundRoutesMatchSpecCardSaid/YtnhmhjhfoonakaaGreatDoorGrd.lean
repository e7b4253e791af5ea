/- Rounded, the document's: an exact number as a sample. -/
import Derived.Test.YtnhmhjhfoonakaaGreatDoorYs
import Derived.Test.YtnhmhjhfoonakaaGreatDoorWe
set_option linter.unusedSimpArgs false
set_option linter.unusedVariables false
namespace Go.Proofs.YtnhmhjhfoonakaaGreatDoor
open Go.RowKit Go.Dw
theorem nearQ_sign (q : Rat) : (nearQ q < 0 → q.num < 0) ∧ (0 < nearQ q → ¬ q.num < 0) := by
  unfold nearQ
  generalize (q.num.natAbs * 2 + q.den) / (q.den * 2) = k
  constructor
  · intro h
    split at h
    · assumption
    · omega
  · intro h h1
    rw [if_pos h1] at h
    omega
set_option maxRecDepth 100000 in
set_option maxHeartbeats 2000000 in
theorem RROUNDED2_any (neg : Bool) (A D : Option Addr) (n c m d : Nat) (q : Rat) (hn : n ≤ 100000) (hm : m ≤ 100000) (w : World) (ht : Hid (TabAt w)) (B : Nat) (hB : B ≤ w.heap.size) (hh : Hid (NumR w B neg A n c D m d q)) :
    Calls Tryz.prog 22 #[.agg #[.bool neg, .slice A n c, .slice D m d]] w fun e w' => e = .returned (.tuple #[.int .i64 (clipV (nearQ q)), .int .i64 (clipN (nearQ q))]) ∧ Below w.heap.size w w' := by
  obtain ⟨W, gx, hW, hgx, HHW, HBW, HSW⟩ := rcell_new w 56 #[.bool neg, .slice A n c, .slice D m d]
  obtain ⟨x0, x1, x2, _, _, _⟩ := three_cells HHW.out
  have hgw := blk_lt HHW.out
  have HRW := Lib.hid (hh.out.to HBW.out hB (by have := HSW.out; omega))
  have HTW := Lib.hid (ht.out.below HBW.out)
  have HNEG := Lib.hid hh.out.1
  obtain ⟨s1, s2⟩ := nearQ_sign q
  have HR : Hid (roundQ q 2 = nearQ q) := rfl
  obtain ⟨Z, hZ⟩ : ∃ Z, nearQ q = Z := ⟨_, rfl⟩
  rw [hZ] at s1 s2 HR
  have HZ := Lib.hid hZ
  have HS1 := Lib.hid s1
  have HS2 := Lib.hid s2
  rw [hZ]
  clear hZ s1 s2 hh
  go_enter Tryz.func22, Tryz.ntmps22
  go_upto_region 1 with (fail)
  rw [← hW, ← hgx]
  clear hW hgx
  go_wp2_with fail
  refine (RROUND_any neg A D n c m d q 2 4611686018427387904 (by omega) rfl hn hm _ HTW W.heap.size (Nat.le_refl _) HRW).mono ?_
  rintro e w1 ⟨rfl, hb1⟩
  have HB1 := Lib.hid (HBW.out.trans (hb1.mono HBW.out.size))
  obtain ⟨x0, x1, x2⟩ := three_keep (And.intro x0 (And.intro x1 x2)) hb1 (by dsimp only; omega) (by dsimp only; omega) (by dsimp only; omega)
  clear hb1
  by_cases hs : Z.natAbs ≤ 4611686018427387904
  · have he : rndR q 2 4611686018427387904 = (Z, true) := by unfold rndR; rw [HR.out, if_pos hs]
    rw [he]
    clear he hs x0 x1 x2
    go_wp2_with fail
    refine (RCLIP_any Z _).mono ?_
    rintro e w2 ⟨rfl, rfl⟩
    go_wp2_with fail
    go_ret2
    exact ⟨rfl, HB1.out⟩
  · have he : rndR q 2 4611686018427387904 = (0, false) := by unfold rndR; rw [HR.out, if_neg hs]
    rw [he]
    dsimp only
    clear he
    by_cases hz : Z < 0
    · obtain rfl : neg = true := by rw [HNEG.out]; exact decide_eq_true (HS1.out hz)
      have HV : Hid (clipV Z = -8388608 ∧ clipN Z = 1) := clip_lo (by omega)
      clear hs hz
      go_wp2_with fail
      go_ret2
      exact ⟨by rw [HV.out.1, HV.out.2]; rfl, HB1.out⟩
    · obtain rfl : neg = false := by rw [HNEG.out]; exact decide_eq_false (Int.not_lt.2 (HS2.out (by omega)))
      have HV : Hid (clipV Z = 8388607 ∧ clipN Z = 1) := clip_hi (by omega)
      clear hs hz
      go_wp2_with fail
      go_ret2
      exact ⟨by rw [HV.out.1, HV.out.2]; rfl, HB1.out⟩
end Go.Proofs.YtnhmhjhfoonakaaGreatDoor
