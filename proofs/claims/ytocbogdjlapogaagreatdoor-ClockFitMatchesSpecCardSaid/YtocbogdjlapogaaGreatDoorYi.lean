/- num.Rat: Sign, Whole, Frac, Floor, Ceil, Near. -/
import Derived.Test.YtocbogdjlapogaaGreatDoorNqd
set_option linter.unusedSimpArgs false
set_option linter.unusedVariables false
namespace Go.Proofs.YtocbogdjlapogaaGreatDoor
open Go.RowKit Go.Dw
/-- the whole number below -/
theorem floor_pos {q : Rat} (h : ¬ q.num < 0) : q.floor = ((q.num.natAbs / q.den : Nat) : Int) := by
  rw [Rat.floor_def]
  obtain ⟨t, ht⟩ : ∃ t : Nat, q.num = (t : Int) := ⟨q.num.natAbs, by omega⟩
  rw [ht, Int.natAbs_natCast]
  exact (Int.natCast_ediv _ _).symm
theorem floor_neg {q : Rat} (h : q.num < 0) : q.floor = -((q.num.natAbs / q.den + (if 0 < q.num.natAbs % q.den then 1 else 0) : Nat) : Int) := by
  rw [Rat.floor_def]
  obtain ⟨t, ht⟩ : ∃ t : Nat, q.num = -(t : Int) := ⟨q.num.natAbs, by omega⟩
  rw [ht, Int.natAbs_neg, Int.natAbs_natCast]
  have hd := q.den_pos
  generalize q.den = d at hd
  have e := Nat.div_add_mod t d
  have hm := Nat.mod_lt t hd
  generalize hx : t / d = x at e ⊢
  generalize hy : t % d = y at e hm ⊢
  by_cases h0 : 0 < y
  · rw [if_pos h0]
    have : -(t : Int) = ((d - y : Nat) : Int) + (d : Int) * (-((x + 1 : Nat) : Int)) := by
      rw [← e]
      have h3 : (d : Int) * (-((x + 1 : Nat) : Int)) = -((d * x : Nat) : Int) - d := by
        rw [Int.mul_neg, ← Int.natCast_mul, Nat.mul_add, Nat.mul_one, Int.natCast_add]; omega
      rw [h3]; omega
    rw [this, Int.add_mul_ediv_left _ _ (by omega), Int.ediv_eq_zero_of_lt (by omega) (by omega), Int.zero_add]
  · rw [if_neg h0]
    have hy0 : y = 0 := by omega
    have : -(t : Int) = (d : Int) * (-((x : Nat) : Int)) := by
      rw [← e, hy0, Nat.add_zero, Int.mul_neg, ← Int.natCast_mul]
    rw [this, Int.mul_ediv_cancel_left _ (by omega), Nat.add_zero]
end Go.Proofs.YtocbogdjlapogaaGreatDoor

/- num.Rat: Ceil, Near, Frac. -/
set_option linter.unusedSimpArgs false
set_option linter.unusedVariables false
namespace Go.Proofs.YtocbogdjlapogaaGreatDoor
open Go.RowKit Go.Dw
theorem three_keep {W w1 : World} {a b c : Addr} {v0 v1 v2 : Value} (h : W.cell? a = some v0 ∧ W.cell? b = some v1 ∧ W.cell? c = some v2)
    (hb : Below W.heap.size W w1) (ha : a.block < W.heap.size) (hbb : b.block < W.heap.size) (hc : c.block < W.heap.size) : w1.cell? a = some v0 ∧ w1.cell? b = some v1 ∧ w1.cell? c = some v2 :=
  ⟨(hb.cell ha).trans h.1, (hb.cell hbb).trans h.2.1, (hb.cell hc).trans h.2.2⟩
/-- the nearest whole number; halves go away from 0 -/
def nearQ (q : Rat) : Int := if q.num < 0 then -(((q.num.natAbs * 2 + q.den) / (q.den * 2) : Nat) : Int) else (((q.num.natAbs * 2 + q.den) / (q.den * 2) : Nat) : Int)
theorem NTWO_at (w : World) : NumAt .u32 62 4294967296 (w.alloc (.cells #[.int .u32 2] 62)) (w.heap.size + 1) (some ⟨w.heap.size, 0, none⟩) 1 1 2 := by
  have hb : BlkN .u32 62 (w.alloc (.cells #[.int .u32 2] 62)) w.heap.size [2] := BlkN.mk .u32 62 w [2]
  exact ⟨Nat.le_refl _, by decide, _, canon1 _ 2 (by omega) (by omega), by simp [valB], hb.row (by omega)⟩
end Go.Proofs.YtocbogdjlapogaaGreatDoor
