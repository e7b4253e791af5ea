/- num.Rat: Div, Add. -/
import Derived.Test.YtnhmhjhfoonakaaGreatDoorYh
set_option linter.unusedSimpArgs false
set_option linter.unusedVariables false
namespace Go.Proofs.YtnhmhjhfoonakaaGreatDoor
open Go.RowKit Go.Dw
/-- the denominator with the sign of the numerator -/
def sden (r : Rat) : Int := if r.num < 0 then -(r.den : Int) else r.den
theorem sden_at {w : World} {B : Nat} {neg : Bool} {A A' : Option Addr} {n c n' c' : Nat} {r : Rat} (h : RatAt w B neg A n c A' n' c' r) : IntAt w B neg A' n' c' (sden r) := by
  have hp := r.den_pos
  unfold sden
  by_cases h1 : r.num < 0
  · rw [if_pos h1]
    refine ⟨?_, by simpa using h.2⟩
    rw [h.1.1, decide_eq_true h1, decide_eq_true (by omega)]
  · rw [if_neg h1]
    refine ⟨?_, by simpa using h.2⟩
    rw [h.1.1, decide_eq_false h1, decide_eq_false (by omega)]
theorem div_eq (q r : Rat) (hr : r ≠ 0) : q / r = mkRat (q.num * sden r) (q.den * r.num.natAbs) := by
  have hn : r.num ≠ 0 := fun h => hr (Rat.num_eq_zero.1 h)
  have hq := q.den_pos
  have hrd := r.den_pos
  have e1 : r⁻¹ = mkRat (sden r) r.num.natAbs := by
    rw [Rat.inv_def]
    unfold sden
    by_cases h1 : r.num < 0
    · rw [if_pos h1]
      obtain ⟨t, ht⟩ : ∃ t : Nat, r.num = -(t : Int) := ⟨r.num.natAbs, by omega⟩
      rw [ht, Int.natAbs_neg, Int.natAbs_natCast, Rat.divInt_neg', Rat.divInt_ofNat]
    · rw [if_neg h1]
      obtain ⟨t, ht⟩ : ∃ t : Nat, r.num = (t : Int) := ⟨r.num.natAbs, by omega⟩
      rw [ht, Int.natAbs_natCast, Rat.divInt_ofNat]
  rw [Rat.div_def, e1]
  have e2 : q = mkRat q.num q.den := (Rat.mkRat_self q).symm
  conv => lhs; rw [e2]
  rw [Rat.mkRat_mul_mkRat]
theorem add_eq (q r : Rat) : q + r = mkRat (q.num * r.den + r.num * q.den) (q.den * r.den) := by rw [Rat.add_def, Rat.normalize_eq_mkRat]
theorem add_eq_same (q r : Rat) (h : q.den = r.den) : q + r = mkRat (q.num + r.num) q.den := by
  rw [add_eq, ← h, ← Int.add_mul]
  exact Rat.mkRat_mul_right (by have := q.den_pos; omega)
theorem four_keep {W w1 : World} {a b c d : Addr} {v0 v1 v2 u0 : Value} (h : W.cell? a = some v0 ∧ W.cell? b = some v1 ∧ W.cell? c = some v2 ∧ W.cell? d = some u0)
    (hb : Below W.heap.size W w1) (ha : a.block < W.heap.size) (hbb : b.block < W.heap.size) (hc : c.block < W.heap.size) (hd : d.block < W.heap.size) : w1.cell? a = some v0 ∧ w1.cell? b = some v1 ∧ w1.cell? c = some v2 ∧ w1.cell? d = some u0 :=
  ⟨(hb.cell ha).trans h.1, (hb.cell hbb).trans h.2.1, (hb.cell hc).trans h.2.2.1, (hb.cell hd).trans h.2.2.2⟩
end Go.Proofs.YtnhmhjhfoonakaaGreatDoor
