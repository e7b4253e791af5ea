/- num.Frac. -/
import Derived.Test.YtocbogdjlapogaaGreatDoorYl
import Derived.Test.YtocbogdjlapogaaGreatDoorYm
set_option linter.unusedSimpArgs false
set_option linter.unusedVariables false
namespace Go.Proofs.YtocbogdjlapogaaGreatDoor
open Go.RowKit Go.Dw
end Go.Proofs.YtocbogdjlapogaaGreatDoor

/- clock.RatioOf. -/
set_option linter.unusedSimpArgs false
set_option linter.unusedVariables false
namespace Go.Proofs.YtocbogdjlapogaaGreatDoor
open Go.RowKit Go.Dw
end Go.Proofs.YtocbogdjlapogaaGreatDoor

/- RoundsAreNear, plain. -/
set_option linter.unusedSimpArgs false
set_option linter.unusedVariables false
namespace Go.Proofs.YtocbogdjlapogaaGreatDoor
open Go.RowKit Go.Dw
theorem mkRat_small (z : Int) (d : Nat) (hd : 0 < d) : (mkRat z d).num.natAbs ≤ z.natAbs ∧ (mkRat z d).den ≤ d := by
  obtain ⟨h1, h2⟩ := mkRat_fields z d hd
  have h3 := div_gcd z (Nat.gcd z.natAbs d) (Nat.gcd_pos_of_pos_right _ hd) (Nat.gcd_dvd_left _ _)
  rw [h1, h2, h3.1]
  exact ⟨Nat.div_le_self _ _, Nat.div_le_self _ _⟩
theorem few_small {q : Rat} (h1 : q.num.natAbs < 10 ^ 20) (h2 : q.den < 10 ^ 20) : fewT q 2000 = true := by
  rw [few_iff]
  exact ⟨Nat.le_trans (dec_len 20 _ (by omega) h1) (by omega), Nat.le_trans (dec_len 20 _ (by omega) h2) (by omega)⟩
theorem frac_few (a b : Int) (h1 : -9223372036854775808 ≤ a) (h2 : a ≤ 9223372036854775807) (h3 : -9223372036854775808 ≤ b) (h4 : b ≤ 9223372036854775807) (hb : b ≠ 0) : fewT ((a : Rat) / b) 2000 = true := by
  have hbn : 0 < b.natAbs := by omega
  rcases Int.lt_or_gt_of_ne hb with h | h
  · rw [← frac_neg a b h]
    have := mkRat_small (-a) b.natAbs hbn
    exact few_small (by omega) (by omega)
  · rw [← frac_pos a b h]
    have := mkRat_small a b.natAbs hbn
    exact few_small (by omega) (by omega)
theorem cmpQ_le {q r : Rat} (h : q ≤ r) : cmpQ q r ≤ 0 := by
  have := (Rat.le_iff q r).1 h
  unfold cmpQ cmpZ
  split
  · omega
  · split <;> omega
theorem near_mod (N D : Nat) (hD : 0 < D) : (N * 2 + D) / (D * 2) = N / D ∨ ((N * 2 + D) / (D * 2) = N / D + 1 ∧ 0 < N % D) := by
  have h1 := Nat.div_add_mod N D
  have h2 := Nat.mod_lt N hD
  obtain ⟨k, hk⟩ : ∃ k, N / D = k := ⟨_, rfl⟩
  obtain ⟨r, hr⟩ : ∃ r, N % D = r := ⟨_, rfl⟩
  rw [hk, hr] at h1
  rw [hr] at h2
  rw [hk, hr]
  by_cases h : 2 * r < D
  · left
    refine Nat.div_eq_of_lt_le ?_ ?_
    · rw [← h1, show k * (D * 2) = 2 * (D * k) by rw [← Nat.mul_assoc, Nat.mul_comm k D, Nat.mul_comm]]; omega
    · rw [← h1, show (k + 1) * (D * 2) = 2 * (D * k) + 2 * D by rw [Nat.add_mul, ← Nat.mul_assoc, Nat.mul_comm k D]; omega]; omega
  · right
    refine ⟨Nat.div_eq_of_lt_le ?_ ?_, by omega⟩
    · rw [← h1, show (k + 1) * (D * 2) = 2 * (D * k) + 2 * D by rw [Nat.add_mul, ← Nat.mul_assoc, Nat.mul_comm k D]; omega]; omega
    · rw [← h1, show (k + 1 + 1) * (D * 2) = 2 * (D * k) + 4 * D by rw [Nat.add_mul, Nat.add_mul, ← Nat.mul_assoc, Nat.mul_comm k D]; omega]; omega
theorem neg_num_den (q : Rat) : (-q).num.natAbs = q.num.natAbs ∧ (-q).den = q.den := by
  rw [Rat.neg_num, Rat.neg_den]
  exact ⟨Int.natAbs_neg _, rfl⟩
theorem ceil_pos' {q : Rat} (h : 0 < q.num) : q.ceil = ((q.num.natAbs / q.den + (if 0 < q.num.natAbs % q.den then 1 else 0) : Nat) : Int) := by
  have hn : (-q).num < 0 := by rw [Rat.neg_num]; omega
  rw [Rat.ceil_eq_neg_floor_neg, floor_neg hn, (neg_num_den q).1, (neg_num_den q).2]
  omega
theorem ceil_neg' {q : Rat} (h : ¬ 0 < q.num) : q.ceil = -((q.num.natAbs / q.den : Nat) : Int) := by
  have hn : ¬ (-q).num < 0 := by rw [Rat.neg_num]; omega
  rw [Rat.ceil_eq_neg_floor_neg, floor_pos hn, (neg_num_den q).1, (neg_num_den q).2]
theorem near_or (q : Rat) : nearQ q = q.floor ∨ nearQ q = q.ceil := by
  have hD := q.den_pos
  by_cases h : q.num < 0
  · have e : nearQ q = -(((q.num.natAbs * 2 + q.den) / (q.den * 2) : Nat) : Int) := by unfold nearQ; rw [if_pos h]
    rcases near_mod q.num.natAbs q.den hD with h1 | ⟨h1, h2⟩
    · right; rw [e, h1, ceil_neg' (by omega)]
    · left; rw [e, h1, floor_neg h, if_pos h2]
  · have e : nearQ q = (((q.num.natAbs * 2 + q.den) / (q.den * 2) : Nat) : Int) := by unfold nearQ; rw [if_neg h]
    rcases near_mod q.num.natAbs q.den hD with h1 | ⟨h1, h2⟩
    · left; rw [e, h1, floor_pos h]
    · right
      have hp : 0 < q.num := by
        refine Int.lt_of_not_ge fun h9 => ?_
        have : q.num = 0 := by omega
        rw [this] at h2
        simp at h2
      rw [e, h1, ceil_pos' hp, if_pos h2]
theorem ceil_floor (q : Rat) : q.ceil ≤ q.floor + 1 := Rat.ceil_le_iff.2 (Rat.le_of_lt (Rat.lt_floor_add_one q))
theorem int_ratio (a : Int) : ratioS a 1 = resP (a : Rat) := by
  unfold ratioS
  rw [if_neg (by omega)]
  congr 1
  rw [Rat.div_def, show ((1 : Int) : Rat)⁻¹ = 1 by decide +kernel, Rat.mul_one]
theorem int_few (a : Int) (h : a.natAbs < 10 ^ 20) : fewT (a : Rat) 2000 = true := few_small (by rw [Rat.num_intCast]; exact h) (by rw [Rat.den_intCast]; omega)
end Go.Proofs.YtocbogdjlapogaaGreatDoor
