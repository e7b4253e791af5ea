/- The plain law of a map of tempos: moments, samples and ticks. No program in sight. -/
import Derived.Test.YtnhmhjhfoonakaaZa
set_option linter.unusedSimpArgs false
set_option linter.unusedVariables false
namespace Go.Proofs.Ytnhmhjhfoonakaa
/-- the moment of a tick -/
def mom (t : Int) : List Pr → Int
  | [] => 0
  | [p] => if t ≤ p.1 then 0 else (t - p.1) * p.2
  | p :: q :: r => if min t q.1 ≤ p.1 then 0 else (min t q.1 - p.1) * p.2 + mom t (q :: r)
/-- tempos in order, with values that are right -/
def incT : List Pr → Prop
  | [] => True
  | [p] => 1 ≤ p.2 ∧ p.2 ≤ 60000000
  | p :: q :: r => (1 ≤ p.2 ∧ p.2 ≤ 60000000) ∧ p.1 < q.1 ∧ incT (q :: r)
theorem mom_low {t : Int} : ∀ {l : List Pr} {p : Pr}, t ≤ p.1 → mom t (p :: l) = 0
  | [], p, h => by unfold mom; rw [if_pos h]
  | q :: r, p, h => by unfold mom; rw [if_pos (by omega)]
theorem mul_pos_le {a m : Int} (ha : 0 ≤ a) (h1 : 1 ≤ m) (h2 : m ≤ 60000000) : 0 ≤ a * m ∧ a * m ≤ a * 60000000 :=
  ⟨Int.mul_nonneg ha (by omega), Int.mul_le_mul_of_nonneg_left h2 ha⟩
theorem mom_le {t : Int} : ∀ {l : List Pr} {p : Pr}, incT (p :: l) → p.1 ≤ t → 0 ≤ mom t (p :: l) ∧ mom t (p :: l) ≤ (t - p.1) * 60000000
  | [], p, h, ht => by
    unfold mom
    by_cases h0 : t ≤ p.1
    · rw [if_pos h0]; omega
    · rw [if_neg h0]; exact mul_pos_le (by omega) h.1 h.2
  | q :: r, p, h, ht => by
    unfold mom
    obtain ⟨h1, h2, h3⟩ := h
    by_cases h0 : min t q.1 ≤ p.1
    · rw [if_pos h0]; omega
    · rw [if_neg h0]
      have hm := mul_pos_le (a := min t q.1 - p.1) (by omega) h1.1 h1.2
      by_cases hq : q.1 ≤ t
      · have := mom_le h3 hq
        have e : min t q.1 = q.1 := by omega
        rw [e] at hm ⊢
        omega
      · rw [mom_low (show t ≤ q.1 by omega)]
        have e : min t q.1 = t := by omega
        rw [e] at hm ⊢
        omega
theorem mom_step {t : Int} : ∀ {l : List Pr} {p : Pr}, incT (p :: l) → p.1 ≤ t → mom t (p :: l) + 1 ≤ mom (t + 1) (p :: l)
  | [], p, h, ht => by
    unfold mom
    rw [if_neg (show ¬ t + 1 ≤ p.1 by omega)]
    have e : (t + 1 - p.1) * p.2 = (t - p.1) * p.2 + p.2 := by rw [show t + 1 - p.1 = (t - p.1) + 1 by omega, Int.add_mul, Int.one_mul]
    have := h.1
    by_cases h0 : t ≤ p.1
    · rw [if_pos h0, e, show t - p.1 = 0 by omega]; omega
    · rw [if_neg h0, e]; omega
  | q :: r, p, h, ht => by
    obtain ⟨h1, h2, h3⟩ := h
    unfold mom
    rw [if_neg (show ¬ min (t + 1) q.1 ≤ p.1 by omega)]
    by_cases hq : q.1 ≤ t
    · have ih := mom_step h3 hq
      rw [if_neg (show ¬ min t q.1 ≤ p.1 by omega), show min t q.1 = q.1 by omega, show min (t + 1) q.1 = q.1 by omega]
      omega
    · have e : (t + 1 - p.1) * p.2 = (t - p.1) * p.2 + p.2 := by rw [show t + 1 - p.1 = (t - p.1) + 1 by omega, Int.add_mul, Int.one_mul]
      rw [show min t q.1 = t by omega, show min (t + 1) q.1 = t + 1 by omega, mom_low (show t + 1 ≤ q.1 by omega), e]
      by_cases h0 : t ≤ p.1
      · rw [if_pos h0, show t - p.1 = 0 by omega]; omega
      · rw [if_neg h0, mom_low (show t ≤ q.1 by omega)]; omega
theorem mom_mono {l : List Pr} {p : Pr} (h : incT (p :: l)) {t : Int} (ht : p.1 ≤ t) : ∀ (d : Nat), mom t (p :: l) ≤ mom (t + d) (p :: l)
  | 0 => by simp
  | d + 1 => by
    have h1 := mom_mono h ht d
    have h2 := mom_step h (t := t + d) (by omega)
    rw [show t + ((d + 1 : Nat) : Int) = t + (d : Int) + 1 by omega]
    omega
/-- so many samples, rounded up -/
def ceilB (N : Nat) : Nat := N / 960000000 + (if N % 960000000 = 0 then 0 else 1)
theorem ceilB_le {N k : Nat} : ceilB N ≤ k ↔ N ≤ k * 960000000 := by
  unfold ceilB
  split <;> omega
/-- what math/bits.Div64 reckons where the divisor is 960000000 -/
theorem div64_beat (hi lo : Nat) (hh : hi < 960000000) (hl : lo < 18446744073709551616) :
    ∃ u1 u0 q1 r1 q0 r0 : Nat, lo % 1073741824 * 4 = u1 ∧ u0 = 0 ∧ hi * 17179869184 + lo / 1073741824 = q1 * 3840000000 + r1 ∧ r1 < 3840000000 ∧ q1 < 4294967296 ∧ r1 * 4294967296 + u1 = q0 * 3840000000 + r0 ∧ r0 < 3840000000 ∧ q0 < 4294967296 ∧
      q1 * 4294967296 + q0 = (hi * 18446744073709551616 + lo) / 960000000 ∧ r0 / 4 = (hi * 18446744073709551616 + lo) % 960000000 := by
  refine ⟨lo % 1073741824 * 4, 0, (hi * 17179869184 + lo / 1073741824) / 3840000000, (hi * 17179869184 + lo / 1073741824) % 3840000000, _, _, rfl, rfl, ?_, ?_, ?_, (Nat.div_add_mod' ((hi * 17179869184 + lo / 1073741824) % 3840000000 * 4294967296 + lo % 1073741824 * 4) 3840000000).symm, ?_, ?_, ?_, ?_⟩
  · omega
  · omega
  · omega
  · omega
  · omega
  · omega
  · omega
end Go.Proofs.Ytnhmhjhfoonakaa
