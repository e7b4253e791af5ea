/- The plain law of ticks and samples. No program in sight. -/
import Derived.Test.YtdoffngamppkkaaDoorTick
set_option linter.unusedSimpArgs false
set_option linter.unusedVariables false
namespace Go.Proofs.YtdoffngamppkkaaDoor
open Go.RowKit Go.Dw
theorem mom_mono' {l : List Pr} (hok : OkP l) {t u : Int} (h0 : 0 ≤ t) (h : t ≤ u) : mom t l ≤ mom u l := by
  have h1 := hok.some
  have h2 := hok.first
  obtain ⟨p, r, e⟩ : ∃ p r, l = p :: r := by cases l with | nil => simp at h1 | cons p r => exact ⟨p, r, rfl⟩
  have h3 : p.1 = 0 := by rw [e] at h2; exact h2
  have hi := hok.inc
  rw [e] at hi ⊢
  have := mom_mono hi (t := t) (by omega) (u - t).toNat
  rw [show t + ((u - t).toNat : Int) = u by omega] at this
  exact this
/-- what is reckoned at a tick -/
def bigN (l : List Pr) (rate t : Int) : Nat := (mom t l).toNat * rate.toNat
theorem bigN_mono {l : List Pr} (hok : OkP l) {rate t u : Int} (h0 : 0 ≤ t) (h : t ≤ u) : bigN l rate t ≤ bigN l rate u := by
  have := mom_mono' hok h0 h
  exact Nat.mul_le_mul (by omega) (Nat.le_refl _)
theorem samp_err {l ms : List Pr} {rate t : Int} (h : (sampS l ms rate t).2 ≠ 0) : (sampS l ms rate t).1 = 0 := by
  unfold sampS at h ⊢
  split at h <;> rename_i h1
  · rw [if_pos h1]
  rw [if_neg h1]
  split at h <;> rename_i h2
  · rw [if_pos h2]
  rw [if_neg h2]
  split at h <;> rename_i h3
  · rw [if_pos h3]
  exact absurd rfl h
theorem samp_ok {l ms : List Pr} {rate t : Int} (h : (sampS l ms rate t).2 = 0) : chkT l ms = 0 ∧ ¬ badS rate t 1000000000 ∧ ceilB (bigN l rate t) ≤ 10000000000000 ∧ sampS l ms rate t = (((ceilB (bigN l rate t) : Nat) : Int), 0) := by
  unfold sampS at h ⊢
  split at h <;> rename_i h1
  · exact absurd h h1
  rw [if_neg h1]
  split at h <;> rename_i h2
  · cases h
  rw [if_neg h2]
  split at h <;> rename_i h3
  · cases h
  rw [if_neg h3]
  refine ⟨Classical.byContradiction h1, h2, ?_, rfl⟩
  show ceilB ((mom t l).toNat * rate.toNat) ≤ _
  omega
theorem samp_at {l ms : List Pr} {rate t : Int} (h1 : chkT l ms = 0) (h2 : ¬ badS rate t 1000000000) : sampS l ms rate t = if 10000000000000 < ceilB (bigN l rate t) then (0, 1) else (((ceilB (bigN l rate t) : Nat) : Int), 0) := by
  unfold sampS bigN
  rw [if_neg (by rw [h1]; simp), if_neg h2]
theorem tick_law {l ms : List Pr} {rate tick : Int} (h : (sampS l ms rate tick).2 = 0) {p : Int × Int} (hp : OutT l ms rate (sampS l ms rate tick).1 p) :
    p.2 = 0 ∧ tick ≤ p.1 ∧ 0 ≤ p.1 ∧ p.1 ≤ 1000000000 ∧ sampS l ms rate p.1 = ((sampS l ms rate tick).1, 0) ∧
      (p.1 ≠ 1000000000 → sampS l ms rate (p.1 + 1) = (0, 1) ∨ ((sampS l ms rate (p.1 + 1)).2 = 0 ∧ (sampS l ms rate tick).1 < (sampS l ms rate (p.1 + 1)).1)) := by
  obtain ⟨hc, hb, hm, hs⟩ := samp_ok h
  have hok := (okP_chkT hc).1
  rw [hs] at hp ⊢
  obtain ⟨n, hn⟩ : ∃ n, ceilB (bigN l rate tick) = n := ⟨_, rfl⟩
  rw [hn] at hp hm ⊢
  unfold badS at hb
  have hN : bigN l rate tick ≤ n * 960000000 := ceilB_le.1 (by omega)
  unfold OutT at hp
  rw [if_neg (by rw [hc]; simp), if_neg (by unfold badS; dsimp only; omega)] at hp
  obtain ⟨t, rfl, ht1, ht2, ht3⟩ := hp
  unfold notAfter at ht2 ht3
  dsimp only at ht2 ht3 ⊢
  rw [Int.toNat_natCast] at ht2 ht3
  have ht2' : bigN l rate t ≤ n * 960000000 := ht2
  have hge : tick ≤ (t : Int) := by
    refine Classical.byContradiction fun hlt => ?_
    rcases ht3 with h9 | h9
    · omega
    · have h10 := bigN_mono hok (rate := rate) (t := ((t + 1 : Nat) : Int)) (u := tick) (by omega) (by omega)
      have h11 : ¬ bigN l rate ((t + 1 : Nat) : Int) ≤ n * 960000000 := h9
      omega
  have hle := bigN_mono hok (rate := rate) (t := tick) (u := (t : Int)) (by omega) hge
  have hceil : ceilB (bigN l rate (t : Int)) = n := by
    have h1 := ceilB_le.2 ht2'
    have h2 : ¬ ceilB (bigN l rate (t : Int)) < n := fun h9 => by
      have h3 := ceilB_le.1 (show ceilB (bigN l rate (t : Int)) ≤ n - 1 by omega)
      have h4 := ceilB_le.2 (Nat.le_trans hle h3)
      omega
    omega
  refine ⟨rfl, hge, by omega, by omega, ?_, fun hne => ?_⟩
  · rw [samp_at hc (by unfold badS; omega), hceil, if_neg (by omega)]
  · have hne' : t ≠ 1000000000 := by omega
    rw [samp_at hc (by unfold badS; omega)]
    have h11 : ¬ bigN l rate ((t : Int) + 1) ≤ n * 960000000 := by
      rcases ht3 with h9 | h9
      · exact absurd h9 hne'
      · exact h9
    have h12 : n < ceilB (bigN l rate ((t : Int) + 1)) := by
      have := mt ceilB_le.1 h11
      omega
    by_cases hbig : 10000000000000 < ceilB (bigN l rate ((t : Int) + 1))
    · rw [if_pos hbig]; exact .inl rfl
    · rw [if_neg hbig]; exact .inr ⟨rfl, by dsimp only; omega⟩
end Go.Proofs.YtdoffngamppkkaaDoor
