/- The document's samples: the plain law. No program in sight. -/
import Derived.Test.YthjmhdnamhifjaaDoorYq
import Derived.Test.YthjmhdnamhifjaaDoorYu
import Derived.Test.YthjmhdnamhifjaaDoorYs
import Derived.Test.YthjmhdnamhifjaaDoorYs
set_option linter.unusedSimpArgs false
set_option linter.unusedVariables false
namespace Go.Proofs.YthjmhdnamhifjaaDoor
open Go.RowKit Go.Dw
theorem cmpQ_iff {q r : Rat} : cmpQ q r ≤ 0 ↔ q ≤ r := by
  rw [Rat.le_iff]
  unfold cmpQ cmpZ
  split
  · omega
  · split <;> omega
theorem beat_pos : (0 : Rat) < ((960000000 : Int) : Rat) := by decide
theorem div_beat (M R k : Int) : ((M : Rat) * (R : Rat) / ((960000000 : Int) : Rat) ≤ (k : Rat)) ↔ M * R ≤ k * 960000000 := by
  rw [← Rat.not_lt, Rat.lt_div_iff beat_pos, Rat.not_lt, ← Rat.intCast_mul, ← Rat.intCast_mul, Rat.intCast_le_intCast]
theorem ceil_beat {M R : Int} {m r : Nat} (hm : M = m) (hr : R = r) : ((M : Rat) * (R : Rat) / ((960000000 : Int) : Rat)).ceil = ((ceilB (m * r) : Nat) : Int) := by
  have h : ∀ k : Int, ((M : Rat) * (R : Rat) / ((960000000 : Int) : Rat)).ceil ≤ k ↔ ((ceilB (m * r) : Nat) : Int) ≤ k := fun k => by
    rw [Rat.ceil_le_iff, div_beat, hm, hr, ← Int.natCast_mul]
    obtain ⟨N, hN⟩ : ∃ N, m * r = N := ⟨_, rfl⟩
    rw [hN]
    by_cases hk : 0 ≤ k
    · obtain ⟨j, rfl⟩ := Int.eq_ofNat_of_zero_le hk
      have := ceilB_le (N := N) (k := j)
      omega
    · omega
  exact Int.le_antisymm ((h _).2 (Int.le_refl _)) ((h _).1 (Int.le_refl _))

/-- the moment of a tick, in samples -/
def smpQ (l : List Pr) (rate t : Int) : Rat := ((mom t l : Int) : Rat) * (rate : Rat) / ((960000000 : Int) : Rat)
theorem beat_ne : ((960000000 : Int) : Rat) ≠ 0 := by decide
theorem smp_rnd {l : List Pr} {rate t : Int} (h0 : 0 ≤ mom t l) (hr : 1 ≤ rate) :
    rndR (smpQ l rate t) 3 10000000000000 = if 10000000000000 < ceilB ((mom t l).toNat * rate.toNat) then (0, false) else (((ceilB ((mom t l).toNat * rate.toNat) : Nat) : Int), true) := by
  have h : roundQ (smpQ l rate t) 3 = ((ceilB ((mom t l).toNat * rate.toNat) : Nat) : Int) := by
    show (smpQ l rate t).ceil = _
    exact ceil_beat (by omega) (by omega)
  unfold rndR
  rw [h, Int.natAbs_natCast]
  by_cases hc : 10000000000000 < ceilB ((mom t l).toNat * rate.toNat)
  · rw [if_pos hc, if_neg (by omega)]
  · rw [if_neg hc, if_pos (by omega)]
theorem smp_after {l : List Pr} {rate s : Int} {t : Nat} (h0 : 0 ≤ mom t l) (hr : 1 ≤ rate) (hs : 0 ≤ s) : cmpQ (smpQ l rate t) (s : Rat) ≤ 0 ↔ notAfter l rate s t := by
  rw [cmpQ_iff]
  unfold smpQ notAfter
  rw [div_beat]
  obtain ⟨m, hm⟩ := Int.eq_ofNat_of_zero_le h0
  obtain ⟨r, rfl⟩ := Int.eq_ofNat_of_zero_le (show 0 ≤ rate by omega)
  obtain ⟨k, rfl⟩ := Int.eq_ofNat_of_zero_le hs
  rw [hm, ← Int.natCast_mul]
  simp only [Int.toNat_natCast]
  omega
theorem outT_one {l ms : List Pr} {rate s : Int} {p q : Int × Int} (hp : OutT l ms rate s p) (hq : OutT l ms rate s q) : p = q := by
  unfold OutT at hp hq
  by_cases h1 : chkT l ms ≠ 0
  · rw [if_pos h1] at hp hq; rw [hp, hq]
  · rw [if_neg h1] at hp hq
    by_cases h2 : badS rate s 10000000000000
    · rw [if_pos h2] at hp hq; rw [hp, hq]
    · rw [if_neg h2] at hp hq
      obtain ⟨t, rfl, a1, a2, a3⟩ := hp
      obtain ⟨u, rfl, b1, b2, b3⟩ := hq
      have hok := (okP_chkT (Classical.byContradiction h1)).1
      have hlt : ∀ x y : Nat, x ≤ 1000000000 → y ≤ 1000000000 → notAfter l rate s y → (x = 1000000000 ∨ ¬ notAfter l rate s (x + 1)) → ¬ x < y := by
        intro x y hx hy ha hb h
        rcases hb with hb | hb
        · omega
        · refine hb ?_
          have := bigN_mono hok (rate := rate) (t := ((x + 1 : Nat) : Int)) (u := (y : Int)) (by omega) (by omega)
          unfold bigN at this
          unfold notAfter at ha ⊢
          omega
      have h3 := hlt t u a1 b1 b2 a3
      have h4 := hlt u t b1 a1 a2 b3
      obtain rfl : t = u := by omega
      rfl
end Go.Proofs.YthjmhdnamhifjaaDoor
