/- Bars: the ticks and the texts of BarOf and TickOf, in plain words. -/
import Derived.Test.YthgjgiccoobcgaaGreatDoorZa
import Derived.Test.YthgjgiccoobcgaaGreatDoorYk
import Derived.Test.YthgjgiccoobcgaaGreatDoorYq
import Derived.Lib.SplitLaws
set_option linter.unusedSimpArgs false
set_option linter.unusedVariables false
namespace Go.Proofs.YthgjgiccoobcgaaGreatDoor
open Go.RowKit Go.Dw
/-- meters that are right -/
structure MetOk (ms : List Pr) : Prop where
  pos : 0 < ms.length
  few : ms.length ≤ 200
  zero : (prOf ms 0).1 = 0
  rng : ∀ k, k < ms.length → (0 ≤ (prOf ms k).1 ∧ (prOf ms k).1 ≤ 1000000000) ∧ (1 ≤ (prOf ms k).2 ∧ (prOf ms k).2 ≤ 32)
  inc : ∀ k, k + 1 < ms.length → (prOf ms k).1 < (prOf ms (k + 1)).1
/-- the tick at which a meter begins -/
def begZ (ms : List Pr) : Nat → Int
  | 0 => 0
  | k + 1 => begZ ms k + ((prOf ms (k + 1)).1 - (prOf ms k).1) * (prOf ms k).2 * 960
/-- the meter of a tick -/
def barIx (ms : List Pr) (t : Int) : Nat → Nat → Nat
  | 0, k => k
  | d + 1, k => if k + 1 < ms.length ∧ begZ ms (k + 1) ≤ t then barIx ms t d (k + 1) else k
structure IsBar (ms : List Pr) (t : Int) (k : Nat) : Prop where
  lt : k < ms.length
  low : begZ ms k ≤ t
  high : k + 1 < ms.length → t < begZ ms (k + 1)
theorem mul_bd {a b c d : Int} (ha : 0 ≤ a) (hac : a ≤ c) (hb : 0 ≤ b) (hbd : b ≤ d) : 0 ≤ a * b ∧ a * b ≤ c * d :=
  ⟨Int.mul_nonneg ha hb, Int.le_trans (Int.mul_le_mul_of_nonneg_right hac hb) (Int.mul_le_mul_of_nonneg_left hbd (by omega))⟩
theorem beg_step {ms : List Pr} (h : MetOk ms) {k : Nat} (hk : k + 1 < ms.length) : begZ ms k + 960 ≤ begZ ms (k + 1) := by
  have h1 := h.inc k hk
  have h2 := (h.rng k (by omega)).2.1
  show _ ≤ begZ ms k + _ * _ * 960
  have : 1 * 1 ≤ ((prOf ms (k + 1)).1 - (prOf ms k).1) * (prOf ms k).2 := Int.mul_le_mul (by omega) h2 (by omega) (by omega)
  omega
theorem beg_mono {ms : List Pr} (h : MetOk ms) {j : Nat} : ∀ d : Nat, j + d < ms.length → begZ ms j ≤ begZ ms (j + d)
  | 0, _ => Int.le_refl _
  | d + 1, hd => by
    have := beg_mono h (j := j) d (by omega)
    have := beg_step h (k := j + d) (by omega)
    rw [show j + (d + 1) = j + d + 1 by omega]
    omega
theorem beg_nonneg {ms : List Pr} (h : MetOk ms) {k : Nat} (hk : k < ms.length) : 0 ≤ begZ ms k := by
  have := beg_mono h (j := 0) k (by omega)
  rw [Nat.zero_add] at this
  exact this
theorem beg_le {ms : List Pr} (h : MetOk ms) : ∀ {k : Nat}, k < ms.length → begZ ms k ≤ (prOf ms k).1 * 30720
  | 0, _ => by show 0 ≤ _; rw [h.zero]; omega
  | k + 1, hk => by
    have ih := beg_le h (k := k) (by omega)
    have h1 := h.inc k hk
    have h2 := (h.rng k (by omega)).2
    show begZ ms k + _ * _ * 960 ≤ _
    have : ((prOf ms (k + 1)).1 - (prOf ms k).1) * (prOf ms k).2 ≤ ((prOf ms (k + 1)).1 - (prOf ms k).1) * 32 := Int.mul_le_mul_of_nonneg_left h2.2 (by omega)
    omega
theorem isBar_uniq {ms : List Pr} (h : MetOk ms) {t : Int} {j k : Nat} (hj : IsBar ms t j) (hk : IsBar ms t k) : j = k := by
  rcases Nat.lt_trichotomy j k with hlt | he | hlt
  · have := hj.high (by have := hk.lt; omega)
    have h2 := beg_mono h (j := j + 1) (k - (j + 1)) (by have := hk.lt; omega)
    rw [show j + 1 + (k - (j + 1)) = k by omega] at h2
    have := hk.low
    omega
  · exact he
  · have := hk.high (by have := hj.lt; omega)
    have h2 := beg_mono h (j := k + 1) (j - (k + 1)) (by have := hj.lt; omega)
    rw [show k + 1 + (j - (k + 1)) = j by omega] at h2
    have := hj.low
    omega
theorem barIx_is {ms : List Pr} {t : Int} : ∀ (d k : Nat), k + d = ms.length → 0 < d → begZ ms k ≤ t → IsBar ms t (barIx ms t d k)
  | 0, k, _, h0, _ => by omega
  | d + 1, k, hl, _, hb => by
    unfold barIx
    by_cases hc : k + 1 < ms.length ∧ begZ ms (k + 1) ≤ t
    · rw [if_pos hc]
      exact barIx_is d (k + 1) (by omega) (by omega) hc.2
    · rw [if_neg hc]
      exact ⟨by omega, hb, fun hk => by
        by_cases q : begZ ms (k + 1) ≤ t
        · exact absurd ⟨hk, q⟩ hc
        · omega⟩
/-- the three numbers of a tick -/
def barN (ms : List Pr) (t : Int) (k : Nat) : Int × Int × Int :=
  ((prOf ms k).1 + (t - begZ ms k) / ((prOf ms k).2 * 960) + 1, (t - begZ ms k) % ((prOf ms k).2 * 960) / 960 + 1, (t - begZ ms k) % 960)
def barK (ms : List Pr) (t : Int) : Nat := barIx ms t ms.length 0
theorem barK_is {ms : List Pr} (h : MetOk ms) {t : Int} (ht : 0 ≤ t) : IsBar ms t (barK ms t) := barIx_is ms.length 0 (by omega) h.pos ht
theorem barK_eq {ms : List Pr} (h : MetOk ms) {t : Int} (ht : 0 ≤ t) {k : Nat} (hk : IsBar ms t k) : barK ms t = k := isBar_uniq h (barK_is h ht) hk
/-- the sizes of the three numbers -/
theorem barN_bd {ms : List Pr} (h : MetOk ms) {t : Int} (ht : 0 ≤ t) (ht2 : t ≤ 1000000000) {k : Nat} (hk : IsBar ms t k) :
    (1 ≤ (barN ms t k).1 ∧ (barN ms t k).1 ≤ 1001041668) ∧ (1 ≤ (barN ms t k).2.1 ∧ (barN ms t k).2.1 ≤ 32) ∧ (0 ≤ (barN ms t k).2.2 ∧ (barN ms t k).2.2 < 960) := by
  obtain ⟨⟨a1, a2⟩, b1, b2⟩ := h.rng k hk.lt
  have hb0 := beg_nonneg h hk.lt
  have hlow := hk.low
  unfold barN
  generalize (prOf ms k).2 = b at *
  generalize (prOf ms k).1 = a at *
  generalize begZ ms k = z at *
  have hL : 960 ≤ b * 960 := by omega
  have hr0 : 0 ≤ t - z := by omega
  have e1 : 0 ≤ (t - z) / (b * 960) := Int.ediv_nonneg hr0 (by omega)
  have e2 : (t - z) / (b * 960) ≤ (t - z) / 960 := by
    rw [show b * 960 = 960 * b by omega, ← Int.ediv_ediv_of_nonneg (by omega : (0 : Int) ≤ 960)]
    exact Int.ediv_le_self _ (by omega)
  have e3 : 0 ≤ (t - z) % (b * 960) := Int.emod_nonneg _ (by omega)
  have e4 : (t - z) % (b * 960) < b * 960 := Int.emod_lt_of_pos _ (by omega)
  dsimp only
  refine ⟨⟨by omega, by omega⟩, ⟨by omega, by omega⟩, by omega, by omega⟩
/-- the tick of three numbers, by the meter of the bar -/
def tickAtK (ms : List Pr) (k : Nat) (n0 n1 n2 : Int) : Int := begZ ms k + (n0 - 1 - (prOf ms k).1) * (prOf ms k).2 * 960 + (n1 - 1) * 960 + n2
theorem tick_back {ms : List Pr} (h : MetOk ms) {t : Int} {k : Nat} (hk : IsBar ms t k) : tickAtK ms k (barN ms t k).1 (barN ms t k).2.1 (barN ms t k).2.2 = t := by
  obtain ⟨_, b1, b2⟩ := h.rng k hk.lt
  unfold tickAtK barN
  dsimp only
  generalize (prOf ms k).2 = b at *
  generalize (prOf ms k).1 = a at *
  generalize begZ ms k = z at *
  have e1 := Int.emod_add_mul_ediv (t - z) (b * 960)
  have e2 : (t - z) % 960 = (t - z) % (b * 960) % 960 := (Int.emod_emod_of_dvd _ (by exact ⟨b, by omega⟩)).symm
  rw [e2]
  generalize (t - z) / (b * 960) = q at *
  generalize (t - z) % (b * 960) = r at *
  have e3 : (a + q + 1 - 1 - a) * b * 960 = b * 960 * q := by
    rw [show a + q + 1 - 1 - a = q by omega]
    rw [Int.mul_assoc, Int.mul_comm]
  rw [e3]
  omega
/-- the bar of a tick lies before the next meter -/
theorem bar_high {ms : List Pr} (h : MetOk ms) {t : Int} {k : Nat} (hk : IsBar ms t k) : (prOf ms k).1 ≤ (barN ms t k).1 - 1 ∧ (k + 1 < ms.length → (barN ms t k).1 - 1 < (prOf ms (k + 1)).1) := by
  obtain ⟨_, b1, b2⟩ := h.rng k hk.lt
  have hlow := hk.low
  unfold barN
  dsimp only
  have e1 : 0 ≤ (t - begZ ms k) / ((prOf ms k).2 * 960) := Int.ediv_nonneg (by omega) (by omega)
  refine ⟨by omega, fun hk1 => ?_⟩
  have hh := hk.high hk1
  change t < begZ ms k + _ * _ * 960 at hh
  have : (t - begZ ms k) / ((prOf ms k).2 * 960) < (prOf ms (k + 1)).1 - (prOf ms k).1 := by
    apply Int.ediv_lt_of_lt_mul (by omega)
    rw [← Int.mul_assoc]
    omega
  omega
/-- the sum of the bars before a bar, meter by meter -/
def posC (ms : List Pr) (b : Int) : Nat → Int
  | 0 => 0
  | k + 1 => posC ms b k + (if (if k + 1 < ms.length then min b (prOf ms (k + 1)).1 else b) ≤ (prOf ms k).1 then 0 else ((if k + 1 < ms.length then min b (prOf ms (k + 1)).1 else b) - (prOf ms k).1) * (prOf ms k).2 * 960)
theorem bars_mono {ms : List Pr} (h : MetOk ms) {j : Nat} : ∀ d : Nat, j + d < ms.length → (prOf ms j).1 ≤ (prOf ms (j + d)).1
  | 0, _ => Int.le_refl _
  | d + 1, hd => by
    have := bars_mono h (j := j) d (by omega)
    have := h.inc (j + d) (by omega)
    rw [show j + (d + 1) = j + d + 1 by omega]
    omega
theorem posC_full {ms : List Pr} (h : MetOk ms) {b : Int} : ∀ k : Nat, k < ms.length → (prOf ms k).1 ≤ b → posC ms b k = begZ ms k
  | 0, _, _ => rfl
  | k + 1, hk, hb => by
    have hi := h.inc k hk
    have ih := posC_full h (b := b) k (by omega) (by omega)
    show posC ms b k + _ = begZ ms k + _
    rw [ih, if_pos hk, show min b (prOf ms (k + 1)).1 = (prOf ms (k + 1)).1 by omega, if_neg (show ¬ (prOf ms (k + 1)).1 ≤ (prOf ms k).1 by omega)]
theorem posC_stop {ms : List Pr} (h : MetOk ms) {b : Int} {k : Nat} (hk : k < ms.length) (hb : b ≤ (prOf ms k).1) : ∀ d : Nat, k + d ≤ ms.length → posC ms b (k + d) = posC ms b k
  | 0, _ => rfl
  | d + 1, hd => by
    have ih := posC_stop h hk hb d (by omega)
    have hm := bars_mono h (j := k) d (by omega)
    have hc : (if k + d + 1 < ms.length then min b (prOf ms (k + d + 1)).1 else b) ≤ (prOf ms (k + d)).1 := by split <;> omega
    show posC ms b (k + d) + (if (if k + d + 1 < ms.length then min b (prOf ms (k + d + 1)).1 else b) ≤ (prOf ms (k + d)).1 then 0 else _) = _
    rw [ih, if_pos hc, Int.add_zero]
theorem posC_stop2 {ms : List Pr} (h : MetOk ms) {b : Int} {k : Nat} (hk : k < ms.length) (hb : (if k + 1 < ms.length then min b (prOf ms (k + 1)).1 else b) ≤ (prOf ms k).1) : posC ms b ms.length = posC ms b k := by
  have hb2 : b ≤ (prOf ms k).1 := by
    by_cases q : k + 1 < ms.length
    · rw [if_pos q] at hb; have := h.inc k q; omega
    · rw [if_neg q] at hb; exact hb
  have := posC_stop h hk hb2 (ms.length - k) (by omega)
  rw [show k + (ms.length - k) = ms.length by omega] at this
  exact this
/-- the bars before a bar of meter k -/
theorem posC_at {ms : List Pr} (h : MetOk ms) {b : Int} {k : Nat} (hk : k < ms.length) (h1 : (prOf ms k).1 ≤ b) (h2 : k + 1 < ms.length → b < (prOf ms (k + 1)).1) : posC ms b ms.length = begZ ms k + (b - (prOf ms k).1) * (prOf ms k).2 * 960 := by
  have hf := posC_full h k hk h1
  have hs : posC ms b (k + 1) = begZ ms k + (b - (prOf ms k).1) * (prOf ms k).2 * 960 := by
    show posC ms b k + _ = _
    rw [hf]
    by_cases q : k + 1 < ms.length
    · have h3 := h2 q
      rw [if_pos q, show min b (prOf ms (k + 1)).1 = b by omega]
      by_cases e : b ≤ (prOf ms k).1
      · rw [if_pos e, show b - (prOf ms k).1 = 0 by omega, Int.zero_mul, Int.zero_mul]
      · rw [if_neg e]
    · rw [if_neg q]
      by_cases e : b ≤ (prOf ms k).1
      · rw [if_pos e, show b - (prOf ms k).1 = 0 by omega, Int.zero_mul, Int.zero_mul]
      · rw [if_neg e]
  by_cases q : k + 1 < ms.length
  · have := posC_stop h (b := b) q (by have := h2 q; omega) (ms.length - (k + 1)) (by omega)
    rw [show k + 1 + (ms.length - (k + 1)) = ms.length by omega] at this
    rw [this, hs]
  · rw [show ms.length = k + 1 by omega, hs]
/-- the clock's tick of three numbers -/
def tickC (ms : List Pr) (n0 n1 n2 : Int) : Int := posC ms (n0 - 1) ms.length + (n1 - 1) * 960 + n2
theorem tickC_back {ms : List Pr} (h : MetOk ms) {t : Int} {k : Nat} (hk : IsBar ms t k) : tickC ms (barN ms t k).1 (barN ms t k).2.1 (barN ms t k).2.2 = t := by
  obtain ⟨h1, h2⟩ := bar_high h hk
  have := posC_at h hk.lt h1 h2
  have e := tick_back h hk
  unfold tickC
  unfold tickAtK at e
  rw [this]
  exact e
/-- the meter of a bar, as the document finds it -/
theorem tickR_back {ms : List Pr} (h : MetOk ms) {t : Int} {k j : Nat} (hk : IsBar ms t k) (hj : j < ms.length) (h1 : (prOf ms j).1 ≤ (barN ms t k).1 - 1) (h2 : j + 1 < ms.length → (barN ms t k).1 - 1 < (prOf ms (j + 1)).1) : tickAtK ms j (barN ms t k).1 (barN ms t k).2.1 (barN ms t k).2.2 = t := by
  obtain ⟨g1, g2⟩ := bar_high h hk
  have e : j = k := by
    rcases Nat.lt_trichotomy j k with hlt | he | hlt
    · have := bars_mono h (j := j + 1) (k - (j + 1)) (by have := hk.lt; omega)
      rw [show j + 1 + (k - (j + 1)) = k by omega] at this
      have := h2 (by have := hk.lt; omega)
      omega
    · exact he
    · have := bars_mono h (j := k + 1) (j - (k + 1)) (by omega)
      rw [show k + 1 + (j - (k + 1)) = j by omega] at this
      have := g2 (by omega)
      omega
  subst e
  exact tick_back h hk
theorem posC_bd {ms : List Pr} (h : MetOk ms) {b : Int} (hb : b ≤ 100000000000) : ∀ k : Nat, k ≤ ms.length → 0 ≤ posC ms b k ∧ posC ms b k ≤ 3072000000000000 * k
  | 0, _ => by simp [posC]
  | k + 1, hk => by
    have ih := posC_bd h hb k (by omega)
    obtain ⟨⟨a1, a2⟩, b1, b2⟩ := h.rng k (by omega)
    have hle : (if k + 1 < ms.length then min b (prOf ms (k + 1)).1 else b) ≤ 100000000000 := by split <;> omega
    show 0 ≤ posC ms b k + (if (if k + 1 < ms.length then min b (prOf ms (k + 1)).1 else b) ≤ (prOf ms k).1 then 0 else ((if k + 1 < ms.length then min b (prOf ms (k + 1)).1 else b) - (prOf ms k).1) * (prOf ms k).2 * 960) ∧ posC ms b k + (if (if k + 1 < ms.length then min b (prOf ms (k + 1)).1 else b) ≤ (prOf ms k).1 then 0 else ((if k + 1 < ms.length then min b (prOf ms (k + 1)).1 else b) - (prOf ms k).1) * (prOf ms k).2 * 960) ≤ _
    generalize (if k + 1 < ms.length then min b (prOf ms (k + 1)).1 else b) = E at *
    by_cases hne : E ≤ (prOf ms k).1
    · rw [if_pos hne]; omega
    · rw [if_neg hne]
      have hm := mul_bd (a := E - (prOf ms k).1) (c := 100000000000) (by omega) (by omega) (by omega : 0 ≤ (prOf ms k).2) b2
      omega

theorem metOk_of {ms : List Pr} (h : chkL 32 ms = 0) : MetOk ms := by
  unfold chkL chkRow at h
  by_cases h0 : ms.length = 0
  · rw [if_pos h0] at h; exact absurd h (by decide)
  · rw [if_neg h0] at h
    by_cases h2 : 200 < ms.length
    · rw [if_pos h2] at h; exact absurd h (by decide)
    · rw [if_neg h2] at h
      have key : ∀ (d k : Nat), rowF (tAt ms) (tOk 32 ms) d k = 0 → ∀ j, k ≤ j → j < k + d → ((0 ≤ tAt ms j ∧ tAt ms j ≤ 1000000000) ∧ tOk 32 ms j = true) ∧ (j = 0 → tAt ms j = 0) ∧ (0 < j → tAt ms (j - 1) < tAt ms j) := by
        intro d
        induction d with
        | zero => intro k _ j h1 h2; omega
        | succ d ih =>
          intro k hk j h1 h2
          unfold rowF at hk
          split at hk
          · exact absurd hk (by decide)
          · rename_i g1
            split at hk
            · exact absurd hk (by decide)
            · rename_i g2
              by_cases hj : j = k
              · subst hj
                simp only [not_or, not_and, Bool.not_eq_false] at g1 g2
                refine ⟨⟨⟨by omega, by omega⟩, g1.2.2⟩, fun e => ?_, fun e => ?_⟩
                · have := g2.1 e; simpa using this
                · have := g2.2 e; omega
              · exact ih (k + 1) hk j (by omega) (by omega)
      have hk := key ms.length 0 h
      refine ⟨by omega, by omega, ?_, fun k hkl => ?_, fun k hkl => ?_⟩
      · exact (hk 0 (by omega) (by omega)).2.1 rfl
      · obtain ⟨⟨a, b⟩, _⟩ := hk k (by omega) (by omega)
        unfold tOk at b
        simp at b
        exact ⟨a, b⟩
      · have := (hk (k + 1) (by omega) (by omega)).2.2 (by omega)
        simpa [tAt] using this
/-- the text of three numbers -/
def txt3 (a b c : Nat) : List UInt8 := Lib.decDigits a ++ 46 :: (Lib.decDigits b ++ 46 :: Lib.decDigits c)
def barTxt (ms : List Pr) (t : Int) : List UInt8 := txt3 (barN ms t (barK ms t)).1.toNat (barN ms t (barK ms t)).2.1.toNat (barN ms t (barK ms t)).2.2.toNat
theorem dig_no46 (u : Nat) : (46 : UInt8) ∉ Lib.decDigits u := fun h => by
  have := (allDig_decDigits u 46 h).1
  exact absurd this (by decide)
theorem index_at {d r : List UInt8} {c : UInt8} (h : c ∉ d) : Lib.index (d ++ c :: r) [c] = d.length := by
  rw [Lib.index_one]
  induction d with
  | nil => simp [Lib.indexByte]
  | cons b d ih =>
    rw [List.mem_cons, not_or] at h
    have hi := ih h.2
    show (if b == c then 0 else if Lib.indexByte (d ++ c :: r) c == -1 then -1 else Lib.indexByte (d ++ c :: r) c + 1) = _
    rw [if_neg (by simpa using fun e => h.1 e.symm), hi, if_neg (by first | (simp; done) | (simp; omega))]
    simp
theorem index_no {d : List UInt8} {c : UInt8} (h : c ∉ d) : Lib.index d [c] = -1 := by
  rw [Lib.index_one]
  induction d with
  | nil => rfl
  | cons b d ih =>
    rw [List.mem_cons, not_or] at h
    show (if b == c then 0 else if Lib.indexByte d c == -1 then -1 else Lib.indexByte d c + 1) = _
    rw [if_neg (by simpa using fun e => h.1 e.symm), ih h.2]; rfl
theorem split_cons {d r : List UInt8} {c : UInt8} (h : c ∉ d) (k : Nat) : Lib.splitK [c] 0 (k + 1) (d ++ c :: r) = d :: Lib.splitK [c] 0 k r := by
  rw [Lib.splitK, index_at h, if_neg (by first | (simp; done) | (simp; omega))]
  simp
theorem count_cons {d r : List UInt8} {c : UInt8} (h : c ∉ d) : Lib.count (d ++ c :: r) [c] = 1 + Lib.count r [c] := by
  rw [Lib.count_hit (by simp) (index_at h)]
  simp
theorem count_no {d : List UInt8} {c : UInt8} (h : c ∉ d) : Lib.count d [c] = 0 := Lib.count_miss (index_no h)
theorem txt3_count (a b c : Nat) : Lib.count (txt3 a b c) [46] = 2 := by
  unfold txt3
  rw [count_cons (dig_no46 a), count_cons (dig_no46 b), count_no (dig_no46 c)]
theorem txt3_split (a b c : Nat) : Lib.splitK [46] 0 2 (txt3 a b c) = [Lib.decDigits a, Lib.decDigits b, Lib.decDigits c] := by
  unfold txt3
  rw [split_cons (dig_no46 a), split_cons (dig_no46 b)]
  rfl
theorem bar_parts {ms : List Pr} {t : Int} {txt : List UInt8} (h : MetOk ms) (h0 : 0 ≤ t) (h1 : t ≤ 1000000000) (e : barTxt ms t = txt) :
    Lib.count txt [46] = 2 ∧ ∃ p0 p1 p2 : List UInt8, Lib.splitK [46] 0 2 txt = [p0, p1, p2] ∧ (GoodD p0 ∧ GoodD p1 ∧ GoodD p2) ∧ (p0.length ≤ 10 ∧ p1.length ≤ 10 ∧ p2.length ≤ 10) ∧
      ((decV p0 : Int) = (barN ms t (barK ms t)).1 ∧ (decV p1 : Int) = (barN ms t (barK ms t)).2.1 ∧ (decV p2 : Int) = (barN ms t (barK ms t)).2.2) := by
  obtain ⟨⟨a1, a2⟩, ⟨b1, b2⟩, c1, c2⟩ := barN_bd h h0 h1 (barK_is h h0)
  subst e
  unfold barTxt
  refine ⟨txt3_count _ _ _, _, _, _, txt3_split _ _ _, ⟨dec_good _, dec_good _, dec_good _⟩, ⟨dec_len 10 _ (by omega) (by omega), dec_len 10 _ (by omega) (by omega), dec_len 10 _ (by omega) (by omega)⟩, ?_⟩
  rw [decV_decDigits, decV_decDigits, decV_decDigits]
  omega
theorem barTxt_inj {ms : List Pr} {t t' : Int} (h : MetOk ms) (h0 : 0 ≤ t) (h1 : t ≤ 1000000000) (g0 : 0 ≤ t') (g1 : t' ≤ 1000000000) (e : barTxt ms t = barTxt ms t') : t = t' := by
  obtain ⟨_, p0, p1, p2, s1, _, _, q1, q2, q3⟩ := bar_parts h h0 h1 rfl
  obtain ⟨_, r0, r1, r2, s2, _, _, u1, u2, u3⟩ := bar_parts h g0 g1 rfl
  rw [e, s2] at s1
  injection s1 with e1 s1
  injection s1 with e2 s1
  injection s1 with e3 s1
  subst e1 e2 e3
  have := tickC_back h (barK_is h h0)
  have h2 := tickC_back h (barK_is h g0)
  rw [← q1, ← q2, ← q3] at this
  rw [← u1, ← u2, ← u3] at h2
  omega
/-- what TickOf gives -/
def TickP (ms : List Pr) (txt : List UInt8) (z : Int × Int) : Prop := (z.2 = 0 ∧ (0 ≤ z.1 ∧ z.1 ≤ 1000000000) ∧ barTxt ms z.1 = txt) ∨ (z = (0, 10) ∧ ∀ t : Int, 0 ≤ t → t ≤ 1000000000 → barTxt ms t ≠ txt)
theorem tickP_uniq {ms : List Pr} (h : MetOk ms) {txt : List UInt8} {z z' : Int × Int} (h1 : TickP ms txt z) (h2 : TickP ms txt z') : z = z' := by
  rcases h1 with ⟨a1, ⟨a2, a3⟩, a4⟩ | ⟨a1, a2⟩ <;> rcases h2 with ⟨b1, ⟨b2, b3⟩, b4⟩ | ⟨b1, b2⟩
  · exact Prod.ext (barTxt_inj h a2 a3 b2 b3 (a4.trans b4.symm)) (a1.trans b1.symm)
  · exact absurd a4 (b2 _ a2 a3)
  · exact absurd b4 (a2 _ b2 b3)
  · rw [a1, b1]
/-- BarOf -/
def barS (l ms : List Pr) (t : Int) : List UInt8 × Int := if chkT l ms ≠ 0 then ([], chkT l ms) else if t < 0 ∨ 1000000000 < t then ([], 1) else (barTxt ms t, 0)
/-- TickOf -/
def TickS (l ms : List Pr) (txt : List UInt8) (z : Int × Int) : Prop := (chkT l ms ≠ 0 → z = (0, chkT l ms)) ∧ (chkT l ms = 0 → TickP ms txt z)
theorem chkT_met {l ms : List Pr} (h : chkT l ms = 0) : MetOk ms := by
  unfold chkT at h
  by_cases h1 : chkL 60000000 l = 0
  · rw [if_neg (by simp [h1])] at h
    exact metOk_of h
  · rw [if_pos h1] at h; exact absurd h h1
theorem tickS_uniq {l ms : List Pr} {txt : List UInt8} {z z' : Int × Int} (h1 : TickS l ms txt z) (h2 : TickS l ms txt z') : z = z' := by
  by_cases h : chkT l ms = 0
  · exact tickP_uniq (chkT_met h) (h1.2 h) (h2.2 h)
  · rw [h1.1 h, h2.1 h]
theorem tickS_bar {l ms : List Pr} {t : Int} {txt : List UInt8} (h : barS l ms t = (txt, 0)) {z : Int × Int} (hz : TickS l ms txt z) : z = (t, 0) := by
  unfold barS at h
  by_cases h1 : chkT l ms = 0
  · rw [if_neg (by simp [h1])] at h
    by_cases h2 : t < 0 ∨ 1000000000 < t
    · rw [if_pos h2] at h; injection h with _ h; exact absurd h (by decide)
    · rw [if_neg h2] at h
      injection h with h _
      rcases hz.2 h1 with ⟨a1, ⟨a2, a3⟩, a4⟩ | ⟨a1, a2⟩
      · exact Prod.ext (barTxt_inj (chkT_met h1) a2 a3 (by omega) (by omega) (a4.trans h.symm)) a1
      · exact absurd h (a2 t (by omega) (by omega))
  · rw [if_pos h1] at h; injection h with _ h; exact absurd h h1
theorem bar_tickS {l ms : List Pr} {n : Int} {txt : List UInt8} (hz : TickS l ms txt (n, 0)) : barS l ms n = (txt, 0) := by
  by_cases h1 : chkT l ms = 0
  · rcases hz.2 h1 with ⟨a1, ⟨a2, a3⟩, a4⟩ | ⟨a1, a2⟩
    · unfold barS
      dsimp only at a2 a3 a4
      rw [if_neg (by simp [h1]), if_neg (by omega), a4]
    · injection a1 with _ a1; exact absurd a1 (by decide)
  · have := hz.1 h1
    injection this with _ e
    exact absurd e.symm h1
theorem tickS_err {l ms : List Pr} {z : Int × Int} {txt : List UInt8} (hz : TickS l ms txt z) (h : z.2 ≠ 0) : z.1 = 0 := by
  by_cases h1 : chkT l ms = 0
  · rcases hz.2 h1 with ⟨a1, _⟩ | ⟨a1, _⟩
    · exact absurd a1 h
    · rw [a1]
  · rw [hz.1 h1]
/-- the parts of a text -/
theorem tick_parts {ms : List Pr} (h : MetOk ms) {txt p0 p1 p2 : List UInt8} (hc : Lib.count txt [46] = 2) (hs : Lib.splitK [46] 0 2 txt = [p0, p1, p2]) {t : Int} (h0 : 0 ≤ t) (h1 : t ≤ 1000000000) (e : barTxt ms t = txt) :
    (GoodD p0 ∧ GoodD p1 ∧ GoodD p2) ∧ (p0.length ≤ 10 ∧ p1.length ≤ 10 ∧ p2.length ≤ 10) ∧ tickC ms (decV p0) (decV p1) (decV p2) = t ∧
      (∀ j, j < ms.length → (prOf ms j).1 ≤ (decV p0 : Int) - 1 → (j + 1 < ms.length → (decV p0 : Int) - 1 < (prOf ms (j + 1)).1) → tickAtK ms j (decV p0) (decV p1) (decV p2) = t) ∧ 1 ≤ (decV p0 : Int) := by
  obtain ⟨_, r0, r1, r2, s1, g, l, q1, q2, q3⟩ := bar_parts h h0 h1 e
  rw [hs] at s1
  injection s1 with e1 s1
  injection s1 with e2 s1
  injection s1 with e3 s1
  subst e1 e2 e3
  have hb := barK_is h h0
  have hbd := barN_bd h h0 h1 hb
  refine ⟨g, l, by rw [q1, q2, q3]; exact tickC_back h hb, fun j hj hj1 hj2 => ?_, by omega⟩
  rw [q1] at hj1 hj2
  rw [q1, q2, q3]
  exact tickR_back h hb hj hj1 hj2
end Go.Proofs.YthgjgiccoobcgaaGreatDoor
