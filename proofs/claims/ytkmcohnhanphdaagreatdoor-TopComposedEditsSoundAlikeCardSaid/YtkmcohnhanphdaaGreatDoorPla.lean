/- Plain words: a line between points; a clip's points bring a piecewise straight curve back. -/
import Derived.Test.YtkmcohnhanphdaaGreatDoorVe
set_option linter.unusedSimpArgs false
set_option linter.unusedVariables false
namespace Go.Proofs.YtkmcohnhanphdaaGreatDoor
open Go.RowKit Go.Dw
theorem env_split {l : List Pt} (hup : UpP l) (t : Int) : ∀ n, n ≤ l.length → ∃ i, i ≤ n ∧ (∀ m, m < i → (ptOf l m).at_ < t) ∧ (∀ m, i ≤ m → m < n → t ≤ (ptOf l m).at_)
  | 0, _ => ⟨0, Nat.le_refl _, fun m hm => by omega, fun m _ hm => by omega⟩
  | n + 1, hn => by
    obtain ⟨i, hi, h1, h2⟩ := env_split hup t n (by omega)
    by_cases hc : (ptOf l n).at_ < t
    · refine ⟨n + 1, Nat.le_refl _, fun m hm => ?_, fun m h3 h4 => by omega⟩
      rcases Nat.lt_or_ge m n with h | h
      · have := hup m n h (by omega); omega
      · obtain rfl : m = n := by omega
        exact hc
    · refine ⟨i, by omega, h1, fun m h3 h4 => ?_⟩
      rcases Nat.lt_or_ge m n with h | h
      · exact h2 m h3 h
      · obtain rfl : m = n := by omega
        omega
theorem envK_cut {l : List Pt} (hup : UpP l) (t : Int) : (∀ m, m < envK l t → (ptOf l m).at_ < t) ∧ (∀ m, envK l t ≤ m → m < l.length → t ≤ (ptOf l m).at_) := by
  obtain ⟨i, hi, h1, h2⟩ := env_split hup t l.length (Nat.le_refl _)
  rw [envK_at hi h1 h2]
  exact ⟨h1, h2⟩
theorem lin_step {g : Int → Rat} {a b : Int} (h : ∀ j, a < j → j < b → g (j + 1) - g j = g j - g (j - 1)) : ∀ m : Nat, a + m < b → g (a + m + 1) - g (a + m) = g (a + 1) - g a
  | 0, _ => by simp
  | m + 1, hm => by
    have h1 := lin_step h m (by omega)
    have h2 := h (a + m + 1) (by omega) (by omega)
    rw [show a + m + 1 - 1 = a + (m : Int) by omega] at h2
    rw [show a + ((m + 1 : Nat) : Int) = a + m + 1 by omega, h2, h1]
theorem lin_all {g : Int → Rat} {a b : Int} (h : ∀ j, a < j → j < b → g (j + 1) - g j = g j - g (j - 1)) : ∀ m : Nat, a + m ≤ b → g (a + m) = g a + ((m : Int) : Rat) * (g (a + 1) - g a)
  | 0, _ => by simp [Rat.zero_mul, Rat.add_zero]
  | m + 1, hm => by
    have h1 := lin_all h m (by omega)
    have h2 := lin_step h m (by omega)
    rw [show a + ((m + 1 : Nat) : Int) = a + m + 1 by omega, show ((m + 1 : Nat) : Int) = (m : Int) + 1 by omega, Rat.intCast_add]
    grind
theorem lin_at {g : Int → Rat} {a b j : Int} (h : ∀ j, a < j → j < b → g (j + 1) - g j = g j - g (j - 1)) (h1 : a ≤ j) (h2 : j ≤ b) : g j = g a + ((j - a : Int) : Rat) * (g (a + 1) - g a) := by
  have h3 := lin_all h (j - a).toNat (by omega)
  rw [show (((j - a).toNat : Nat) : Int) = j - a by omega, show a + (j - a) = j by omega] at h3
  exact h3
theorem env_back {l : List Pt} {g : Int → Rat} {n : Int} (hup : UpP l) (hne : 0 < l.length) (hin : ∀ p ∈ l, 0 ≤ p.at_ ∧ p.at_ < n ∧ ptV p = g p.at_) (hbent : ∀ i, 0 < i → i < n - 1 → g (i + 1) - g i ≠ g i - g (i - 1) → ∃ p ∈ l, p.at_ = i)
    (h0 : 2 ≤ n → g 0 ≠ g 1 → ∃ p ∈ l, p.at_ = 0) (h1 : 2 ≤ n → g (n - 1) ≠ g (n - 2) → ∃ p ∈ l, p.at_ = n - 1) {i : Int} (hi0 : 0 ≤ i) (hin' : i < n) : envV l i = g i := by
  obtain ⟨c1, c2⟩ := envK_cut hup i
  have hle := envK_le l i
  have find : ∀ a, (∃ p ∈ l, p.at_ = a) → ∃ m, m < l.length ∧ (ptOf l m).at_ = a := fun a ⟨p, hp, e⟩ => by
    obtain ⟨m, hm, rfl⟩ := List.getElem_of_mem hp
    exact ⟨m, hm, by rw [← e]; simp [ptOf, List.getD, hm]⟩
  have straight : ∀ a b : Int, 0 ≤ a → b ≤ n - 1 → (∀ m, m < l.length → (ptOf l m).at_ ≤ a ∨ b ≤ (ptOf l m).at_) → ∀ j, a < j → j < b → g (j + 1) - g j = g j - g (j - 1) := fun a b ha hb hno j hj1 hj2 => Classical.byContradiction fun hc => by
    obtain ⟨m, hm, e⟩ := find _ (hbent j (by omega) (by omega) hc)
    have := hno m hm
    omega
  unfold envV
  by_cases e1 : envK l i < l.length ∧ (ptOf l (envK l i)).at_ = i
  · rw [if_pos e1, (hin _ (pt_mem e1.1)).2.2, e1.2]
  rw [if_neg e1]
  by_cases e2 : envK l i = 0
  · rw [if_pos e2]
    rw [e2] at c2 e1
    have hp0 := hin _ (pt_mem hne)
    have hgt : i < (ptOf l 0).at_ := by
      have := c2 0 (Nat.le_refl _) hne
      have := fun h => e1 ⟨hne, h⟩
      omega
    have hall : ∀ m, m < l.length → (ptOf l 0).at_ ≤ (ptOf l m).at_ := fun m hm => by
      rcases Nat.eq_zero_or_pos m with rfl | h
      · exact Int.le_refl _
      · exact Int.le_of_lt (hup 0 m h hm)
    have hst := straight 0 (ptOf l 0).at_ (Int.le_refl _) (by omega) (fun m hm => .inr (hall m hm))
    have h01 : g 0 = g 1 := Classical.byContradiction fun hc => by
      obtain ⟨m, hm, e⟩ := find _ (h0 (by omega) hc)
      have := hall m hm
      omega
    have a1 := lin_at hst hi0 (Int.le_of_lt hgt)
    have a2 := lin_at hst hp0.1 (Int.le_refl _)
    rw [hp0.2.2]
    rw [show (0 : Int) + 1 = 1 from rfl, ← h01] at a1 a2
    grind
  rw [if_neg e2]
  by_cases e3 : envK l i = l.length
  · rw [if_pos e3]
    rw [e3] at c1 ⊢
    obtain ⟨m, hm⟩ : ∃ m, l.length = m + 1 := ⟨l.length - 1, by omega⟩
    rw [hm, Nat.add_sub_cancel]
    have hp := hin _ (pt_mem (l := l) (k := m) (by omega))
    have hlt := c1 m (by omega)
    have hall : ∀ k, k < l.length → (ptOf l k).at_ ≤ (ptOf l m).at_ := fun k hk => by
      rcases Nat.lt_or_ge k m with h | h
      · exact Int.le_of_lt (hup k m h (by omega))
      · obtain rfl : k = m := by omega
        exact Int.le_refl _
    have hst := straight (ptOf l m).at_ (n - 1) hp.1 (Int.le_refl _) (fun k hk => .inl (hall k hk))
    have h01 : g (n - 1) = g (n - 2) := Classical.byContradiction fun hc => by
      obtain ⟨k, hk, e⟩ := find _ (h1 (by omega) hc)
      have := hall k hk
      omega
    have a1 := lin_at hst (Int.le_of_lt hlt) (by omega)
    have a2 := lin_step hst ((n - 2) - (ptOf l m).at_).toNat (by omega)
    rw [show (ptOf l m).at_ + ((((n - 2) - (ptOf l m).at_).toNat : Nat) : Int) = n - 2 by omega, show n - 2 + 1 = n - 1 by omega] at a2
    rw [hp.2.2]
    grind
  · rw [if_neg e3]
    obtain ⟨k, hk⟩ : ∃ k, envK l i = k + 1 := ⟨envK l i - 1, by omega⟩
    rw [hk] at c1 c2 e1 e3 hle ⊢
    rw [Nat.add_sub_cancel]
    have hk1 : k + 1 < l.length := by omega
    have hp := hin _ (pt_mem (l := l) (k := k) (by omega))
    have hq := hin _ (pt_mem hk1)
    have b1 := c1 k (by omega)
    have b2 : i < (ptOf l (k + 1)).at_ := by
      have := c2 (k + 1) (Nat.le_refl _) hk1
      have := fun h => e1 ⟨hk1, h⟩
      omega
    have hst := straight (ptOf l k).at_ (ptOf l (k + 1)).at_ hp.1 (by omega) (fun m hm => by
      rcases Nat.lt_trichotomy m k with h | h | h
      · exact .inl (Int.le_of_lt (hup m k h (by omega)))
      · subst h; exact .inl (Int.le_refl _)
      · rcases Nat.lt_or_ge m (k + 2) with h2 | h2
        · obtain rfl : m = k + 1 := by omega
          exact .inr (Int.le_refl _)
        · exact .inr (Int.le_of_lt (hup (k + 1) m (by omega) hm)))
    have a1 := lin_at hst (Int.le_of_lt b1) (Int.le_of_lt b2)
    have a2 := lin_at hst (by omega) (Int.le_refl (ptOf l (k + 1)).at_)
    rw [hp.2.2, hq.2.2]
    have hd : (((ptOf l (k + 1)).at_ - (ptOf l k).at_ : Int) : Rat) ≠ 0 := fun h => by
      have := Rat.intCast_eq_zero_iff.1 h
      omega
    generalize (((ptOf l (k + 1)).at_ - (ptOf l k).at_ : Int) : Rat) = d at hd a2 ⊢
    generalize ((i - (ptOf l k).at_ : Int) : Rat) = c at a1 ⊢
    grind
theorem line_rat (P Q : Rat) (d t : Int) (hd : 0 < d) : mkRat (P.num * (Q.den : Int) * d + (Q.num * (P.den : Int) - P.num * (Q.den : Int)) * t) (P.den * Q.den * d.natAbs) = P + (Q - P) * ((t : Rat) / (d : Rat)) := by
  have hP := (show (P.num : Rat) / ((P.den : Nat) : Rat) = P by rw [← Rat.mkRat_eq_div, Rat.mkRat_self])
  have hQ := (show (Q.num : Rat) / ((Q.den : Nat) : Rat) = Q by rw [← Rat.mkRat_eq_div, Rat.mkRat_self])
  have p0 : ((P.den : Nat) : Rat) ≠ 0 := fun h => by
    have h1 : ((P.den : Int) : Rat) = 0 := h
    have := Rat.intCast_eq_zero_iff.1 h1
    have := P.den_pos
    omega
  have q0 : ((Q.den : Nat) : Rat) ≠ 0 := fun h => by
    have h1 : ((Q.den : Int) : Rat) = 0 := h
    have := Rat.intCast_eq_zero_iff.1 h1
    have := Q.den_pos
    omega
  have d0 : (d : Rat) ≠ 0 := fun h => by have := Rat.intCast_eq_zero_iff.1 h; omega
  have hdn : ((d.natAbs : Nat) : Rat) = (d : Rat) := by
    have : ((d.natAbs : Nat) : Int) = d := by omega
    show ((d.natAbs : Nat) : Rat) = _
    rw [← this]
    rfl
  rw [Rat.mkRat_eq_div]
  simp only [Rat.intCast_add, Rat.intCast_mul, Rat.intCast_sub, Rat.natCast_mul, hdn]
  rw [show (((Q.den : Nat) : Int) : Rat) = ((Q.den : Nat) : Rat) from rfl, show (((P.den : Nat) : Int) : Rat) = ((P.den : Nat) : Rat) from rfl]
  generalize ((P.den : Nat) : Rat) = pd at *
  generalize ((Q.den : Nat) : Rat) = qd at *
  generalize (P.num : Rat) = pn at *
  generalize (Q.num : Rat) = qn at *
  generalize (d : Rat) = e at *
  generalize (t : Rat) = s at *
  rw [← hP, ← hQ]
  grind
theorem env_line {l : List Pt} (hup : UpP l) {j : Nat} (hj : j + 1 < l.length) {i : Int} (h1 : (ptOf l j).at_ ≤ i) (h2 : i < (ptOf l (j + 1)).at_) :
    envV l i = ptV (ptOf l j) + (ptV (ptOf l (j + 1)) - ptV (ptOf l j)) * (((i - (ptOf l j).at_ : Int) : Rat) / (((ptOf l (j + 1)).at_ - (ptOf l j).at_ : Int) : Rat)) := by
  by_cases he : (ptOf l j).at_ = i
  · have hk : envK l i = j := envK_at (by omega) (fun m hm => by have := hup m j hm (by omega); omega) (fun m hm hml => by
      rcases Nat.lt_or_ge j m with h | h
      · have := hup j m h hml; omega
      · obtain rfl : m = j := by omega
        omega)
    unfold envV
    rw [hk, if_pos ⟨by omega, he⟩, he, Int.sub_self, show ((0 : Int) : Rat) = 0 from rfl, Rat.div_def, Rat.zero_mul, Rat.mul_zero, Rat.add_zero]
  · have hk : envK l i = j + 1 := envK_at (by omega) (fun m hm => by
      rcases Nat.lt_or_ge m j with h | h
      · have := hup m j h (by omega); omega
      · obtain rfl : m = j := by omega
        omega) (fun m hm hml => by
      rcases Nat.lt_or_ge (j + 1) m with h | h
      · have := hup (j + 1) m h hml; omega
      · obtain rfl : m = j + 1 := by omega
        omega)
    unfold envV
    rw [hk, if_neg (by rintro ⟨_, h⟩; omega), if_neg (by omega), if_neg (by omega), Nat.add_sub_cancel]
theorem powm {b x y m n : Nat} (h1 : x < b ^ m) (h2 : y < b ^ n) : x * y < b ^ (m + n) := by
  rw [Nat.pow_add]
  rcases Nat.eq_zero_or_pos y with rfl | hy
  · rw [Nat.mul_zero]; exact Nat.mul_pos (by omega) (by omega)
  · exact Nat.lt_of_lt_of_le (Nat.mul_lt_mul_of_pos_right h1 hy) (Nat.mul_le_mul_left _ (Nat.le_of_lt h2))
theorem walk_limbs {b m1 m2 m3 m4 m5 m : Nat} (hb : 2 ≤ b) {pn z d t : Int} {y : Nat} (h1 : pn.natAbs < b ^ m1) (h2 : y < b ^ m2) (h3 : d.natAbs < b ^ m3) (h4 : z.natAbs < b ^ m4) (h5 : t.natAbs < b ^ m5) (hm : m1 + m2 + m3 ≤ m) (hm' : m4 + m5 ≤ m) : (pn * (y : Int) * d + z * t).natAbs < b ^ (m + 1) := by
  have a1 : (pn * (y : Int) * d).natAbs < b ^ m := by
    rw [Int.natAbs_mul, Int.natAbs_mul]
    exact Nat.lt_of_lt_of_le (powm (powm h1 h2) h3) (Nat.pow_le_pow_right (by omega) hm)
  have a3 : (z * t).natAbs < b ^ m := by
    rw [Int.natAbs_mul]
    exact Nat.lt_of_lt_of_le (powm h4 h5) (Nat.pow_le_pow_right (by omega) hm')
  have h8 := Int.natAbs_add_le (pn * (y : Int) * d) (z * t)
  rw [Nat.pow_succ]
  have e2 : b ^ m * 2 ≤ b ^ m * b := Nat.mul_le_mul_left _ hb
  generalize b ^ m = X at *
  omega
end Go.Proofs.YtkmcohnhanphdaaGreatDoor
