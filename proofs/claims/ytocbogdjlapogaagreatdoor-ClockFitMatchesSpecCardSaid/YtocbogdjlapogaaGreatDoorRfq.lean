/- The line of least squares as the document takes it: by differences from the means. -/
import Derived.Test.YtocbogdjlapogaaGreatDoorFitQ
set_option linter.unusedSimpArgs false
set_option linter.unusedVariables false
namespace Go.Proofs.YtocbogdjlapogaaGreatDoor
open Go.RowKit Go.Dw
def prA (l : List Pr) (k : Nat) : Rat := (((prOf l k).1 : Int) : Rat)
def prB (l : List Pr) (k : Nat) : Rat := (((prOf l k).2 : Int) : Rat)
def sumA (l : List Pr) (k : Nat) : Rat := ((sumZ (fun p => p.1) l k : Int) : Rat)
def sumB (l : List Pr) (k : Nat) : Rat := ((sumZ (fun p => p.2) l k : Int) : Rat)
theorem sumA_succ (l : List Pr) (k : Nat) : sumA l (k + 1) = sumA l k + prA l k := by
  show ((sumZ (fun p => p.1) l k + (prOf l k).1 : Int) : Rat) = _
  rw [Rat.intCast_add]; rfl
theorem sumB_succ (l : List Pr) (k : Nat) : sumB l (k + 1) = sumB l k + prB l k := by
  show ((sumZ (fun p => p.2) l k + (prOf l k).2 : Int) : Rat) = _
  rw [Rat.intCast_add]; rfl
def upQ (l : List Pr) (a b : Rat) : Nat → Rat
  | 0 => 0
  | k + 1 => upQ l a b k + (prA l k + -a) * (prB l k + -b)
def dnQ (l : List Pr) (a : Rat) : Nat → Rat
  | 0 => 0
  | k + 1 => dnQ l a k + (prA l k + -a) * (prA l k + -a)
theorem up_expand (l : List Pr) (a b : Rat) : ∀ k : Nat, upQ l a b k = ((sumZ (fun p => p.1 * p.2) l k : Int) : Rat) - b * sumA l k - a * sumB l k + ((k : Int) : Rat) * (a * b)
  | 0 => by simp [upQ, sumZ, sumA, sumB]; grind
  | k + 1 => by
    have ih := up_expand l a b k
    show upQ l a b k + _ = ((sumZ (fun p => p.1 * p.2) l k + (prOf l k).1 * (prOf l k).2 : Int) : Rat) - _ - _ + _
    rw [ih, sumA_succ, sumB_succ]
    unfold prA prB
    simp only [Rat.intCast_add, Rat.intCast_mul, Int.natCast_add]
    generalize ((sumZ (fun p => p.1 * p.2) l k : Int) : Rat) = Q
    generalize sumA l k = X
    generalize sumB l k = Y
    generalize (((prOf l k).1 : Int) : Rat) = x
    generalize (((prOf l k).2 : Int) : Rat) = y
    generalize ((k : Int) : Rat) = n
    rw [show (((1 : Nat) : Int) : Rat) = 1 from rfl]
    grind
theorem dn_expand (l : List Pr) (a : Rat) : ∀ k : Nat, dnQ l a k = ((sumZ (fun p => p.1 * p.1) l k : Int) : Rat) - 2 * a * sumA l k + ((k : Int) : Rat) * (a * a)
  | 0 => by simp [dnQ, sumZ, sumA]; grind
  | k + 1 => by
    have ih := dn_expand l a k
    show dnQ l a k + _ = ((sumZ (fun p => p.1 * p.1) l k + (prOf l k).1 * (prOf l k).1 : Int) : Rat) - _ + _
    rw [ih, sumA_succ]
    unfold prA
    simp only [Rat.intCast_add, Rat.intCast_mul, Int.natCast_add]
    generalize ((sumZ (fun p => p.1 * p.1) l k : Int) : Rat) = P
    generalize sumA l k = X
    generalize (((prOf l k).1 : Int) : Rat) = x
    generalize ((k : Int) : Rat) = n
    rw [show (((1 : Nat) : Int) : Rat) = 1 from rfl]
    grind
/-- the means -/
def meanA (l : List Pr) : Rat := sumA l l.length / ((l.length : Int) : Rat)
def meanB (l : List Pr) : Rat := sumB l l.length / ((l.length : Int) : Rat)
theorem mean_laws {n X Y P Q a b u d : Rat} (hn : n ≠ 0) (hD : n * P - X * X ≠ 0) (ea : a = X / n) (eb : b = Y / n) (eu : u = Q - b * X - a * Y + n * (a * b)) (ed : d = P - 2 * a * X + n * (a * a)) :
    d ≠ 0 ∧ u / d = (n * Q - X * Y) / (n * P - X * X) ∧ b + -(u / d * a) = (Y - u / d * X) / n := by
  have h1 : a * n = X := by rw [ea]; exact Rat.div_mul_cancel hn
  have h2 : b * n = Y := by rw [eb]; exact Rat.div_mul_cancel hn
  have h3 : n * u = n * Q - X * Y := by grind
  have h4 : n * d = n * P - X * X := by grind
  have h5 : d ≠ 0 := fun h => hD (by rw [← h4, h]; grind)
  refine ⟨h5, ?_, ?_⟩
  · rw [← h3, ← h4]; grind
  · generalize u / d = s
    grind
theorem fit_means {l : List Pr} (hn : 0 < l.length) (hD : 0 < (l.length : Int) * sumZ (fun p => p.1 * p.1) l l.length - sumZ (fun p => p.1) l l.length * sumZ (fun p => p.1) l l.length) :
    dnQ l (meanA l) l.length ≠ 0 ∧ upQ l (meanA l) (meanB l) l.length / dnQ l (meanA l) l.length = fitA l ∧ meanB l + -(fitA l * meanA l) = fitB l := by
  have ea : fitA l = (((l.length : Int) * sumZ (fun p => p.1 * p.2) l l.length - sumZ (fun p => p.1) l l.length * sumZ (fun p => p.2) l l.length : Int) : Rat) / (((l.length : Int) * sumZ (fun p => p.1 * p.1) l l.length - sumZ (fun p => p.1) l l.length * sumZ (fun p => p.1) l l.length : Int) : Rat) := by
    unfold fitA
    rw [Rat.mkRat_eq_div, show ((((l.length : Int) * sumZ (fun p => p.1 * p.1) l l.length - sumZ (fun p => p.1) l l.length * sumZ (fun p => p.1) l l.length).natAbs : Nat) : Rat) = (((l.length : Int) * sumZ (fun p => p.1 * p.1) l l.length - sumZ (fun p => p.1) l l.length * sumZ (fun p => p.1) l l.length : Int) : Rat) by
      rw [← Rat.intCast_natCast, Int.natAbs_of_nonneg (by omega)]]
  have eb : fitB l = (sumB l l.length - fitA l * sumA l l.length) / ((l.length : Int) : Rat) := rfl
  have hnn : ((l.length : Int) : Rat) ≠ 0 := fun h => by
    have h9 := Rat.intCast_eq_zero_iff.1 h
    omega
  have hne : (((l.length : Int) * sumZ (fun p => p.1 * p.1) l l.length - sumZ (fun p => p.1) l l.length * sumZ (fun p => p.1) l l.length : Int) : Rat) ≠ 0 := fun h => by
    have h9 : ((l.length : Int) * sumZ (fun p => p.1 * p.1) l l.length - sumZ (fun p => p.1) l l.length * sumZ (fun p => p.1) l l.length) = 0 := Rat.intCast_eq_zero_iff.1 h
    omega
  rw [Rat.intCast_sub, Rat.intCast_mul, Rat.intCast_mul] at hne
  rw [Rat.intCast_sub, Rat.intCast_mul, Rat.intCast_mul, Rat.intCast_sub, Rat.intCast_mul, Rat.intCast_mul] at ea
  obtain ⟨g1, g2, g3⟩ := mean_laws hnn hne (show meanA l = _ from rfl) (show meanB l = _ from rfl) (up_expand l (meanA l) (meanB l) l.length) (dn_expand l (meanA l) l.length)
  have e1 : upQ l (meanA l) (meanB l) l.length / dnQ l (meanA l) l.length = fitA l := g2.trans ea.symm
  refine ⟨g1, e1, ?_⟩
  rw [e1] at g3
  exact g3.trans eb.symm
/-! sizes -/
theorem up_frac (l : List Pr) {X Y n : Int} (hn : (n : Rat) ≠ 0) : ∀ k : Nat, upQ l ((X : Rat) / (n : Rat)) ((Y : Rat) / (n : Rat)) k = ((sumZ (fun p => (n * p.1 - X) * (n * p.2 - Y)) l k : Int) : Rat) / ((n * n : Int) : Rat)
  | 0 => by simp [upQ, sumZ]; grind
  | k + 1 => by
    have ih := up_frac l hn (X := X) (Y := Y) k
    show upQ l _ _ k + _ = ((sumZ (fun p => (n * p.1 - X) * (n * p.2 - Y)) l k + (n * (prOf l k).1 - X) * (n * (prOf l k).2 - Y) : Int) : Rat) / _
    rw [ih]
    unfold prA prB
    simp only [Rat.intCast_add, Rat.intCast_mul, Rat.intCast_sub]
    generalize ((sumZ (fun p => (n * p.1 - X) * (n * p.2 - Y)) l k : Int) : Rat) = S
    generalize (((prOf l k).1 : Int) : Rat) = x
    generalize (((prOf l k).2 : Int) : Rat) = y
    revert hn
    generalize ((n : Int) : Rat) = n
    generalize ((X : Int) : Rat) = X
    generalize ((Y : Int) : Rat) = Y
    intro hn
    have e1 : x + -(X / n) = (n * x - X) / n := by grind
    have e2 : y + -(Y / n) = (n * y - Y) / n := by grind
    rw [e1, e2]
    generalize n * x - X = u
    generalize n * y - Y = v
    grind
theorem dn_up (l : List Pr) (a : Rat) : ∀ k : Nat, dnQ l a k = upQ (l.map fun p => (p.1, p.1)) a a k
  | 0 => rfl
  | k + 1 => by
    have ih := dn_up l a k
    have e : prOf (l.map fun p => (p.1, p.1)) k = ((prOf l k).1, (prOf l k).1) := by
      unfold prOf
      by_cases hk : k < l.length
      · simp [List.getD, hk]
      · simp [List.getD, Nat.le_of_not_lt hk]
    show dnQ l a k + _ = upQ _ a a k + _
    unfold prA prB
    rw [ih, e]
end Go.Proofs.YtocbogdjlapogaaGreatDoor
