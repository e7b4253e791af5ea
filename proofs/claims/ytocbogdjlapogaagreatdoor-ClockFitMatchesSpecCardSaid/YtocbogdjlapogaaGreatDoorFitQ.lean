/- The line of least squares: it is the best one; sizes of its numbers. -/
import Derived.Test.YtocbogdjlapogaaGreatDoorFit
import Derived.Test.YtocbogdjlapogaaGreatDoorFitL
import Derived.Test.YtocbogdjlapogaaGreatDoorYo
set_option linter.unusedSimpArgs false
set_option linter.unusedVariables false
namespace Go.Proofs.YtocbogdjlapogaaGreatDoor
open Go.RowKit Go.Dw
theorem chkP_rng {l : List Pr} (h : chkP l = 0) : (∀ k, k < l.length → (-10000000000000 ≤ (prOf l k).1 ∧ (prOf l k).1 ≤ 10000000000000) ∧ (-10000000000000 ≤ (prOf l k).2 ∧ (prOf l k).2 ≤ 10000000000000)) ∧ ∀ k, k + 1 < l.length → (prOf l k).1 < (prOf l (k + 1)).1 := by
  obtain ⟨h1, h2⟩ := chkP_ok h
  unfold chkP at h
  rw [if_neg (by omega), if_neg (by omega)] at h
  have hz := rowG_zero h
  refine ⟨fun k hk => ?_, fun k hk => ?_⟩
  · obtain ⟨a, _⟩ := hz k (by omega) (by omega)
    unfold okPr at a
    rw [Bool.and_eq_true] at a
    exact ⟨okPos_le a.1, okPos_le a.2⟩
  · obtain ⟨_, b⟩ := hz (k + 1) (by omega) (by omega)
    rw [ordP_succ (x := (prOf l (k + 1)).1) (y := (prOf l (k + 1)).2) rfl (z1 := (prOf l k).1) (z2 := (prOf l k).2) rfl] at b
    simp at b
    omega
/-- the sum of the squares -/
def sqQ (l : List Pr) (u v : Rat) : Nat → Rat
  | 0 => 0
  | k + 1 => sqQ l u v k + ((((prOf l k).2 : Int) : Rat) + -(u * (((prOf l k).1 : Int) : Rat) + v)) * ((((prOf l k).2 : Int) : Rat) + -(u * (((prOf l k).1 : Int) : Rat) + v))
theorem sq_expand (l : List Pr) (u v : Rat) : ∀ k : Nat, sqQ l u v k = ((sumZ (fun p => p.2 * p.2) l k : Int) : Rat) - 2 * u * ((sumZ (fun p => p.1 * p.2) l k : Int) : Rat) - 2 * v * ((sumZ (fun p => p.2) l k : Int) : Rat) + u * u * ((sumZ (fun p => p.1 * p.1) l k : Int) : Rat) + 2 * u * v * ((sumZ (fun p => p.1) l k : Int) : Rat) + v * v * ((k : Int) : Rat)
  | 0 => by simp [sqQ, sumZ]; grind
  | k + 1 => by
    have ih := sq_expand l u v k
    show sqQ l u v k + _ = _
    rw [ih]
    show _ = ((sumZ (fun p => p.2 * p.2) l k + (prOf l k).2 * (prOf l k).2 : Int) : Rat) - 2 * u * ((sumZ (fun p => p.1 * p.2) l k + (prOf l k).1 * (prOf l k).2 : Int) : Rat) - 2 * v * ((sumZ (fun p => p.2) l k + (prOf l k).2 : Int) : Rat) + u * u * ((sumZ (fun p => p.1 * p.1) l k + (prOf l k).1 * (prOf l k).1 : Int) : Rat) + 2 * u * v * ((sumZ (fun p => p.1) l k + (prOf l k).1 : Int) : Rat) + v * v * (((k + 1 : Nat) : Int) : Rat)
    simp only [Rat.intCast_add, Rat.intCast_mul, Int.natCast_add]
    generalize ((sumZ (fun p => p.2 * p.2) l k : Int) : Rat) = R
    generalize ((sumZ (fun p => p.1 * p.2) l k : Int) : Rat) = Q
    generalize ((sumZ (fun p => p.2) l k : Int) : Rat) = Y
    generalize ((sumZ (fun p => p.1 * p.1) l k : Int) : Rat) = P
    generalize ((sumZ (fun p => p.1) l k : Int) : Rat) = X
    generalize (((prOf l k).1 : Int) : Rat) = a
    generalize (((prOf l k).2 : Int) : Rat) = b
    generalize ((k : Int) : Rat) = n
    rw [show (((1 : Nat) : Int) : Rat) = 1 from rfl]
    grind
/-- the quadratic form of a change -/
theorem form_nonneg (l : List Pr) (u v : Rat) : ∀ k : Nat, 0 ≤ u * u * ((sumZ (fun p => p.1 * p.1) l k : Int) : Rat) + 2 * u * v * ((sumZ (fun p => p.1) l k : Int) : Rat) + v * v * ((k : Int) : Rat)
  | 0 => by simp [sumZ]; grind
  | k + 1 => by
    have ih := form_nonneg l u v k
    show 0 ≤ u * u * ((sumZ (fun p => p.1 * p.1) l k + (prOf l k).1 * (prOf l k).1 : Int) : Rat) + 2 * u * v * ((sumZ (fun p => p.1) l k + (prOf l k).1 : Int) : Rat) + v * v * (((k + 1 : Nat) : Int) : Rat)
    simp only [Rat.intCast_add, Rat.intCast_mul, Int.natCast_add]
    revert ih
    generalize ((sumZ (fun p => p.1 * p.1) l k : Int) : Rat) = P
    generalize ((sumZ (fun p => p.1) l k : Int) : Rat) = X
    generalize (((prOf l k).1 : Int) : Rat) = a
    generalize ((k : Int) : Rat) = n
    rw [show (((1 : Nat) : Int) : Rat) = 1 from rfl]
    intro ih
    have hs : 0 ≤ (u * a + v) * (u * a + v) := by
      rcases Rat.le_total (a := 0) (b := u * a + v) with h | h
      · exact Rat.mul_nonneg h h
      · have h1 : 0 ≤ -(u * a + v) := by grind
        have := Rat.mul_nonneg h1 h1
        grind
    grind
theorem fit_normal {n X Y P Q D M a b : Rat} (hn : n ≠ 0) (hD : D ≠ 0) (eD : D = n * P - X * X) (eM : M = n * Q - X * Y) (ea : a = M / D) (eb : b = (Y - a * X) / n) : a * X + b * n = Y ∧ a * P + b * X = Q := by
  have h1 : b * n = Y - a * X := by rw [eb]; exact Rat.div_mul_cancel hn
  have h2 : a * D = M := by rw [ea]; exact Rat.div_mul_cancel hD
  refine ⟨by grind, ?_⟩
  have h3 : n * (a * P + b * X) = n * Q := by grind
  grind
theorem fit_best {l : List Pr} (hn : 0 < l.length) (hD : 0 < (l.length : Int) * sumZ (fun p => p.1 * p.1) l l.length - sumZ (fun p => p.1) l l.length * sumZ (fun p => p.1) l l.length) (u v : Rat) :
    sqQ l (fitA l) (fitB l) l.length ≤ sqQ l (fitA l + u) (fitB l + v) l.length := by
  have hf := form_nonneg l u v l.length
  rw [sq_expand, sq_expand]
  have ea : fitA l = (((l.length : Int) * sumZ (fun p => p.1 * p.2) l l.length - sumZ (fun p => p.1) l l.length * sumZ (fun p => p.2) l l.length : Int) : Rat) / (((l.length : Int) * sumZ (fun p => p.1 * p.1) l l.length - sumZ (fun p => p.1) l l.length * sumZ (fun p => p.1) l l.length : Int) : Rat) := by
    unfold fitA
    rw [Rat.mkRat_eq_div, show ((((l.length : Int) * sumZ (fun p => p.1 * p.1) l l.length - sumZ (fun p => p.1) l l.length * sumZ (fun p => p.1) l l.length).natAbs : Nat) : Rat) = (((l.length : Int) * sumZ (fun p => p.1 * p.1) l l.length - sumZ (fun p => p.1) l l.length * sumZ (fun p => p.1) l l.length : Int) : Rat) by
      rw [← Rat.intCast_natCast, Int.natAbs_of_nonneg (by omega)]]
  have eb : fitB l = ((sumZ (fun p => p.2) l l.length : Rat) - fitA l * (sumZ (fun p => p.1) l l.length : Rat)) / ((l.length : Int) : Rat) := rfl
  have hne : (((l.length : Int) * sumZ (fun p => p.1 * p.1) l l.length - sumZ (fun p => p.1) l l.length * sumZ (fun p => p.1) l l.length : Int) : Rat) ≠ 0 := fun h => by
    have h9 : ((l.length : Int) * sumZ (fun p => p.1 * p.1) l l.length - sumZ (fun p => p.1) l l.length * sumZ (fun p => p.1) l l.length) = 0 := Rat.intCast_eq_zero_iff.1 h
    omega
  have hnn : ((l.length : Int) : Rat) ≠ 0 := fun h => by
    have h9 := Rat.intCast_eq_zero_iff.1 h
    omega
  obtain ⟨g1, g2⟩ := fit_normal hnn hne (by rw [Rat.intCast_sub, Rat.intCast_mul, Rat.intCast_mul]) (by rw [Rat.intCast_sub, Rat.intCast_mul, Rat.intCast_mul]) ea eb
  clear ea eb hne hnn hD
  revert hf g1 g2
  generalize fitA l = a
  generalize fitB l = b
  generalize ((sumZ (fun p => p.2 * p.2) l l.length : Int) : Rat) = R
  generalize ((sumZ (fun p => p.1 * p.2) l l.length : Int) : Rat) = Q
  generalize ((sumZ (fun p => p.2) l l.length : Int) : Rat) = Y
  generalize ((sumZ (fun p => p.1 * p.1) l l.length : Int) : Rat) = P
  generalize ((sumZ (fun p => p.1) l l.length : Int) : Rat) = X
  generalize ((l.length : Int) : Rat) = n
  intro hf g1 g2
  subst g1 g2
  grind
/-- a number whose two whole numbers are below 10000 ^ k -/
def SmQ (q : Rat) (k : Nat) : Prop := q.num.natAbs < 10000 ^ k ∧ q.den < 10000 ^ k
theorem smQ_mk {z : Int} {d k : Nat} (hd : 0 < d) (h1 : z.natAbs < 10000 ^ k) (h2 : d < 10000 ^ k) : SmQ (mkRat z d) k := by
  obtain ⟨e1, e2⟩ := mkRat_fields z d hd
  have hg : 0 < Nat.gcd z.natAbs d := Nat.gcd_pos_of_pos_right _ hd
  refine ⟨?_, ?_⟩
  · rw [e1]
    refine Nat.lt_of_le_of_lt ?_ h1
    rw [Int.natAbs_ediv_of_dvd (Int.ofNat_dvd_left.2 (Nat.gcd_dvd_left _ _))]
    exact Nat.div_le_self _ _
  · rw [e2]
    exact Nat.lt_of_le_of_lt (Nat.div_le_self _ _) h2
theorem smQ_div {z : Int} {d : Int} {k : Nat} (hd : 0 < d) (h1 : z.natAbs < 10000 ^ k) (h2 : d.natAbs < 10000 ^ k) : SmQ ((z : Rat) / (d : Rat)) k := by
  have : (z : Rat) / (d : Rat) = mkRat z d.natAbs := by
    rw [Rat.mkRat_eq_div, show ((d.natAbs : Nat) : Rat) = (d : Rat) by rw [← Rat.intCast_natCast, Int.natAbs_of_nonneg (by omega)]]
  rw [this]
  exact smQ_mk (by omega) h1 h2
theorem SmQ.few {q : Rat} {k : Nat} (h : SmQ q k) (hk : 0 < k) (hk2 : 4 * k ≤ 2000) : fewT q 2000 = true := by
  unfold fewT
  rw [Bool.and_eq_true, decide_eq_true_eq, decide_eq_true_eq]
  have e : 10000 ^ k = 10 ^ (4 * k) := by rw [Nat.pow_mul]
  rw [show SmQ q k = (q.num.natAbs < 10000 ^ k ∧ q.den < 10000 ^ k) from rfl, e] at h
  have h1 := dec_len (4 * k) _ (by omega) h.1
  have h2 := dec_len (4 * k) _ (by omega) h.2
  omega
theorem sumZ_bd {l : List Pr} {f : Pr → Int} {C : Int} (h : ∀ k, k < l.length → -C ≤ f (prOf l k) ∧ f (prOf l k) ≤ C) : ∀ k : Nat, k ≤ l.length → -(C * k) ≤ sumZ f l k ∧ sumZ f l k ≤ C * k
  | 0, _ => by simp [sumZ]
  | k + 1, hk => by
    have ih := sumZ_bd h k (by omega)
    have h1 := h k (by omega)
    show -(C * ((k + 1 : Nat) : Int)) ≤ sumZ f l k + f (prOf l k) ∧ sumZ f l k + f (prOf l k) ≤ C * ((k + 1 : Nat) : Int)
    rw [Int.natCast_add, Int.mul_add]
    omega
theorem mul_ab {a b C D : Int} (h1 : -C ≤ a) (h2 : a ≤ C) (h3 : -D ≤ b) (h4 : b ≤ D) : -(C * D) ≤ a * b ∧ a * b ≤ C * D := by
  have hC : 0 ≤ C := by omega
  have hD : 0 ≤ D := by omega
  have e1 : a.natAbs ≤ C.natAbs := by omega
  have e2 : b.natAbs ≤ D.natAbs := by omega
  have e3 := Nat.mul_le_mul e1 e2
  rw [← Int.natAbs_mul, ← Int.natAbs_mul] at e3
  have h5 : 0 ≤ C * D := Int.mul_nonneg hC hD
  omega
theorem smQ_norm {z : Int} {d k : Nat} {q : Rat} (hd : 0 < d) (h1 : z.natAbs < 10000 ^ k) (h2 : d < 10000 ^ k) (e : q = mkRat z d) : SmQ q k := by
  rw [e]; exact smQ_mk hd h1 h2
theorem smQ_mul {q r : Rat} {a b : Nat} (h : SmQ q a) (h' : SmQ r b) : SmQ (q * r) (a + b) := by
  have e : q * r = mkRat (q.num * r.num) (q.den * r.den) := by rw [Rat.mul_def, Rat.normalize_eq_mkRat]
  refine smQ_norm (Nat.mul_pos q.den_pos r.den_pos) ?_ ?_ e
  · rw [Int.natAbs_mul, Nat.pow_add]; exact Nat.mul_lt_mul'' h.1 h'.1
  · rw [Nat.pow_add]; exact Nat.mul_lt_mul'' h.2 h'.2
theorem smQ_add {q r : Rat} {a b : Nat} (h : SmQ q a) (h' : SmQ r b) : SmQ (q + r) (a + b + 1) := by
  have e : q + r = mkRat (q.num * r.den + r.num * q.den) (q.den * r.den) := by rw [Rat.add_def, Rat.normalize_eq_mkRat]
  have h1 := Nat.mul_lt_mul'' h.1 h'.2
  have h2 := Nat.mul_lt_mul'' h'.1 h.2
  have h3 := Nat.mul_lt_mul'' h.2 h'.2
  rw [← Nat.pow_add] at h1 h2 h3
  rw [Nat.add_comm b a] at h2
  refine smQ_norm (Nat.mul_pos q.den_pos r.den_pos) ?_ ?_ e
  · have h4 := Int.natAbs_add_le (q.num * r.den) (r.num * q.den)
    rw [Int.natAbs_mul, Int.natAbs_mul, Int.natAbs_natCast, Int.natAbs_natCast] at h4
    rw [Nat.pow_succ]; omega
  · rw [Nat.pow_succ]; omega
theorem SmQ.le {q : Rat} {a b : Nat} (h : SmQ q a) (hab : a ≤ b) : SmQ q b :=
  ⟨Nat.lt_of_lt_of_le h.1 (Nat.pow_le_pow_right (by omega) hab), Nat.lt_of_lt_of_le h.2 (Nat.pow_le_pow_right (by omega) hab)⟩
theorem smQ_int {z : Int} {k : Nat} (hk : 0 < k) (h : z.natAbs < 10000 ^ k) : SmQ (z : Rat) k := by
  refine ⟨by rw [Rat.num_intCast]; exact h, ?_⟩
  rw [Rat.den_intCast]
  exact Nat.lt_of_lt_of_le (by omega : 1 < 10000 ^ 1) (Nat.pow_le_pow_right (by omega) hk)
/-- the sum of the squares, over one denominator -/
def sqZ (l : List Pr) (a b c d : Int) : Nat → Int
  | 0 => 0
  | k + 1 => sqZ l a b c d k + ((prOf l k).2 * (b * d) - (a * (prOf l k).1 * d + c * b)) * ((prOf l k).2 * (b * d) - (a * (prOf l k).1 * d + c * b))
theorem sq_frac (l : List Pr) {a b c d : Int} (hb : (b : Rat) ≠ 0) (hd : (d : Rat) ≠ 0) : ∀ k : Nat, sqQ l ((a : Rat) / (b : Rat)) ((c : Rat) / (d : Rat)) k = ((sqZ l a b c d k : Int) : Rat) / (((b * d) * (b * d) : Int) : Rat)
  | 0 => by simp [sqQ, sqZ]; grind
  | k + 1 => by
    have ih := sq_frac l hb hd (a := a) (c := c) k
    show sqQ l _ _ k + _ = ((sqZ l a b c d k + ((prOf l k).2 * (b * d) - (a * (prOf l k).1 * d + c * b)) * ((prOf l k).2 * (b * d) - (a * (prOf l k).1 * d + c * b)) : Int) : Rat) / _
    rw [ih]
    simp only [Rat.intCast_add, Rat.intCast_mul, Rat.intCast_sub]
    generalize ((sqZ l a b c d k : Int) : Rat) = S
    generalize (((prOf l k).1 : Int) : Rat) = x
    generalize (((prOf l k).2 : Int) : Rat) = y
    revert hb hd
    generalize ((a : Int) : Rat) = a
    generalize ((b : Int) : Rat) = b
    generalize ((c : Int) : Rat) = c
    generalize ((d : Int) : Rat) = d
    intro hb hd
    have hbd : b * d ≠ 0 := fun h => by rcases Rat.mul_eq_zero.1 h with h | h <;> contradiction
    have e1 : y + -(a / b * x + c / d) = (y * (b * d) - (a * x * d + c * b)) / (b * d) := by grind
    rw [e1]
    generalize y * (b * d) - (a * x * d + c * b) = N
    generalize b * d = E at *
    grind
theorem sqZ_bd {l : List Pr} {a b c d C : Int} (h : ∀ k, k < l.length → -C ≤ (prOf l k).2 * (b * d) - (a * (prOf l k).1 * d + c * b) ∧ (prOf l k).2 * (b * d) - (a * (prOf l k).1 * d + c * b) ≤ C) : ∀ k : Nat, k ≤ l.length → -(C * C * k) ≤ sqZ l a b c d k ∧ sqZ l a b c d k ≤ C * C * k
  | 0, _ => by simp [sqZ]
  | k + 1, hk => by
    have ih := sqZ_bd h k (by omega)
    obtain ⟨h1, h2⟩ := h k (by omega)
    have h3 := mul_ab h1 h2 h1 h2
    show -(C * C * ((k + 1 : Nat) : Int)) ≤ sqZ l a b c d k + _ ∧ sqZ l a b c d k + _ ≤ C * C * ((k + 1 : Nat) : Int)
    rw [Int.natCast_add, Int.mul_add]
    omega
theorem smQ_sqZ {l : List Pr} (hr : ∀ k, k < l.length → (-10000000000000 ≤ (prOf l k).1 ∧ (prOf l k).1 ≤ 10000000000000) ∧ (-10000000000000 ≤ (prOf l k).2 ∧ (prOf l k).2 ≤ 10000000000000)) (h5 : l.length ≤ 500) {a b c d : Int} (a1 : a.natAbs < 1000000000000000000000000000000000000000000000000000000000000000000000000000000000000000000000000000000000000000000000000) (b1 : b.natAbs < 1000000000000000000000000000000000000000000000000000000000000000000000000000000000000000000000000000000000000000000000000) (c1 : c.natAbs < 1000000000000000000000000000000000000000000000000000000000000000000000000000000000000000000000000000000000000000000000000) (d1 : d.natAbs < 1000000000000000000000000000000000000000000000000000000000000000000000000000000000000000000000000000000000000000000000000) {k : Nat} (hk : k ≤ l.length) :
    (sqZ l a b c d k).natAbs < 100000000000000000000000000000000000000000000000000000000000000000000000000000000000000000000000000000000000000000000000000000000000000000000000000000000000000000000000000000000000000000000000000000000000000000000000000000000000000000000000000000000000000000000000000000000000000000000000000000000000000000000000000000000000000000000000000000000000000000000000000000000000000000000000000000000000000000000000000000000000000000000000000000000000000000000000000000000000000000000000000000000000000000000000000000000000000000000000000000000000000000000000000000000 ∧ ((b * d) * (b * d)).natAbs < 100000000000000000000000000000000000000000000000000000000000000000000000000000000000000000000000000000000000000000000000000000000000000000000000000000000000000000000000000000000000000000000000000000000000000000000000000000000000000000000000000000000000000000000000000000000000000000000000000000000000000000000000000000000000000000000000000000000000000000000000000000000000000000000000000000000000000000000000000000000000000000000000000000000000000000000000000000000000000000000000000000000000000000000000000000000000000000000000000000000000000000000000000000000 := by
  have hbd := mul_ab (a := b) (b := d) (C := 1000000000000000000000000000000000000000000000000000000000000000000000000000000000000000000000000000000000000000000000000) (D := 1000000000000000000000000000000000000000000000000000000000000000000000000000000000000000000000000000000000000000000000000) (by omega) (by omega) (by omega) (by omega)
  have hcb := mul_ab (a := c) (b := b) (C := 1000000000000000000000000000000000000000000000000000000000000000000000000000000000000000000000000000000000000000000000000) (D := 1000000000000000000000000000000000000000000000000000000000000000000000000000000000000000000000000000000000000000000000000) (by omega) (by omega) (by omega) (by omega)
  have hz := sqZ_bd (l := l) (a := a) (b := b) (c := c) (d := d) (C := 30000000000000000000000000000000000000000000000000000000000000000000000000000000000000000000000000000000000000000000000000000000000000000000000000000000000000000000000000000000000000000000000000000000000000000000000000000000000000000000000000000000000000) (fun j hj => by
    obtain ⟨⟨x1, x2⟩, y1, y2⟩ := hr j hj
    have g1 := mul_ab (a := (prOf l j).2) (b := b * d) (C := 10000000000000) (D := 1000000000000000000000000000000000000000000000000000000000000000000000000000000000000000000000000000000000000000000000000000000000000000000000000000000000000000000000000000000000000000000000000000000000000000000000000000000000000000000000000) (by omega) (by omega) (by omega) (by omega)
    have g2 := mul_ab (a := a) (b := (prOf l j).1) (C := 1000000000000000000000000000000000000000000000000000000000000000000000000000000000000000000000000000000000000000000000000) (D := 10000000000000) (by omega) (by omega) (by omega) (by omega)
    have g3 := mul_ab (a := a * (prOf l j).1) (b := d) (C := 10000000000000000000000000000000000000000000000000000000000000000000000000000000000000000000000000000000000000000000000000000000000000) (D := 1000000000000000000000000000000000000000000000000000000000000000000000000000000000000000000000000000000000000000000000000) (by omega) (by omega) (by omega) (by omega)
    omega) k hk
  have hq := mul_ab (a := b * d) (b := b * d) (C := 1000000000000000000000000000000000000000000000000000000000000000000000000000000000000000000000000000000000000000000000000000000000000000000000000000000000000000000000000000000000000000000000000000000000000000000000000000000000000000000000000) (D := 1000000000000000000000000000000000000000000000000000000000000000000000000000000000000000000000000000000000000000000000000000000000000000000000000000000000000000000000000000000000000000000000000000000000000000000000000000000000000000000000000) (by omega) (by omega) (by omega) (by omega)
  omega
theorem smQ_sq {l : List Pr} (hr : ∀ k, k < l.length → (-10000000000000 ≤ (prOf l k).1 ∧ (prOf l k).1 ≤ 10000000000000) ∧ (-10000000000000 ≤ (prOf l k).2 ∧ (prOf l k).2 ≤ 10000000000000)) (h5 : l.length ≤ 500) {u v : Rat} (hu : SmQ u 30) (hv : SmQ v 30) {k : Nat} (hk : k ≤ l.length) : SmQ (sqQ l u v k) 140 := by
  have e30 : (10000 : Nat) ^ 30 = 1000000000000000000000000000000000000000000000000000000000000000000000000000000000000000000000000000000000000000000000000 := by decide
  have e140 : (10000 : Nat) ^ 140 = 100000000000000000000000000000000000000000000000000000000000000000000000000000000000000000000000000000000000000000000000000000000000000000000000000000000000000000000000000000000000000000000000000000000000000000000000000000000000000000000000000000000000000000000000000000000000000000000000000000000000000000000000000000000000000000000000000000000000000000000000000000000000000000000000000000000000000000000000000000000000000000000000000000000000000000000000000000000000000000000000000000000000000000000000000000000000000000000000000000000000000000000000000000000 := by decide
  obtain ⟨a1, b1⟩ := hu
  obtain ⟨c1, d1⟩ := hv
  rw [e30] at a1 b1 c1 d1
  have eu : ((u.num : Int) : Rat) / (((u.den : Nat) : Int) : Rat) = u := by rw [Rat.intCast_natCast]; rw [← Rat.mkRat_eq_div]; exact Rat.mkRat_self u
  have ev : ((v.num : Int) : Rat) / (((v.den : Nat) : Int) : Rat) = v := by rw [Rat.intCast_natCast]; rw [← Rat.mkRat_eq_div]; exact Rat.mkRat_self v
  have bp := u.den_pos
  have dp := v.den_pos
  have hb : ((((u.den : Nat) : Int) : Rat)) ≠ 0 := fun h => by have h9 := Rat.intCast_eq_zero_iff.1 h; omega
  have hd : ((((v.den : Nat) : Int) : Rat)) ≠ 0 := fun h => by have h9 := Rat.intCast_eq_zero_iff.1 h; omega
  have key := sq_frac l hb hd (a := u.num) (c := v.num) k
  rw [eu, ev] at key
  rw [key]
  obtain ⟨z1, z2⟩ := smQ_sqZ hr h5 (a := u.num) (b := (u.den : Int)) (c := v.num) (d := (v.den : Int)) a1 (by omega) c1 (by omega) hk
  have p1 : 0 < (u.den : Int) * (v.den : Int) := Int.mul_pos (by omega) (by omega)
  exact smQ_div (Int.mul_pos p1 p1) (by rw [e140]; exact z1) (by rw [e140]; exact z2)
theorem fit_sm {l : List Pr} (hr : ∀ k, k < l.length → (-10000000000000 ≤ (prOf l k).1 ∧ (prOf l k).1 ≤ 10000000000000) ∧ (-10000000000000 ≤ (prOf l k).2 ∧ (prOf l k).2 ≤ 10000000000000)) (h5 : l.length ≤ 500) (hn : 0 < l.length) (hD : 0 < (l.length : Int) * sumZ (fun p => p.1 * p.1) l l.length - sumZ (fun p => p.1) l l.length * sumZ (fun p => p.1) l l.length) :
    SmQ (fitA l) 20 ∧ SmQ (fitB l) 20 := by
  have e20 : (10000 : Nat) ^ 20 = 100000000000000000000000000000000000000000000000000000000000000000000000000000000 := by decide
  have hX := sumZ_bd (l := l) (f := fun p => p.1) (C := 10000000000000) (fun k hk => (hr k hk).1) l.length (Nat.le_refl _)
  have hY := sumZ_bd (l := l) (f := fun p => p.2) (C := 10000000000000) (fun k hk => (hr k hk).2) l.length (Nat.le_refl _)
  have hP := sumZ_bd (l := l) (f := fun p => p.1 * p.1) (C := 100000000000000000000000000) (fun k hk => by
    obtain ⟨⟨x1, x2⟩, y1, y2⟩ := hr k hk
    have := mul_ab x1 x2 x1 x2
    omega) l.length (Nat.le_refl _)
  have hQ := sumZ_bd (l := l) (f := fun p => p.1 * p.2) (C := 100000000000000000000000000) (fun k hk => by
    obtain ⟨⟨x1, x2⟩, y1, y2⟩ := hr k hk
    have := mul_ab x1 x2 y1 y2
    omega) l.length (Nat.le_refl _)
  have ea : fitA l = (((l.length : Int) * sumZ (fun p => p.1 * p.2) l l.length - sumZ (fun p => p.1) l l.length * sumZ (fun p => p.2) l l.length : Int) : Rat) / (((l.length : Int) * sumZ (fun p => p.1 * p.1) l l.length - sumZ (fun p => p.1) l l.length * sumZ (fun p => p.1) l l.length : Int) : Rat) := by
    unfold fitA
    rw [Rat.mkRat_eq_div, show ((((l.length : Int) * sumZ (fun p => p.1 * p.1) l l.length - sumZ (fun p => p.1) l l.length * sumZ (fun p => p.1) l l.length).natAbs : Nat) : Rat) = (((l.length : Int) * sumZ (fun p => p.1 * p.1) l l.length - sumZ (fun p => p.1) l l.length * sumZ (fun p => p.1) l l.length : Int) : Rat) by
      rw [← Rat.intCast_natCast, Int.natAbs_of_nonneg (by omega)]]
  have eb : fitB l = ((sumZ (fun p => p.2) l l.length : Rat) - fitA l * (sumZ (fun p => p.1) l l.length : Rat)) / ((l.length : Int) : Rat) := rfl
  obtain ⟨n, hnn⟩ : ∃ n : Int, (l.length : Int) = n := ⟨_, rfl⟩
  have hn1 : 0 < n := by omega
  have hn2 : n ≤ 500 := by omega
  rw [hnn] at hX hY hP hQ hD ea eb
  generalize sumZ (fun p => p.1) l l.length = X at *
  generalize sumZ (fun p => p.2) l l.length = Y at *
  generalize sumZ (fun p => p.1 * p.1) l l.length = P at *
  generalize sumZ (fun p => p.1 * p.2) l l.length = Q at *
  have g1 := mul_ab (a := n) (b := Q) (C := 500) (D := 50000000000000000000000000000) (by omega) (by omega) (by omega) (by omega)
  have g2 := mul_ab (a := X) (b := Y) (C := 5000000000000000) (D := 5000000000000000) (by omega) (by omega) (by omega) (by omega)
  have g3 := mul_ab (a := n) (b := P) (C := 500) (D := 50000000000000000000000000000) (by omega) (by omega) (by omega) (by omega)
  have g4 := mul_ab (a := X) (b := X) (C := 5000000000000000) (D := 5000000000000000) (by omega) (by omega) (by omega) (by omega)
  have hA : SmQ (fitA l) 20 := by
    rw [ea]
    exact smQ_div hD (by rw [e20]; omega) (by rw [e20]; omega)
  refine ⟨hA, ?_⟩
  have bM : -100000000000000000000000000000000 ≤ n * Q - X * Y ∧ n * Q - X * Y ≤ 100000000000000000000000000000000 := by omega
  have bD : n * P - X * X ≤ 100000000000000000000000000000000 := by omega
  generalize n * Q - X * Y = M at *
  generalize n * P - X * X = D at *
  have hDne : (D : Rat) ≠ 0 := fun h => by have h9 := Rat.intCast_eq_zero_iff.1 h; omega
  have hnne : (n : Rat) ≠ 0 := fun h => by have h9 := Rat.intCast_eq_zero_iff.1 h; omega
  have e : fitB l = (((Y * D - M * X : Int)) : Rat) / (((D * n : Int)) : Rat) := by
    rw [eb, ea]
    simp only [Rat.intCast_sub, Rat.intCast_mul]
    grind
  rw [e]
  have g5 := mul_ab (a := Y) (b := D) (C := 5000000000000000) (D := 100000000000000000000000000000000) (by omega) (by omega) (by omega) (by omega)
  have g6 := mul_ab (a := M) (b := X) (C := 100000000000000000000000000000000) (D := 5000000000000000) (by omega) (by omega) (by omega) (by omega)
  have g7 := mul_ab (a := D) (b := n) (C := 100000000000000000000000000000000) (D := 500) (by omega) (by omega) (by omega) (by omega)
  exact smQ_div (Int.mul_pos hD hn1) (by rw [e20]; omega) (by rw [e20]; omega)
theorem smQ_div2 {z d : Int} {k : Nat} (hd : d ≠ 0) (h1 : z.natAbs < 10000 ^ k) (h2 : d.natAbs < 10000 ^ k) : SmQ ((z : Rat) / (d : Rat)) k := by
  by_cases h : 0 < d
  · exact smQ_div h h1 h2
  · have e : (z : Rat) / (d : Rat) = ((-z : Int) : Rat) / ((-d : Int) : Rat) := by
      have hne : (d : Rat) ≠ 0 := fun h => by have h9 := Rat.intCast_eq_zero_iff.1 h; omega
      simp only [Rat.intCast_neg]
      grind
    rw [e]
    exact smQ_div (by omega) (by omega) (by omega)
theorem smQ_i64 {z : Int} (h1 : -9223372036854775808 ≤ z) (h2 : z ≤ 9223372036854775807) : z.natAbs < 10000 ^ 5 := by
  rw [show (10000 : Nat) ^ 5 = 100000000000000000000 from rfl]; omega
/-- how many limbs a number has -/
theorem limAt_le {w : World} {B n c x k : Nat} {A : Option Addr} (h : LimAt w B A n c x) (hx : x < 10000 ^ k) : n ≤ k := by
  obtain ⟨_, _, xs, h1, h2, h3⟩ := h
  have hl := h3.1
  refine Nat.le_of_not_lt fun hk => ?_
  have hne : xs ≠ [] := fun e => by rw [e] at hl; simp at hl; omega
  have := h1.ge hne
  rw [h2] at this
  have h4 : 10000 ^ k ≤ 10000 ^ (xs.length - 1) := Nat.pow_le_pow_right (by omega) (by omega)
  omega
theorem numR_le {w : World} {B n c m d k : Nat} {ng : Bool} {A D : Option Addr} {q : Rat} (h : NumR w B ng A n c D m d q) (hq : SmQ q k) : n ≤ k ∧ m ≤ k := ⟨limAt_le h.2.1 hq.1, limAt_le h.2.2 hq.2⟩
theorem smQ_neg {q : Rat} {a : Nat} (h : SmQ q a) : SmQ (-q) a := ⟨by rw [Rat.neg_num, Int.natAbs_neg]; exact h.1, by rw [Rat.neg_den]; exact h.2⟩
/-- what Fit gives -/
def lineV (f : Int) (l : List Pr) : Value := .tuple #[if f = 0 then .agg #[.string (txN (fitA l)), .string (txD (fitA l)), .string (txN (fitB l)), .string (txD (fitB l))] else .agg #[.string ⟨#[]⟩, .string ⟨#[]⟩, .string ⟨#[]⟩, .string ⟨#[]⟩], .int .i64 f]
theorem fit_disc {l : List Pr} (h : chkP l = 0) : 0 < (l.length : Int) * sumZ (fun p => p.1 * p.1) l l.length - sumZ (fun p => p.1) l l.length * sumZ (fun p => p.1) l l.length :=
  (disc_pos l (chkP_rng h).2 l.length (Nat.le_refl _)).2 (chkP_ok h).1
theorem fit_small {l : List Pr} (h : chkP l = 0) : SmQ (fitA l) 20 ∧ SmQ (fitB l) 20 := by
  obtain ⟨h1, h2⟩ := chkP_ok h
  exact fit_sm (chkP_rng h).1 h2 (by omega) (fit_disc h)
set_option maxRecDepth 100000 in
set_option maxHeartbeats 2000000 in
theorem FIT_any (A : Option Addr) (n c : Nat) (l : List Pr) (wo : World) (B : Nat) (hBo : B ≤ wo.heap.size) (hho : Hid (PrsAt wo B A n l)) :
    Calls Tryz.prog 4 #[.slice A n c] wo fun e w' => e = .returned (lineV (chkP l) l) ∧ Below wo.heap.size wo w' := by
  by_cases h : chkP l = 0
  · obtain ⟨s1, s2⟩ := fit_small h
    refine (FIT_ok A n c l wo B hBo hho (Lib.hid h) ⟨s1.few (by omega) (by omega), s2.few (by omega) (by omega)⟩ (Lib.hid (fit_disc h)) (Lib.hid (chkP_rng h).1)).mono ?_
    rintro e w' ⟨rfl, hb⟩
    exact ⟨by rw [h]; rfl, hb⟩
  · obtain ⟨x, hx⟩ : ∃ x, chkP l = x := ⟨_, rfl⟩
    have HX := Lib.hid hx
    have hq : (x != 0) = true := by rw [← hx]; simpa using h
    have HV : Hid (lineV x l = .tuple #[.agg #[.string ⟨#[]⟩, .string ⟨#[]⟩, .string ⟨#[]⟩, .string ⟨#[]⟩], .int .i64 x]) := by show _ = _; unfold lineV; rw [if_neg (by rw [← hx]; exact h)]
    rw [hx]
    clear hx h
    obtain ⟨w, gl, hw, hgl, HHL, HBL, HSL⟩ := cell_new0 wo 26 #[.string ⟨#[]⟩, .string ⟨#[]⟩, .string ⟨#[]⟩, .string ⟨#[]⟩]
    have hh : Hid (PrsAt w B A n l) := hho.out.below HBL.out hBo
    have hB : B ≤ w.heap.size := by have := HBL.out.size; omega
    have hglo : wo.heap.size ≤ gl := by omega
    go_enter Tryz.func4, Tryz.ntmps4
    go_upto_region 1 with (fail)
    rw [← hw, ← hgl]
    clear hw hgl HSL
    go_upto_region 3 with (go_at_call 7; refine (CHECKPAIRS_any A n c l _ B hB hh).mono ?_; rintro e w1 ⟨rfl, hb1⟩; rw [HX.out])
    have HL1 := Lib.hid ((hb1.block gl (blk_lt HHL.out)).trans HHL.out)
    obtain ⟨c0, c1, c2, c3, f0, f1, f2, f3⟩ := four_cells HL1.out
    have HBF := Lib.hid (HBL.out.trans (hb1.mono HBL.out.size))
    clear hb1
    go_wp2_with fail
    obtain ⟨e0, e1, e2, e3, _⟩ := four_cells (box4_heap (v0 := .string ⟨#[]⟩) (v1 := .string ⟨#[]⟩) (v2 := .string ⟨#[]⟩) (v3 := .string ⟨#[]⟩) HL1.out)
    refine bodyPost_ret (res_line (p := 2) (u := 3) rfl rfl e0 e1 e2 e3) rfl ⟨?_, (((HBF.out.setCell (p := ⟨gl, 0, none⟩) hglo _).setCell (p := ⟨gl, 1, none⟩) hglo _).setCell (p := ⟨gl, 2, none⟩) hglo _).setCell (p := ⟨gl, 3, none⟩) hglo _⟩
    rw [HV.out]
    rfl
end Go.Proofs.YtocbogdjlapogaaGreatDoor
