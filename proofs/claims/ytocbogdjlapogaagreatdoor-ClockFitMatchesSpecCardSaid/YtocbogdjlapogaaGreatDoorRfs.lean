/- For the document's Fit: numbers and boxes in a region walked once; two stores; sizes. -/
import Derived.Test.YtocbogdjlapogaaGreatDoorSqw
import Derived.Test.YtocbogdjlapogaaGreatDoorRfq
import Derived.Test.YtocbogdjlapogaaGreatDoorRegJ
set_option linter.unusedSimpArgs false
set_option linter.unusedVariables false
namespace Go.Proofs.YtocbogdjlapogaaGreatDoor
open Go.RowKit Go.Dw Go.Joins
/-- a number that a call has handed back -/
def NumV (q : Rat) (v : Value) (w : World) : Prop := ∃ ng A n c D d e, v = .agg #[.bool ng, .slice A n c, .slice D d e] ∧ NumR w w.heap.size ng A n c D d e q
theorem NumV.below {q : Rat} {v : Value} {w w' : World} (h : NumV q v w) (hb : Below w.heap.size w w') : NumV q v w' := by
  obtain ⟨ng, A, n, c, D, d, e, h1, h2⟩ := h
  exact ⟨ng, A, n, c, D, d, e, h1, h2.to hb (Nat.le_refl _) hb.size⟩
/-- a new box -/
def BoxV (B : Nat) (T : TypeId) (cs : Array Value) (v : Value) (w : World) : Prop := ∃ g, v = .pointer (some ⟨g, 0, none⟩) ∧ B ≤ g ∧ w.heap[g]? = some (.cells cs T (0, 0))
theorem BoxV.below {B : Nat} {T : TypeId} {cs : Array Value} {v : Value} {w w' : World} (h : BoxV B T cs v w) (hb : Below w.heap.size w w') : BoxV B T cs v w' := by
  obtain ⟨g, h1, h2, h3⟩ := h
  exact ⟨g, h1, h2, (hb.block g (blk_lt h3)).trans h3⟩
/-- two new boxes are two -/
def FarV (R : List Nat) (i j : Nat) (u v : Value) : Prop := i ∈ R → j ∈ R → u ≠ v
theorem BoxV.far {B : Nat} {T : TypeId} {cs : Array Value} {v : Value} {w : World} (h : BoxV B T cs v w) : v ≠ .pointer (some ⟨w.heap.size, 0, none⟩) := by
  obtain ⟨g, rfl, _, h3⟩ := h
  intro e
  injection e with e
  injection e with e
  injection e with e _ _
  have := blk_lt h3
  omega
theorem rbox_two {w : World} {g p n c d e n' c' d' e' : Nat} {q q' : Rat} {ng ng' : Bool} {A D A' D' : Option Addr} {o0 o1 o2 u0 u1 u2 : Value} (hg : w.heap[g]? = some (.cells #[o0, o1, o2] 50 (0, 0))) (hp : w.heap[p]? = some (.cells #[u0, u1, u2] 50 (0, 0))) (hne : g ≠ p)
    (h : NumR w w.heap.size ng A n c D d e q) (h' : NumR w w.heap.size ng' A' n' c' D' d' e' q') :
    ∃ V, V = (((((w.setCell ⟨g, 0, none⟩ (.bool ng)).setCell ⟨g, 1, none⟩ (.slice A n c)).setCell ⟨g, 2, none⟩ (.slice D d e)).setCell ⟨p, 0, none⟩ (.bool ng')).setCell ⟨p, 1, none⟩ (.slice A' n' c')).setCell ⟨p, 2, none⟩ (.slice D' d' e') ∧
      Hid (RBox V g q) ∧ Hid (RBox V p q') ∧ Hid (∀ j r, j ≠ g → j ≠ p → RBox w j r → RBox V j r) ∧ Hid (∀ N w0, N ≤ g → N ≤ p → Below N w0 w → Below N w0 V) := by
  obtain ⟨V1, hV1⟩ : ∃ V, V = ((w.setCell ⟨g, 0, none⟩ (.bool ng)).setCell ⟨g, 1, none⟩ (.slice A n c)).setCell ⟨g, 2, none⟩ (.slice D d e) := ⟨_, rfl⟩
  have a1 : RBox V1 g q := by rw [hV1]; exact RBox.store hg h
  have a2 : V1.heap[p]? = some (.cells #[u0, u1, u2] 50 (0, 0)) := by rw [hV1]; exact box_far (box_far (box_far hp hne.symm 0 _) hne.symm 1 _) hne.symm 2 _
  have a3 : NumR V1 V1.heap.size ng' A' n' c' D' d' e' q' := by rw [hV1]; exact h'.box3 ⟨_, _, hg⟩ (by decide) _ _ _
  refine ⟨_, rfl, ?_, ?_, fun j r hj hj' hr => ?_, fun N w0 hN hN' hb => ?_⟩
  · rw [← hV1]; exact a1.far ⟨_, _, a2⟩ hne _ _ _
  · rw [← hV1]; exact RBox.store a2 a3
  · rw [← hV1]
    refine RBox.far ?_ ⟨_, _, a2⟩ hj' _ _ _
    rw [hV1]
    exact hr.far ⟨_, _, hg⟩ hj _ _ _
  · exact box3_below (box3_below hb hN) hN'
/-! sizes -/
theorem smQ_mean {X : Int} {n : Nat} (hn : 0 < n) (h1 : X.natAbs < 10000 ^ 20) (h2 : n < 10000 ^ 20) : SmQ ((X : Rat) / ((n : Int) : Rat)) 20 := smQ_div (by omega) h1 (by simpa using h2)
theorem sum_sm {l : List Pr} {f : Pr → Int} (hf : ∀ k, k < l.length → -10000000000000 ≤ f (prOf l k) ∧ f (prOf l k) ≤ 10000000000000) (h5 : l.length ≤ 500) {k : Nat} (hk : k ≤ l.length) : (sumZ f l k).natAbs < 10000 ^ 20 ∧ -5000000000000000 ≤ sumZ f l k ∧ sumZ f l k ≤ 5000000000000000 := by
  have e20 : (10000 : Nat) ^ 20 = 100000000000000000000000000000000000000000000000000000000000000000000000000000000 := by decide
  have h := sumZ_bd (l := l) (f := f) (C := 10000000000000) hf k hk
  rw [e20]
  omega
theorem up_sm {l : List Pr} (hr : ∀ k, k < l.length → (-10000000000000 ≤ (prOf l k).1 ∧ (prOf l k).1 ≤ 10000000000000) ∧ (-10000000000000 ≤ (prOf l k).2 ∧ (prOf l k).2 ≤ 10000000000000)) (h5 : l.length ≤ 500) {X Y : Int} {n : Nat} (hn : 0 < n) (hn5 : n ≤ 500)
    (x1 : -5000000000000000 ≤ X) (x2 : X ≤ 5000000000000000) (y1 : -5000000000000000 ≤ Y) (y2 : Y ≤ 5000000000000000) {k : Nat} (hk : k ≤ l.length) : SmQ (upQ l ((X : Rat) / ((n : Int) : Rat)) ((Y : Rat) / ((n : Int) : Rat)) k) 20 := by
  have e20 : (10000 : Nat) ^ 20 = 100000000000000000000000000000000000000000000000000000000000000000000000000000000 := by decide
  have hnne : (((n : Nat) : Int) : Rat) ≠ 0 := fun h => by have h9 := Rat.intCast_eq_zero_iff.1 h; omega
  rw [up_frac l hnne k]
  have hz := sumZ_bd (l := l) (f := fun p => ((n : Int) * p.1 - X) * ((n : Int) * p.2 - Y)) (C := 100000000000000000000000000000000) (fun j hj => by
    obtain ⟨⟨p1, p2⟩, q1, q2⟩ := hr j hj
    have g1 := mul_ab (a := (n : Int)) (b := (prOf l j).1) (C := 500) (D := 10000000000000) (by omega) (by omega) (by omega) (by omega)
    have g2 := mul_ab (a := (n : Int)) (b := (prOf l j).2) (C := 500) (D := 10000000000000) (by omega) (by omega) (by omega) (by omega)
    exact mul_ab (a := (n : Int) * (prOf l j).1 - X) (b := (n : Int) * (prOf l j).2 - Y) (C := 10000000000000000) (D := 10000000000000000) (by omega) (by omega) (by omega) (by omega)) k hk
  have hnn := mul_ab (a := (n : Int)) (b := (n : Int)) (C := 500) (D := 500) (by omega) (by omega) (by omega) (by omega)
  have hpos : 0 < (n : Int) * (n : Int) := Int.mul_pos (by omega) (by omega)
  exact smQ_div hpos (by rw [e20]; omega) (by rw [e20]; omega)
theorem fit_sizes {l : List Pr} (h : chkP l = 0) : SmQ (meanA l) 20 ∧ SmQ (meanB l) 20 ∧ (∀ k, k ≤ l.length → SmQ (upQ l (meanA l) (meanB l) k) 20) ∧ (∀ k, k ≤ l.length → SmQ (dnQ l (meanA l) k) 20) ∧ (∀ k, k ≤ l.length → SmQ (sumA l k) 20) ∧ (∀ k, k ≤ l.length → SmQ (sumB l k) 20) := by
  obtain ⟨hn2, h5⟩ := chkP_ok h
  have hr := (chkP_rng h).1
  have e20 : (10000 : Nat) ^ 20 = 100000000000000000000000000000000000000000000000000000000000000000000000000000000 := by decide
  obtain ⟨a0, a1, a2⟩ := sum_sm (l := l) (f := fun p => p.1) (fun k hk => (hr k hk).1) h5 (Nat.le_refl _)
  obtain ⟨b0, b1, b2⟩ := sum_sm (l := l) (f := fun p => p.2) (fun k hk => (hr k hk).2) h5 (Nat.le_refl _)
  refine ⟨smQ_mean (by omega) a0 (by rw [e20]; omega), smQ_mean (by omega) b0 (by rw [e20]; omega), fun k hk => up_sm hr h5 (by omega) h5 a1 a2 b1 b2 hk, fun k hk => ?_, fun k hk => ?_, fun k hk => ?_⟩
  · rw [dn_up]
    have hp : ∀ j, j < (l.map fun p => (p.1, p.1)).length → prOf (l.map fun p => (p.1, p.1)) j = ((prOf l j).1, (prOf l j).1) := fun j hj => by
      rw [List.length_map] at hj
      unfold prOf
      simp [List.getD, hj]
    refine up_sm (l := l.map fun p => (p.1, p.1)) (fun j hj => ?_) (by simpa using h5) (by omega) h5 a1 a2 a1 a2 (by simpa using hk)
    rw [hp j hj]
    have := hr j (by simpa using hj)
    exact ⟨this.1, this.1⟩
  · exact smQ_int (by omega) (sum_sm (l := l) (f := fun p => p.1) (fun k hk => (hr k hk).1) h5 hk).1
  · exact smQ_int (by omega) (sum_sm (l := l) (f := fun p => p.2) (fun k hk => (hr k hk).2) h5 hk).1
end Go.Proofs.YtocbogdjlapogaaGreatDoor
