/- The plain functions of chapter 2, continued: Resample at a rate several times as great; Quantise. No program in sight. -/
import Derived.Test.YtpnbkkpbgpcgiaaSpecB
set_option linter.unusedSimpArgs false
set_option linter.unusedVariables false
namespace Go.Dw
theorem nearP_mono {a b c : Int} (hb : 0 < b) (h : a ≤ c) : nearP a b ≤ nearP c b := Int.ediv_le_ediv (by omega) (by omega)
theorem nearI_mono {a b c : Int} (hb : 0 < b) (h : a ≤ c) : nearI a b ≤ nearI c b := by
  unfold nearI
  by_cases ha : a < 0
  · rw [if_pos ha]
    by_cases hc : c < 0
    · rw [if_pos hc]
      have := nearP_mono (a := -c) (c := -a) hb (by omega)
      omega
    · rw [if_neg hc]
      have h1 := (nearP_bd (a := -a) (by omega) hb).1
      have h2 := (nearP_bd (a := c) (by omega) hb).1
      omega
  · rw [if_neg ha, if_neg (show ¬ c < 0 by omega)]
    exact nearP_mono hb h
/-- between two samples there is nothing beyond them -/
theorem near_between {x y f q : Int} (hq : 1 ≤ q) (hf : 0 ≤ f) (hf2 : f ≤ q) : min x y ≤ nearI (x * q + f * (y - x)) q ∧ nearI (x * q + f * (y - x)) q ≤ max x y := by
  rcases Int.le_total x y with h | h
  · have h1 : 0 ≤ f * (y - x) := Int.mul_nonneg hf (by omega)
    have h2 : f * (y - x) ≤ q * (y - x) := Int.mul_le_mul_of_nonneg_right hf2 (by omega)
    have h3 : q * (y - x) = y * q - x * q := by rw [Int.mul_sub, Int.mul_comm q y, Int.mul_comm q x]
    have a1 := nearI_mono (b := q) (a := x * q) (c := x * q + f * (y - x)) (by omega) (by omega)
    have a2 := nearI_mono (b := q) (a := x * q + f * (y - x)) (c := y * q) (by omega) (by omega)
    rw [near_self hq] at a1 a2
    omega
  · have h1 : 0 ≤ f * (x - y) := Int.mul_nonneg hf (by omega)
    have h2 : f * (x - y) ≤ q * (x - y) := Int.mul_le_mul_of_nonneg_right hf2 (by omega)
    have h3 : q * (x - y) = x * q - y * q := by rw [Int.mul_sub, Int.mul_comm q y, Int.mul_comm q x]
    have h4 : f * (y - x) = -(f * (x - y)) := by rw [← Int.mul_neg]; congr 1; omega
    have a1 := nearI_mono (b := q) (a := y * q) (c := x * q + f * (y - x)) (by omega) (by omega)
    have a2 := nearI_mono (b := q) (a := x * q + f * (y - x)) (c := x * q) (by omega) (by omega)
    rw [near_self hq] at a1 a2
    omega
theorem rsN_times {m : Nat} {r b : Int} (hr : 1 ≤ r) : rsN m r (r * b) = (m : Int) * b := by
  unfold rsN
  have e : (m : Int) * (r * b) + r - 1 = (r - 1) + r * ((m : Int) * b) := by
    have : (m : Int) * (r * b) = r * ((m : Int) * b) := by rw [← Int.mul_assoc, Int.mul_comm (m : Int) r, Int.mul_assoc]
    omega
  rw [e, Int.add_mul_ediv_left _ _ (by omega), Int.ediv_eq_zero_of_lt (by omega) (by omega)]
  omega
theorem rs_keep {r b : Int} {xs : List Int} {k : Nat} (hr : 1 ≤ r) (hb : 1 ≤ b) :
    ((k : Int) % b = 0 → rsV r (r * b) xs k = elOf xs ((k : Int) / b).toNat) ∧
    (((k : Int) / b).toNat + 1 < xs.length → min (elOf xs ((k : Int) / b).toNat) (elOf xs (((k : Int) / b).toNat + 1)) ≤ rsV r (r * b) xs k ∧ rsV r (r * b) xs k ≤ max (elOf xs ((k : Int) / b).toNat) (elOf xs (((k : Int) / b).toNat + 1))) ∧
    (¬ ((k : Int) / b).toNat + 1 < xs.length → rsV r (r * b) xs k = elOf xs ((k : Int) / b).toNat) := by
  have e1 : (k : Int) * r / (r * b) = (k : Int) / b := by rw [Int.mul_comm (k : Int) r]; exact Int.mul_ediv_mul_of_pos _ _ (by omega)
  have e2 : (k : Int) * r % (r * b) = r * ((k : Int) % b) := by rw [Int.mul_comm (k : Int) r]; exact Int.mul_emod_mul_of_pos _ _ (by omega)
  have hq : 1 ≤ r * b := Int.mul_le_mul hr hb (by omega) (by omega)
  have h0 := Int.emod_nonneg (k : Int) (show b ≠ 0 by omega)
  have h1 := Int.emod_lt_of_pos (k : Int) (show 0 < b by omega)
  have f0 : 0 ≤ r * ((k : Int) % b) := Int.mul_nonneg (by omega) h0
  have f1 : r * ((k : Int) % b) ≤ r * b := Int.mul_le_mul_of_nonneg_left (by omega) (by omega)
  unfold rsV
  simp only [e1, e2]
  refine ⟨fun h => ?_, fun h => ?_, fun h => ?_⟩
  · rw [h, Int.mul_zero, Int.zero_mul, Int.add_zero, near_self hq]
    split <;> rfl
  · rw [if_pos h]; exact near_between hq f0 f1
  · rw [if_neg h]
/-- Quantise -/
def qTop (st : Int) : Int := 8388607 / st * st
def qM (st x : Int) : Int := nearI x st * st
def qV (st x : Int) : Int := if qTop st < qM st x then qTop st else qM st x
def qC (inc : Int → Int) (st c x : Int) : Int := if qTop st < qM st x then inc c else c
def qStep (b : Int) : Int := 2 ^ (24 - b).toNat
def quS (inc : Int → Int) (r : Int) (xss : List (List Int)) (b : Int) : Int × List (List Int) × Int × Int :=
  if chkS r xss ≠ 0 then (0, [], 0, chkS r xss) else if b < 1 ∨ 24 < b then (0, [], 0, 1) else (r, xss.map (List.map (qV (qStep b))), stS (qC inc (qStep b)) 0 xss, 0)
theorem qStep_bd {b : Int} (h1 : 1 ≤ b) (h2 : b ≤ 24) : 1 ≤ qStep b ∧ qStep b ≤ 8388608 := by
  unfold qStep
  obtain ⟨n, hn⟩ : ∃ n, (24 - b).toNat = n := ⟨_, rfl⟩
  rw [hn]
  have : n ≤ 23 := by omega
  have h : ∀ n : Fin 24, (1 : Int) ≤ 2 ^ n.val ∧ (2 : Int) ^ n.val ≤ 8388608 := by decide
  exact h ⟨n, by omega⟩
/-- the steps that occur: a step times another number is 2 to the power of 23 -/
theorem qStep_dvd {b : Int} (h1 : 1 ≤ b) (h2 : b ≤ 24) : qStep b ∣ 8388608 := by
  refine ⟨2 ^ (b - 1).toNat, ?_⟩
  unfold qStep
  rw [← Int.pow_add, show (24 - b).toNat + (b - 1).toNat = 23 by omega]
  rfl
theorem nearI_bd {x st : Int} (hs : 1 ≤ st) : -(absI x) ≤ nearI x st ∧ nearI x st ≤ absI x := by
  unfold nearI absI
  split
  · have := nearP_bd (a := -x) (b := st) (by omega) (by omega); omega
  · have := nearP_bd (a := x) (b := st) (by omega) (by omega); omega
theorem qM_bd {st x : Int} (hs : 1 ≤ st) (hs2 : st ≤ 8388608) (hx1 : -8388608 ≤ x) (hx2 : x ≤ 8388607) : -8388608 ≤ nearI x st ∧ nearI x st ≤ 8388608 ∧ -70368744177664 ≤ qM st x ∧ qM st x ≤ 70368744177664 := by
  have h := nearI_bd (x := x) hs
  unfold absI at h
  have b1 : nearI x st * st ≤ 8388608 * st := Int.mul_le_mul_of_nonneg_right (by omega) (by omega)
  have b2 : -8388608 * st ≤ nearI x st * st := Int.mul_le_mul_of_nonneg_right (by omega) (by omega)
  unfold qM
  refine ⟨by omega, by omega, by omega, by omega⟩
theorem qTop_bd {st : Int} (hs : 1 ≤ st) : 0 ≤ qTop st ∧ qTop st ≤ 8388607 ∧ 0 ≤ 8388607 / st ∧ 8388607 / st ≤ 8388607 ∧ 8388607 < qTop st + st := by
  have h1 := Int.emod_add_mul_ediv 8388607 st
  have h2 := Int.emod_nonneg 8388607 (show st ≠ 0 by omega)
  have h3 := Int.emod_lt_of_pos 8388607 (show 0 < st by omega)
  have h4 : (0 : Int) ≤ 8388607 / st := Int.ediv_nonneg (by omega) (by omega)
  have h5 : (8388607 : Int) / st ≤ 8388607 := Int.ediv_le_self _ (by omega)
  have h6 : 0 ≤ 8388607 / st * st := Int.mul_nonneg h4 (by omega)
  unfold qTop
  rw [Int.mul_comm] at h1
  omega
/-- a multiple is beyond the top just if it is beyond the range -/
theorem qM_over {st x : Int} (hs : 1 ≤ st) : 8388607 < qM st x ↔ qTop st < qM st x := by
  obtain ⟨h1, h2, h3, h4, h5⟩ := qTop_bd hs
  refine ⟨fun h => by omega, fun h => ?_⟩
  unfold qM qTop at h
  unfold qTop at h5
  have hlt : 8388607 / st < nearI x st := by
    refine Int.lt_of_not_ge fun hge => ?_
    have := Int.mul_le_mul_of_nonneg_right hge (show 0 ≤ st by omega)
    omega
  have h6 : (8388607 / st + 1) * st ≤ nearI x st * st := Int.mul_le_mul_of_nonneg_right (by omega) (by omega)
  rw [Int.add_mul, Int.one_mul] at h6
  show 8388607 < nearI x st * st
  omega
theorem nearI_dvd {st x : Int} (hs : 1 ≤ st) (h : st ∣ x) : qM st x = x := by
  obtain ⟨y, rfl⟩ := h
  unfold qM
  rw [Int.mul_comm st y, near_self hs]
theorem qV_dvd {st x : Int} : st ∣ qV st x := by
  unfold qV
  split
  · exact ⟨8388607 / st, by unfold qTop; rw [Int.mul_comm]⟩
  · exact ⟨nearI x st, by unfold qM; rw [Int.mul_comm]⟩
/-- what has few bits is not changed by as many or more -/
theorem qV_once {s1 s2 x : Int} (h2 : 1 ≤ s2) (hd : s2 ∣ s1) (hx : qV s1 x ≤ qTop s1) (h1 : 1 ≤ s1) : qV s2 (qV s1 x) = qV s1 x ∧ ∀ inc c, qC inc s2 c (qV s1 x) = c := by
  have e : qM s2 (qV s1 x) = qV s1 x := nearI_dvd h2 (Int.dvd_trans hd qV_dvd)
  have t1 := qTop_bd h1
  have t2 := qTop_bd h2
  have hn : ¬ qTop s2 < qV s1 x := by
    intro h
    have := (qM_over (x := qV s1 x) h2).2 (by rw [e]; exact h)
    rw [e] at this
    omega
  refine ⟨?_, fun inc c => ?_⟩
  · show (if qTop s2 < qM s2 (qV s1 x) then _ else _) = _
    rw [e, if_neg hn]
  · show (if qTop s2 < qM s2 (qV s1 x) then _ else _) = _
    rw [e, if_neg hn]
theorem qV_top {st x : Int} : qV st x ≤ qTop st := by unfold qV; split <;> omega
theorem qStep_le {a b : Int} (h1 : 1 ≤ a) (h : a ≤ b) (h2 : b ≤ 24) : qStep b ∣ qStep a := by
  refine ⟨2 ^ (b - a).toNat, ?_⟩
  unfold qStep
  rw [← Int.pow_add, show (24 - b).toNat + (b - a).toNat = (24 - a).toNat by omega]
/-- a sample that is quantised is a sample -/
theorem qV_smp {b x : Int} (hb1 : 1 ≤ b) (hb2 : b ≤ 24) (h1 : -8388608 ≤ x) : -8388608 ≤ qV (qStep b) x ∧ qV (qStep b) x ≤ 8388607 := by
  obtain ⟨s1, s2⟩ := qStep_bd hb1 hb2
  have t := qTop_bd s1
  refine ⟨?_, by have := qV_top (st := qStep b) (x := x); omega⟩
  obtain ⟨d, hd⟩ := qStep_dvd hb1 hb2
  have hlo : -8388608 ≤ qM (qStep b) x := by
    have hm := nearI_mono (b := qStep b) (a := (-d) * qStep b) (c := x) (by omega) (by rw [Int.neg_mul, Int.mul_comm d, ← hd]; omega)
    rw [near_self s1] at hm
    have := Int.mul_le_mul_of_nonneg_right hm (show 0 ≤ qStep b by omega)
    rw [Int.neg_mul, Int.mul_comm d, ← hd] at this
    exact this
  unfold qV
  split <;> omega
theorem stS_map {σ : Type} {u : σ → Int → σ} {f : Int → Int} (h : ∀ s x, u s (f x) = s) (s : σ) (xss : List (List Int)) : stS u s (xss.map (List.map f)) = s := by
  have hr : ∀ (xs : List Int) (s : σ), stR u s (xs.map f) = s := by
    intro xs
    induction xs with
    | nil => intro s; rfl
    | cons x xs ih => intro s; show stR u (u s (f x)) (xs.map f) = s; rw [h]; exact ih s
  induction xss with
  | nil => rfl
  | cons t ts ih => show stS u (stR u s (t.map f)) (ts.map (List.map f)) = s; rw [hr]; exact ih
theorem chkS_mk {r : Int} {xss : List (List Int)} (h : OkS r xss) : chkS r xss = 0 := by
  have hT : ∀ (l : List (List Int)), (∀ t ∈ l, t.length = len0 xss ∧ t.all smpB = true) → chkT (len0 xss) l = 0 := by
    intro l
    induction l with
    | nil => intro _; rfl
    | cons t ts ih =>
      intro hl
      have ht := hl t (by simp)
      rw [chkT, if_neg (by simp [ht.1]), if_pos ht.2]
      exact ih fun u hu => hl u (by simp [hu])
  unfold chkS
  rw [if_neg (by simp [h.rate]), if_neg (by have := h.some; omega), if_neg (by have := h.few; have := h.long; omega)]
  exact hT _ h.rows
/-- a sound of which each sample is made anew, as a sample, is right -/
theorem OkS.mapped {r : Int} {xss : List (List Int)} (h : OkS r xss) {f : Int → Int} (hf : ∀ x, -8388608 ≤ x → x ≤ 8388607 → smpB (f x) = true) : OkS r (xss.map (List.map f)) ∧ len0 (xss.map (List.map f)) = len0 xss := by
  have hl : len0 (xss.map (List.map f)) = len0 xss := by
    cases xss with
    | nil => rfl
    | cons t ts => simp [len0]
  refine ⟨⟨h.rate, by simpa using h.some, by simpa using h.few, by rw [hl]; exact h.long, fun t ht => ?_⟩, hl⟩
  obtain ⟨u, hu, rfl⟩ := List.mem_map.1 ht
  have hr := h.rows u hu
  refine ⟨by rw [hl, List.length_map]; exact hr.1, ?_⟩
  rw [List.all_eq_true]
  intro y hy
  obtain ⟨x, hx, rfl⟩ := List.mem_map.1 hy
  have := smpB_yes (List.all_eq_true.1 hr.2 x hx)
  exact hf x this.1 this.2
end Go.Dw
