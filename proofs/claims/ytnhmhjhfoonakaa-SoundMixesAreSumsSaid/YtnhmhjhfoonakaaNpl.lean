/- A sound that is made normal has its peak; done again, it stays: plain. -/
import Derived.Test.YtnhmhjhfoonakaaNoa
set_option linter.unusedSimpArgs false
set_option linter.unusedVariables false
namespace Go.Proofs.Ytnhmhjhfoonakaa
open Go.RowKit Go.Dw
theorem near_scale8 (k x d : Nat) (hk : 0 < k) : (k * x * 2 + k * d) / (k * d * 2) = (x * 2 + d) / (d * 2) := by
  rw [show k * x * 2 + k * d = k * (x * 2 + d) by rw [Nat.mul_add, Nat.mul_assoc], show k * d * 2 = k * (d * 2) by rw [Nat.mul_assoc], Nat.mul_div_mul_left _ _ hk]
theorem nearQ_mkRat8 (z : Int) (d : Nat) (hd : 0 < d) : nearQ (mkRat z d) = nearR z d := by
  obtain ⟨h1, h2⟩ := mkRat_fields z d hd
  have hg : 0 < Nat.gcd z.natAbs d := Nat.gcd_pos_of_pos_right _ hd
  obtain ⟨h3, h4⟩ := div_gcd z (Nat.gcd z.natAbs d) hg (Nat.gcd_dvd_left _ _)
  unfold nearQ nearR
  rw [h1, h2, h3]
  have e1 : z.natAbs = Nat.gcd z.natAbs d * (z.natAbs / Nat.gcd z.natAbs d) := (Nat.mul_div_cancel' (Nat.gcd_dvd_left _ _)).symm
  have e2 : d = Nat.gcd z.natAbs d * (d / Nat.gcd z.natAbs d) := (Nat.mul_div_cancel' (Nat.gcd_dvd_right _ _)).symm
  have e3 := near_scale8 (Nat.gcd z.natAbs d) (z.natAbs / Nat.gcd z.natAbs d) (d / Nat.gcd z.natAbs d) hg
  rw [← e1, ← e2] at e3
  rw [← e3]
  have e4 : (z / (Nat.gcd z.natAbs d : Int) < 0) ↔ z < 0 := decide_eq_decide.1 h4
  by_cases hz : z < 0
  · rw [if_pos hz, if_pos (e4.2 hz)]
  · rw [if_neg hz, if_neg (fun h => hz (e4.1 h))]
theorem near_prod (x a b : Int) (hb : 0 < b) : nearQ ((x : Rat) * ((a : Rat) / b)) = nearR (x * a) b.natAbs := by
  have e : (x : Rat) * ((a : Rat) / b) = mkRat (x * a) b.natAbs := by
    have h := frac_pos (x * a) b hb
    rw [h, Rat.intCast_mul, Rat.div_def, Rat.div_def, Rat.mul_assoc]
  rw [e, nearQ_mkRat8 _ _ (by omega)]
theorem nearR_le {z : Int} {d m : Nat} (hd : 0 < d) (h : z.natAbs ≤ d * m) : (nearR z d).natAbs ≤ m := by
  have h1 : (z.natAbs * 2 + d) / (d * 2) ≤ m := by
    rw [← Nat.lt_succ_iff, Nat.div_lt_iff_lt_mul (by omega)]
    have : (m + 1) * (d * 2) = d * m * 2 + d * 2 := by rw [Nat.add_mul, Nat.one_mul, Nat.mul_comm m, Nat.mul_right_comm]
    rw [Nat.succ_eq_add_one, this]
    omega
  unfold nearR
  split
  · rw [Int.natAbs_neg, Int.natAbs_natCast]; exact h1
  · rw [Int.natAbs_natCast]; exact h1
theorem nearR_eq {z : Int} {d m : Nat} (hd : 0 < d) (h : z.natAbs = d * m) : nearR z d = if z < 0 then -(m : Int) else m := by
  have h1 : (z.natAbs * 2 + d) / (d * 2) = m := by
    rw [h]
    refine Nat.div_eq_of_lt_le ?_ ?_
    · have : m * (d * 2) = d * m * 2 := by rw [Nat.mul_comm m, Nat.mul_right_comm]
      rw [this]; omega
    · have : (m + 1) * (d * 2) = d * m * 2 + d * 2 := by rw [Nat.add_mul, Nat.one_mul, Nat.mul_comm m, Nat.mul_right_comm]
      rw [this]; omega
  unfold nearR
  rw [h1]
theorem absI_nat (x : Int) : absI x = x.natAbs := by unfold absI; omega
theorem pkRow_ge : ∀ (xs : List Int) (m : Int), m ≤ pkRow m xs ∧ ∀ x ∈ xs, absI x ≤ pkRow m xs
  | [], m => ⟨Int.le_refl _, fun x h => by cases h⟩
  | y :: ys, m => by
    have h := pkRow_ge ys (max m (absI y))
    show m ≤ pkRow (max m (absI y)) ys ∧ ∀ x ∈ y :: ys, absI x ≤ pkRow (max m (absI y)) ys
    refine ⟨by omega, fun x hx => ?_⟩
    rcases List.mem_cons.1 hx with rfl | hx
    · omega
    · exact h.2 x hx
theorem pkRow_mem : ∀ (xs : List Int) (m : Int), pkRow m xs = m ∨ ∃ x ∈ xs, absI x = pkRow m xs
  | [], m => .inl rfl
  | y :: ys, m => by
    have h := pkRow_mem ys (max m (absI y))
    show pkRow (max m (absI y)) ys = m ∨ ∃ x ∈ y :: ys, absI x = pkRow (max m (absI y)) ys
    rcases h with h | ⟨x, hx, h⟩
    · rcases Int.le_total m (absI y) with h1 | h1
      · exact .inr ⟨y, by simp, by rw [h]; omega⟩
      · exact .inl (by rw [h]; omega)
    · exact .inr ⟨x, by simp [hx], h⟩
theorem pkS_ge : ∀ (xss : List (List Int)) (m : Int), m ≤ pkS m xss ∧ ∀ t ∈ xss, ∀ x ∈ t, absI x ≤ pkS m xss
  | [], m => ⟨Int.le_refl _, fun t h => by cases h⟩
  | u :: us, m => by
    have h := pkS_ge us (pkRow m u)
    have h1 := pkRow_ge u m
    show m ≤ pkS (pkRow m u) us ∧ ∀ t ∈ u :: us, ∀ x ∈ t, absI x ≤ pkS (pkRow m u) us
    refine ⟨by omega, fun t ht x hx => ?_⟩
    rcases List.mem_cons.1 ht with rfl | ht
    · have := h1.2 x hx; omega
    · exact h.2 t ht x hx
theorem pkS_mem : ∀ (xss : List (List Int)) (m : Int), pkS m xss = m ∨ ∃ t ∈ xss, ∃ x ∈ t, absI x = pkS m xss
  | [], m => .inl rfl
  | u :: us, m => by
    have h := pkS_mem us (pkRow m u)
    show pkS (pkRow m u) us = m ∨ ∃ t ∈ u :: us, ∃ x ∈ t, absI x = pkS (pkRow m u) us
    rcases h with h | ⟨t, ht, x, hx, h⟩
    · rcases pkRow_mem u m with h1 | ⟨x, hx, h1⟩
      · exact .inl (by rw [h, h1])
      · exact .inr ⟨u, by simp, x, hx, by rw [h, h1]⟩
    · exact .inr ⟨t, by simp [ht], x, hx, h⟩
theorem chk_of_ok {r : Int} {xss : List (List Int)} (h : OkS r xss) : chkS r xss = 0 := by
  have h1 := h.few
  have h2 := h.long
  rw [chkS_rows h.rate h.some h1 h2]
  have : ∀ (l : List (List Int)) (m : Nat), (∀ t ∈ l, t.length = m ∧ t.all smpB = true) → chkT m l = 0 := by
    intro l
    induction l with
    | nil => intro m _; rfl
    | cons t ts ih =>
      intro m hm
      obtain ⟨a, b⟩ := hm t (by simp)
      rw [chkT, if_neg (by simp [a]), if_pos b]
      exact ih m (fun u hu => hm u (by simp [hu]))
  exact this xss (len0 xss) h.rows
theorem len0_map (f : Int → Int) (xss : List (List Int)) : len0 (xss.map (List.map f)) = len0 xss := by
  unfold len0
  cases xss with
  | nil => rfl
  | cons t ts => simp
theorem ok_mapped8 {r : Int} {xss : List (List Int)} (h : OkS r xss) (f : Int → Int) (hf : ∀ x, smpB (f x) = true) : OkS r (xss.map (List.map f)) := by
  have hl := len0_map f xss
  refine ⟨h.rate, by simpa using h.some, by simpa using h.few, by rw [hl]; exact h.long, fun t ht => ?_⟩
  obtain ⟨u, hu, rfl⟩ := List.mem_map.1 ht
  rw [hl]
  refine ⟨by rw [List.length_map]; exact (h.rows u hu).1, ?_⟩
  rw [List.all_eq_true]
  intro x hx
  obtain ⟨y, _, rfl⟩ := List.mem_map.1 hx
  exact hf y
theorem gnV_smp (q : Rat) (x : Int) : smpB (gnV q x) = true := smpB_mk (clipV_bd _).1 (clipV_bd _).2
theorem clipV_id {x : Int} (h1 : -8388608 ≤ x) (h2 : x ≤ 8388607) : clipV x = x := by unfold clipV; rw [if_neg (by omega), if_neg (by omega)]
/-- the peak of what is made normal -/
theorem norm_peak {xss : List (List Int)} {want pk : Int} (hpk : pkS 0 xss = pk) (hp : 0 < pk) (h1 : 1 ≤ want) (h2 : want ≤ 8388607) : pkS 0 (xss.map (List.map (gnV ((want : Rat) / pk)))) = want := by
  have key : ∀ x : Int, absI x ≤ pk → absI (gnV ((want : Rat) / pk) x) ≤ want ∧ (absI x = pk → absI (gnV ((want : Rat) / pk) x) = want) := by
    intro x hx
    rw [absI_nat] at hx
    have hz : (x * want).natAbs = x.natAbs * want.natAbs := Int.natAbs_mul _ _
    have hle : (x * want).natAbs ≤ pk.natAbs * want.natAbs := by rw [hz]; exact Nat.mul_le_mul_right _ (by omega)
    have hn := nearR_le (m := want.natAbs) (show 0 < pk.natAbs by omega) hle
    unfold gnV
    rw [near_prod _ _ _ hp]
    have hc : clipV (nearR (x * want) pk.natAbs) = nearR (x * want) pk.natAbs := clipV_id (by omega) (by omega)
    rw [hc]
    refine ⟨by rw [absI_nat]; omega, fun he => ?_⟩
    rw [absI_nat] at he
    have heq : (x * want).natAbs = pk.natAbs * want.natAbs := by rw [hz]; congr 1; omega
    rw [nearR_eq (show 0 < pk.natAbs by omega) heq, absI_nat]
    split <;> omega
  have hge := pkS_ge xss 0
  rw [hpk] at hge
  have hm := pkS_mem (xss.map (List.map (gnV ((want : Rat) / pk)))) 0
  have hg2 := pkS_ge (xss.map (List.map (gnV ((want : Rat) / pk)))) 0
  have hup : pkS 0 (xss.map (List.map (gnV ((want : Rat) / pk)))) ≤ want := by
    rcases hm with h | ⟨t, ht, x, hx, h⟩
    · omega
    · obtain ⟨u, hu, rfl⟩ := List.mem_map.1 ht
      obtain ⟨y, hy, rfl⟩ := List.mem_map.1 hx
      rw [← h]
      exact (key y (hge.2 u hu y hy)).1
  rcases pkS_mem xss 0 with h | ⟨t, ht, x, hx, h⟩
  · omega
  · rw [hpk] at h
    have h3 := (key x (by omega)).2 h
    have h4 := hg2.2 (t.map (gnV ((want : Rat) / pk))) (List.mem_map.2 ⟨t, ht, rfl⟩) (gnV ((want : Rat) / pk) x) (List.mem_map.2 ⟨x, hx, rfl⟩)
    omega
theorem gnV_one {x : Int} (h : smpB x = true) : gnV 1 x = x := by
  obtain ⟨h1, h2⟩ := smpB_yes h
  unfold gnV
  have e : nearQ ((x : Rat) * 1) = x := by
    rw [Rat.mul_one]
    unfold nearQ
    rw [Rat.num_intCast, Rat.den_intCast]
    have : (x.natAbs * 2 + 1) / (1 * 2) = x.natAbs := by omega
    rw [this]
    split <;> omega
  rw [e, clipV_id h1 h2]
theorem map_one {r : Int} {xss : List (List Int)} (h : OkS r xss) : xss.map (List.map (gnV 1)) = xss := by
  conv => rhs; rw [← List.map_id xss]
  refine List.map_congr_left fun t ht => ?_
  show t.map (gnV 1) = t
  conv => rhs; rw [← List.map_id t]
  exact List.map_congr_left fun x hx => gnV_one (h.smp t ht x hx)
theorem div_self1 {a : Int} (h : 1 ≤ a) : (a : Rat) / a = 1 := by
  have : (a : Rat) ≠ 0 := fun h' => by have := congrArg Rat.num h'; rw [Rat.num_intCast, Rat.zero_num] at this; omega
  rw [Rat.div_def, Rat.mul_inv_cancel _ this]
/-- what Normal answers: an error, or a sound with the peak, that stays -/
theorem norm_twice (r : Int) (xss : List (List Int)) (want : Int) :
    ((normS r xss want).flt ≠ 0 ∧ (normS r xss want).rows = []) ∨
    ((normS r xss want).flt = 0 ∧ peakS (normS r xss want).rate (normS r xss want).rows = (want, 0) ∧ normS (normS r xss want).rate (normS r xss want).rows want = ⟨(normS r xss want).rate, (normS r xss want).rows, ⟨#[49]⟩, ⟨#[49]⟩, 0⟩) := by
  by_cases hc : chkS r xss = 0
  · by_cases hb : want < 1 ∨ 8388607 < want
    · refine .inl ?_
      unfold normS
      rw [if_neg (by simp [hc]), if_pos hb]
      exact ⟨by decide, rfl⟩
    · by_cases hp : pkS 0 xss = 0
      · refine .inl ?_
        unfold normS
        rw [if_neg (by simp [hc]), if_neg hb, if_pos hp]
        exact ⟨by decide, rfl⟩
      · refine .inr ?_
        have hok := chkS_ok hc
        have hpos : 0 < pkS 0 xss := by have := (pkS_ge xss 0).1; omega
        have e : normS r xss want = ⟨r, xss.map (List.map (gnV ((want : Rat) / pkS 0 xss))), txN ((want : Rat) / pkS 0 xss), txD ((want : Rat) / pkS 0 xss), 0⟩ := by
          unfold normS
          rw [if_neg (by simp [hc]), if_neg hb, if_neg hp]
        rw [e]
        dsimp only
        have hok2 := ok_mapped8 hok (gnV ((want : Rat) / pkS 0 xss)) (gnV_smp _)
        have hc2 := chk_of_ok hok2
        have hpk2 := norm_peak (xss := xss) (want := want) rfl hpos (by omega) (by omega)
        refine ⟨rfl, ?_, ?_⟩
        · unfold peakS
          rw [if_neg (by simp [hc2]), hpk2]
        · generalize xss.map (List.map (gnV ((want : Rat) / pkS 0 xss))) = yss at hok2 hc2 hpk2 ⊢
          unfold normS
          rw [if_neg (by simp [hc2]), if_neg hb, if_neg (by rw [hpk2]; omega), hpk2, div_self1 (by omega), map_one hok2, tx_one.1, tx_one.2.1]
  · refine .inl ?_
    unfold normS
    rw [if_pos hc]
    exact ⟨hc, rfl⟩
end Go.Proofs.Ytnhmhjhfoonakaa
