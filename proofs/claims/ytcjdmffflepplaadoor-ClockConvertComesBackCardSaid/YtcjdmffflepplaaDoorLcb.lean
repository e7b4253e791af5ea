/- ClockConvertComesBack: the plain law and the walk. -/
import Derived.Test.YtcjdmffflepplaaDoorCcw
import Derived.Test.YtcjdmffflepplaaDoorAwk
set_option linter.unusedSimpArgs false
set_option linter.unusedVariables false
namespace Go.Proofs.YtcjdmffflepplaaDoor
open Go.RowKit Go.Dw
theorem near_scale (k x d : Nat) (hk : 0 < k) : (k * x * 2 + k * d) / (k * d * 2) = (x * 2 + d) / (d * 2) := by
  rw [show k * x * 2 + k * d = k * (x * 2 + d) by rw [Nat.mul_add, Nat.mul_assoc], show k * d * 2 = k * (d * 2) by rw [Nat.mul_assoc], Nat.mul_div_mul_left _ _ hk]
theorem nearQ_mkRat (z : Int) (d : Nat) (hd : 0 < d) : nearQ (mkRat z d) = if z < 0 then -(((z.natAbs * 2 + d) / (d * 2) : Nat) : Int) else (((z.natAbs * 2 + d) / (d * 2) : Nat) : Int) := by
  obtain ⟨h1, h2⟩ := mkRat_fields z d hd
  have hg : 0 < Nat.gcd z.natAbs d := Nat.gcd_pos_of_pos_right _ hd
  obtain ⟨h3, h4⟩ := div_gcd z (Nat.gcd z.natAbs d) hg (Nat.gcd_dvd_left _ _)
  unfold nearQ
  rw [h1, h2, h3]
  have e1 : z.natAbs = Nat.gcd z.natAbs d * (z.natAbs / Nat.gcd z.natAbs d) := (Nat.mul_div_cancel' (Nat.gcd_dvd_left _ _)).symm
  have e2 : d = Nat.gcd z.natAbs d * (d / Nat.gcd z.natAbs d) := (Nat.mul_div_cancel' (Nat.gcd_dvd_right _ _)).symm
  have e3 := near_scale (Nat.gcd z.natAbs d) (z.natAbs / Nat.gcd z.natAbs d) (d / Nat.gcd z.natAbs d) hg
  rw [← e1, ← e2] at e3
  rw [← e3]
  have e4 : (z / (Nat.gcd z.natAbs d : Int) < 0) ↔ z < 0 := decide_eq_decide.1 h4
  by_cases hz : z < 0
  · rw [if_pos hz, if_pos (e4.2 hz)]
  · rw [if_neg hz, if_neg (fun h => hz (e4.1 h))]
/-- back from a rate that is not less -/
theorem near_back (m lo hi : Nat) (h0 : 0 < lo) (h : lo ≤ hi) : ((m * hi * 2 + lo) / (lo * 2) * lo * 2 + hi) / (hi * 2) = m := by
  obtain ⟨a, ha⟩ : ∃ a, (m * hi * 2 + lo) / (lo * 2) = a := ⟨_, rfl⟩
  rw [ha]
  have h1 : a * (lo * 2) ≤ m * hi * 2 + lo := by rw [← ha]; exact Nat.div_mul_le_self _ _
  have h2 : m * hi * 2 + lo < (a + 1) * (lo * 2) := by rw [← ha]; exact Nat.lt_mul_of_div_lt (Nat.lt_succ_self _) (by omega)
  rw [Nat.add_mul, Nat.one_mul] at h2
  rw [show a * (lo * 2) = a * lo * 2 by rw [Nat.mul_assoc]] at h1 h2
  refine Nat.div_eq_of_lt_le ?_ ?_
  · rw [show m * (hi * 2) = m * hi * 2 by rw [Nat.mul_assoc]]
    omega
  · rw [Nat.add_mul, Nat.one_mul, show m * (hi * 2) = m * hi * 2 by rw [Nat.mul_assoc]]
    by_cases he : lo = hi
    · subst he
      have h3 : a ≤ m := by
        refine Nat.le_of_not_lt fun h9 => ?_
        have := Nat.mul_le_mul_right lo (show m + 1 ≤ a from h9)
        rw [Nat.add_mul, Nat.one_mul] at this
        omega
      have := Nat.mul_le_mul_right lo h3
      omega
    · omega
theorem conv_back (n lo hi : Int) (h : lo ≤ hi) (hc : (convS n lo hi 2).2 = 0) : convS (convS n lo hi 2).1 hi lo 2 = (n, 0) := by
  have h0 : convS n lo hi 2 = convS n lo hi 2 := rfl
  unfold convS at h0 hc
  by_cases hb : okPos n = false ∨ okRate lo = false ∨ okRate hi = false
  · rw [if_pos hb] at hc; exact absurd hc (by decide)
  · rw [if_neg hb] at hc
    rw [if_neg (show ¬ okWay 2 = false by decide)] at hc
    have hn : okPos n = true := by cases hh : okPos n <;> simp_all
    have hl : okRate lo = true := by cases hh : okRate lo <;> simp_all
    have hh : okRate hi = true := by cases hh : okRate hi <;> simp_all
    obtain ⟨p1, p2⟩ := okPos_le hn
    obtain ⟨f1, f2⟩ := okRate_le hl
    obtain ⟨t1, t2⟩ := okRate_le hh
    have he : convS n lo hi 2 = posI (nearQ (mkRat (n * hi) lo.natAbs)) := by
      unfold convS
      rw [if_neg hb, if_neg (show ¬ okWay 2 = false by decide)]
      rfl
    rw [he]
    have hr : roundQ (mkRat (n * hi) lo.natAbs) 2 = nearQ (mkRat (n * hi) lo.natAbs) := rfl
    rw [hr] at hc
    obtain ⟨x, hx⟩ : ∃ x, nearQ (mkRat (n * hi) lo.natAbs) = x := ⟨_, rfl⟩
    rw [hx] at hc ⊢
    have hxp : x.natAbs ≤ 10000000000000 := by
      unfold posI at hc
      split at hc
      · assumption
      · exact absurd hc (by decide)
    have hpx : posI x = (x, 0) := by unfold posI; rw [if_pos hxp]
    rw [hpx]
    show convS x hi lo 2 = (n, 0)
    have hox : okPos x = true := by unfold okPos; simp; omega
    unfold convS
    rw [if_neg (by rw [hox, hl, hh]; simp), if_neg (show ¬ okWay 2 = false by decide)]
    have hr2 : roundQ (mkRat (x * lo) hi.natAbs) 2 = nearQ (mkRat (x * lo) hi.natAbs) := rfl
    rw [hr2]
    rw [nearQ_mkRat _ _ (by omega)] at hx ⊢
    have hb2 := near_back n.natAbs lo.natAbs hi.natAbs (by omega) (by omega)
    rw [Int.natAbs_mul] at hx ⊢
    have hxn : x.natAbs = (n.natAbs * hi.natAbs * 2 + lo.natAbs) / (lo.natAbs * 2) := by
      rw [← hx]
      split
      · rw [Int.natAbs_neg, Int.natAbs_natCast]
      · rw [Int.natAbs_natCast]
    rw [hxn, hb2]
    have hsn : (n * hi < 0) ↔ n < 0 := ⟨fun h9 => by
      refine Int.lt_of_not_ge fun h8 => ?_
      have := Int.mul_nonneg h8 (show 0 ≤ hi by omega)
      omega, fun h9 => Int.mul_neg_of_neg_of_pos h9 (by omega)⟩
    have hsx : (x * lo < 0) ↔ x < 0 := ⟨fun h9 => by
      refine Int.lt_of_not_ge fun h8 => ?_
      have := Int.mul_nonneg h8 (show 0 ≤ lo by omega)
      omega, fun h9 => Int.mul_neg_of_neg_of_pos h9 (by omega)⟩
    have hres : (if x * lo < 0 then -((n.natAbs : Nat) : Int) else ((n.natAbs : Nat) : Int)) = n := by
      by_cases h9 : n < 0
      · have hx0 : n.natAbs ≠ 0 := by omega
        have hxz : x ≠ 0 := by
          intro h8
          rw [h8] at hxn
          rw [← hxn] at hb2
          simp at hb2
          rw [Nat.div_eq_of_lt (by omega)] at hb2
          omega
        have hxl : x < 0 := by
          rw [if_pos (hsn.2 h9)] at hx
          omega
        rw [if_pos (hsx.2 hxl)]
        omega
      · have hxl : ¬ x < 0 := by
          rw [if_neg (fun h8 => h9 (hsn.1 h8))] at hx
          omega
        rw [if_neg (fun h8 => hxl (hsx.1 h8))]
        omega
    rw [hres]
    unfold posI
    rw [if_pos (by omega)]
theorem conv_err (n lo hi way : Int) (hc : (convS n lo hi way).2 ≠ 0) : (convS n lo hi way).1 = 0 := by
  unfold convS at hc ⊢
  by_cases hb : okPos n = false ∨ okRate lo = false ∨ okRate hi = false
  · rw [if_pos hb]
  · rw [if_neg hb] at hc ⊢
    by_cases hw : okWay way = false
    · rw [if_pos hw]
    · rw [if_neg hw] at hc ⊢
      unfold posI at hc ⊢
      by_cases h : (roundQ (mkRat (n * hi) lo.natAbs) way).natAbs ≤ 10000000000000
      · rw [if_pos h] at hc; exact absurd rfl hc
      · rw [if_neg h]
set_option maxRecDepth 100000 in
set_option maxHeartbeats 1000000 in
theorem lawCB_le (n lo hi : Int) (a b : Int) (hsw : a = lo ∧ b = hi ∧ ¬ hi < lo ∨ a = hi ∧ b = lo ∧ hi > lo) (w : World) :
    Calls Tryd.prog 3 #[.int .i64 n, .int .i64 a, .int .i64 b] w fun e w' => e = .returned (.bool true) ∧ Below w.heap.size w w' := by
  have hle : lo ≤ hi := by omega
  have HBK := Lib.hid (conv_back n lo hi hle)
  have HER := Lib.hid (conv_err n lo hi 2)
  go_enter Tryd.func3, Tryd.ntmps3
  go_upto_if 12 with (fail)
  go_cut [0, 1, 2, 6] (fun (v0 v1 v2 v6 : Value) (wx : World) => v0 = .int .i64 n ∧ v1 = .int .i64 lo ∧ v2 = .int .i64 hi ∧ v6 = .bool false ∧ wx = w)
  case first =>
    clear hle HBK HER
    go_wp2_with fail
    · go_meet
      obtain ⟨rfl, rfl⟩ : a = hi ∧ b = lo := by omega
      exact ⟨rfl, rfl, rfl, rfl, rfl⟩
    · go_meet
      obtain ⟨rfl, rfl⟩ : a = lo ∧ b = hi := by omega
      exact ⟨rfl, rfl, rfl, rfl, rfl⟩
  clear hsw
  obtain ⟨rfl, rfl, rfl, rfl, rfl⟩ := hcut
  go_wp2_with fail
  refine (CONVERT_any n lo hi 2 _).mono ?_
  rintro e w1 ⟨rfl, hb1⟩
  have HB1 := Lib.hid hb1
  clear hb1
  obtain ⟨⟨a, f⟩, hv⟩ : ∃ x, convS n lo hi 2 = x := ⟨_, rfl⟩
  rw [hv] at HBK HER ⊢
  dsimp only at HBK HER ⊢
  clear hv
  by_cases hf : f = 0
  · have HB := Lib.hid (HBK.out hf)
    subst hf
    clear HBK HER
    go_wp2_with fail
    refine (CONVERT_any a hi lo 2 _).mono ?_
    rintro e w2 ⟨rfl, hb2⟩
    have HB2 := Lib.hid (HB1.out.trans (hb2.mono HB1.out.size))
    rw [HB.out]
    clear hb2
    go_wp2_with (go_at_call 8; refine (AWAKE_any _).mono ?_; rintro e w9 ⟨rfl, hb9⟩; have HB9 := Lib.hid hb9; clear hb9)
    go_ret
    exact ⟨rfl, HB2.out.trans (HB9.out.mono HB2.out.size)⟩
  · have ha : a = 0 := HER.out hf
    have hfb : (f == 0) = false := by simpa using hf
    subst ha
    clear HBK HER hf
    go_wp2_with (go_at_call 8; refine (AWAKE_any _).mono ?_; rintro e w9 ⟨rfl, hb9⟩; have HB9 := Lib.hid hb9; clear hb9)
    go_ret
    exact ⟨rfl, HB1.out.trans (HB9.out.mono HB1.out.size)⟩
theorem lawCB_walk (n a b : Int) (w : World) :
    Calls Tryd.prog 3 #[.int .i64 n, .int .i64 a, .int .i64 b] w fun e w' => e = .returned (.bool true) ∧ Below w.heap.size w w' := by
  by_cases h : b < a
  · exact lawCB_le n b a a b (.inr ⟨rfl, rfl, h⟩) w
  · exact lawCB_le n a b a b (.inl ⟨rfl, rfl, h⟩) w
end Go.Proofs.YtcjdmffflepplaaDoor
