/- The document's numbers: round. -/
import Derived.Test.YtocbogdjlapogaaGreatDoorYr
import Derived.Test.YtocbogdjlapogaaGreatDoorWg
import Derived.Test.YtocbogdjlapogaaGreatDoorYp
import Derived.Test.YtocbogdjlapogaaGreatDoorYm
set_option linter.unusedSimpArgs false
set_option linter.unusedVariables false
namespace Go.Proofs.YtocbogdjlapogaaGreatDoor
open Go.RowKit Go.Dw
def upR (q : Rat) (way : Int) : Bool := if way = 1 then decide (q.num < 0) && decide (0 < q.num.natAbs % q.den) else if way = 3 then !decide (q.num < 0) && decide (0 < q.num.natAbs % q.den) else decide (q.den ≤ q.num.natAbs % q.den + q.num.natAbs % q.den)
def absR (q : Rat) (way : Int) : Nat := q.num.natAbs / q.den + (if upR q way then 1 else 0)
theorem upR_1 (q : Rat) : upR q 1 = (decide (q.num < 0) && decide (0 < q.num.natAbs % q.den)) := by simp [upR]
theorem upR_2 (q : Rat) : upR q 2 = decide (q.den ≤ q.num.natAbs % q.den + q.num.natAbs % q.den) := by simp [upR]
theorem upR_3 (q : Rat) : upR q 3 = (!decide (q.num < 0) && decide (0 < q.num.natAbs % q.den)) := by simp [upR]
theorem near_up (N D : Nat) (hD : 0 < D) : (N * 2 + D) / (D * 2) = N / D + (if D ≤ N % D + N % D then 1 else 0) := by
  rcases near_mod N D hD with h | ⟨h, _⟩
  all_goals rw [h]
  all_goals
    have h1 := Nat.div_add_mod N D
    have h2 := Nat.mod_lt N hD
    have h3 := Nat.div_add_mod (N * 2 + D) (D * 2)
    have h4 := Nat.mod_lt (N * 2 + D) (show 0 < D * 2 by omega)
    rw [h] at h3
    generalize N / D = k at *
    generalize N % D = r at *
    generalize (N * 2 + D) % (D * 2) = s at *
  · have e : D * 2 * k = 2 * (D * k) := by rw [Nat.mul_comm D 2, Nat.mul_assoc]
    rw [e] at h3
    split
    · omega
    · rfl
  · have e : D * 2 * (k + 1) = 2 * (D * k) + 2 * D := by rw [Nat.mul_comm D 2, Nat.mul_assoc, Nat.mul_add, Nat.mul_add, Nat.mul_one]
    rw [e] at h3
    split
    · rfl
    · omega
theorem abs_round (q : Rat) (way : Int) (hw : okWay way = true) : (roundQ q way).natAbs = absR q way := by
  have hD := q.den_pos
  have h3 : way = 1 ∨ way = 2 ∨ way = 3 := by unfold okWay at hw; simp at hw; omega
  rcases h3 with rfl | rfl | rfl
  · show (q.floor).natAbs = _
    unfold absR
    rw [upR_1]
    by_cases h : q.num < 0
    · rw [floor_neg h, decide_eq_true h, Int.natAbs_neg, Int.natAbs_natCast]
      simp
    · rw [floor_pos h, decide_eq_false h, Int.natAbs_natCast]
      simp
  · show (nearQ q).natAbs = _
    unfold absR
    rw [upR_2]
    have h1 := near_up q.num.natAbs q.den hD
    have h2 : (nearQ q).natAbs = (q.num.natAbs * 2 + q.den) / (q.den * 2) := by
      unfold nearQ
      by_cases h : q.num < 0
      · rw [if_pos h, Int.natAbs_neg, Int.natAbs_natCast]
      · rw [if_neg h, Int.natAbs_natCast]
    rw [h2, h1]
    simp
  · show (q.ceil).natAbs = _
    unfold absR
    rw [upR_3]
    by_cases h : q.num < 0
    · rw [ceil_neg' (by omega), decide_eq_true h, Int.natAbs_neg, Int.natAbs_natCast]
      simp
    · rw [decide_eq_false h]
      by_cases h0 : 0 < q.num
      · rw [ceil_pos' h0, Int.natAbs_natCast]
        simp
      · have hz : q.num = 0 := by omega
        rw [ceil_neg' h0, Int.natAbs_neg, Int.natAbs_natCast, hz]
        simp
theorem round_sign (q : Rat) (way : Int) (hw : okWay way = true) : roundQ q way = sgnZ (decide (q.num < 0)) (roundQ q way).natAbs := by
  have h3 : way = 1 ∨ way = 2 ∨ way = 3 := by unfold okWay at hw; simp at hw; omega
  have hs : (q.num < 0 → roundQ q way ≤ 0) ∧ (¬ q.num < 0 → 0 ≤ roundQ q way) := by
    rcases h3 with rfl | rfl | rfl
    · refine ⟨fun h => ?_, fun h => ?_⟩
      · show q.floor ≤ 0; rw [floor_neg h]; exact Int.neg_nonpos_of_nonneg (Int.natCast_nonneg _)
      · show 0 ≤ q.floor; rw [floor_pos h]; exact Int.natCast_nonneg _
    · refine ⟨fun h => ?_, fun h => ?_⟩
      · show nearQ q ≤ 0; unfold nearQ; rw [if_pos h]; exact Int.neg_nonpos_of_nonneg (Int.natCast_nonneg _)
      · show 0 ≤ nearQ q; unfold nearQ; rw [if_neg h]; exact Int.natCast_nonneg _
    · refine ⟨fun h => ?_, fun h => ?_⟩
      · show q.ceil ≤ 0; rw [ceil_neg' (by omega)]; exact Int.neg_nonpos_of_nonneg (Int.natCast_nonneg _)
      · show 0 ≤ q.ceil
        by_cases h0 : 0 < q.num
        · rw [ceil_pos' h0]; exact Int.natCast_nonneg _
        · have hz : q.num = 0 := by omega
          rw [ceil_neg' h0, hz]; simp
  unfold sgnZ
  by_cases h : q.num < 0
  · have := hs.1 h
    rw [decide_eq_true h, if_pos rfl]; omega
  · have := hs.2 h
    rw [decide_eq_false h, if_neg (by simp)]; omega
end Go.Proofs.YtocbogdjlapogaaGreatDoor

/- The document's numbers: Int, Out. -/
set_option linter.unusedSimpArgs false
set_option linter.unusedVariables false
namespace Go.Proofs.YtocbogdjlapogaaGreatDoor
open Go.RowKit Go.Dw Go.Joins
theorem FMTUINT_any (u : Nat) (hu : u < 18446744073709551616) (w : World) (ht : Hid (TabAt w)) :
    Calls Tryz.prog 40 #[.int .u64 u, .int .i64 10] w fun e w' => e = .returned (.string ⟨(Lib.decDigits u).toArray⟩) ∧ Below w.heap.size w w' := by
  go_enter Tryz.func40, Tryz.ntmps40
  go_wp2_with (go_at_call 61; refine (IFMT_any u hu _ ht).mono ?_; rintro e w' ⟨rfl, hb1⟩; have HB1 := Lib.hid hb1; clear hb1)
  go_ret
  exact ⟨rfl, HB1.out⟩
theorem sgn_int (z : Int) : mkRat (sgnZ (decide (z < 0)) z.natAbs) 1 = (z : Rat) := by
  have : sgnZ (decide (z < 0)) z.natAbs = z := by
    unfold sgnZ
    by_cases h : z < 0
    · rw [decide_eq_true h, if_pos rfl]; omega
    · rw [decide_eq_false h, if_neg (by simp)]; omega
  rw [this]
  apply Rat.ext
  · rw [(rmk_fields z 1 (by omega)).1]; simp
  · rw [(rmk_fields z 1 (by omega)).2]; simp
set_option maxRecDepth 100000 in
set_option maxHeartbeats 1000000 in
theorem RINT_any (z : Int) (h1 : -9223372036854775808 ≤ z) (h2 : z ≤ 9223372036854775807) (w : World) (ht : Hid (TabAt w)) :
    Calls Tryz.prog 19 #[.int .i64 z] w (OutR w (z : Rat) 20 1) := by
  obtain ⟨W, gx, hW, hgx, HHW, HBW, HSW⟩ := rcell_new w 50 #[.bool false, .slice none 0 0, .slice none 0 0]
  have HGX := Lib.hid hgx
  have hgw := blk_lt HHW.out
  obtain ⟨u, hu⟩ : ∃ u, z.natAbs = u := ⟨_, rfl⟩
  obtain ⟨s, hs⟩ : ∃ s : ByteArray, s = ⟨(Lib.decDigits u).toArray⟩ := ⟨_, rfl⟩
  have HSD : Hid (AllDig s.data.toList) := by show AllDig _; rw [hs]; exact allDig_decDigits u
  have HSV : Hid (decV s.data.toList = u) := by show _ = _; rw [hs]; exact decV_decDigits u
  have hsz : s.size ≤ 20 := by rw [← len_data, hs]; exact dec_len 20 u (by omega) (by omega)
  have HQ := Lib.hid (sgn_int z)
  rw [hu] at HQ
  go_enter Tryz.func19, Tryz.ntmps19
  go_upto_region 1 with (fail)
  rw [← hW, ← hgx]
  clear hW hgx
  by_cases hz : z < 0
  · rw [decide_eq_true hz] at HQ
    have hn : IntKind.u64.wrap (-(IntKind.u64.wrap z)) = (u : Int) := by rw [IntKind.wrap_u64, IntKind.wrap_u64]; omega
    have hu9 : u < 18446744073709551616 := by omega
    go_wp2_with (go_at_call 40; refine (FMTUINT_any u hu9 _ (Lib.hid (ht.out.below HBW.out))).mono ?_; rintro e w1 ⟨rfl, hb1⟩; have HB1 := Lib.hid hb1; clear hb1)
    rw [← hs]
    refine (RLIMBS_any s HSD (by omega) _).mono ?_
    rintro e w2 ⟨A2, n2, c2, rfl, h2, k2, hb2⟩
    rw [HSV.out] at h2
    have H2 := Lib.hid h2
    have HB2 := Lib.hid (HB1.out.trans (hb2.mono HB1.out.size))
    clear h2 hb2 hs
    go_wp2_with fail
    have hb9 := blk1 w2 1
    obtain ⟨W3, hW3⟩ : ∃ W, W = w2.alloc (.cells #[.int .i64 1] 3) := ⟨_, rfl⟩
    have HB3 : Hid (Below w2.heap.size w2 W3) := by show Below _ _ _; rw [hW3]; exact (Below.refl _ _).alloc (Nat.le_refl _) _
    have H9 : Hid (LimAt W3 W3.heap.size (some ⟨w2.heap.size, 0, none⟩) 1 1 1) := by
      have hb8 : BlkN .i64 3 W3 w2.heap.size [1] := by rw [hW3]; exact hb9
      exact ⟨by omega, by simp [maxLen], [1], ⟨DigN.cons (by omega) (DigN.nil _), by simp⟩, by simp [valB], hb8.row hb8.lt⟩
    rw [← hW3]
    clear hW3 hb9
    refine (RLOWEST_any true A2 _ n2 c2 u 1 1 1 (by omega) (by omega) (by omega) _ W3.heap.size (Nat.le_refl _) (Lib.hid (H2.out.to HB3.out (Nat.le_refl _) HB3.out.size)) H9).mono ?_
    rintro e w4 ⟨ng4, A4, n4, c4, A5, n5, c5, rfl, h4, k4, k5, hb4⟩
    rw [HQ.out] at h4
    have H4 := Lib.hid h4
    have HB4 := Lib.hid (HB2.out.trans ((HB3.out.trans (hb4.mono HB3.out.size)).mono HB2.out.size))
    clear h4 hb4
    have hhx := (HB4.out.block gx hgw).trans HHW.out
    obtain ⟨hr0, hr1, hr2, hf0, hf1, hf2⟩ := r3_cells hhx
    have HHX := Lib.hid hhx
    clear hhx
    go_wp2_with fail
    exact end_rnum rfl rfl rfl hr0 hr1 hr2 (outR_set (q := (z : Rat)) H4.out.1 (by have := HGX.out; omega) ⟨_, _, HHX.out⟩ H4.out.2.1 H4.out.2.2 (HBW.out.trans (HB4.out.mono HBW.out.size)) (by omega) (by omega))
  · rw [decide_eq_false hz] at HQ
    have hn : IntKind.u64.wrap z = (u : Int) := by rw [IntKind.wrap_u64]; omega
    have hu9 : u < 18446744073709551616 := by omega
    go_wp2_with (go_at_call 40; refine (FMTUINT_any u hu9 _ (Lib.hid (ht.out.below HBW.out))).mono ?_; rintro e w1 ⟨rfl, hb1⟩; have HB1 := Lib.hid hb1; clear hb1)
    rw [← hs]
    refine (RLIMBS_any s HSD (by omega) _).mono ?_
    rintro e w2 ⟨A2, n2, c2, rfl, h2, k2, hb2⟩
    rw [HSV.out] at h2
    have H2 := Lib.hid h2
    have HB2 := Lib.hid (HB1.out.trans (hb2.mono HB1.out.size))
    clear h2 hb2 hs
    go_wp2_with fail
    have hb9 := blk1 w2 1
    obtain ⟨W3, hW3⟩ : ∃ W, W = w2.alloc (.cells #[.int .i64 1] 3) := ⟨_, rfl⟩
    have HB3 : Hid (Below w2.heap.size w2 W3) := by show Below _ _ _; rw [hW3]; exact (Below.refl _ _).alloc (Nat.le_refl _) _
    have H9 : Hid (LimAt W3 W3.heap.size (some ⟨w2.heap.size, 0, none⟩) 1 1 1) := by
      have hb8 : BlkN .i64 3 W3 w2.heap.size [1] := by rw [hW3]; exact hb9
      exact ⟨by omega, by simp [maxLen], [1], ⟨DigN.cons (by omega) (DigN.nil _), by simp⟩, by simp [valB], hb8.row hb8.lt⟩
    rw [← hW3]
    clear hW3 hb9
    refine (RLOWEST_any false A2 _ n2 c2 u 1 1 1 (by omega) (by omega) (by omega) _ W3.heap.size (Nat.le_refl _) (Lib.hid (H2.out.to HB3.out (Nat.le_refl _) HB3.out.size)) H9).mono ?_
    rintro e w4 ⟨ng4, A4, n4, c4, A5, n5, c5, rfl, h4, k4, k5, hb4⟩
    rw [HQ.out] at h4
    have H4 := Lib.hid h4
    have HB4 := Lib.hid (HB2.out.trans ((HB3.out.trans (hb4.mono HB3.out.size)).mono HB2.out.size))
    clear h4 hb4
    have hhx := (HB4.out.block gx hgw).trans HHW.out
    obtain ⟨hr0, hr1, hr2, hf0, hf1, hf2⟩ := r3_cells hhx
    have HHX := Lib.hid hhx
    clear hhx
    go_wp2_with fail
    exact end_rnum rfl rfl rfl hr0 hr1 hr2 (outR_set (q := (z : Rat)) H4.out.1 (by have := HGX.out; omega) ⟨_, _, HHX.out⟩ H4.out.2.1 H4.out.2.2 (HBW.out.trans (HB4.out.mono HBW.out.size)) (by omega) (by omega))
theorem load_ratio (w : World) (g : Nat) (v0 v1 : Value) (h0 : w.cell? ⟨g, 0, none⟩ = some v0) (h1 : w.cell? ⟨g, 1, none⟩ = some v1) :
    (loadVar 24 ⟨g, 0, none⟩).run Tryz.prog w = .ok (.agg #[v0, v1]) w := by
  simp [loadVar, go_sem, h0, h1]
theorem res_ratio1 {fn : Func} {p : Tmp} (h : fn.results = #[.cell p 24]) {tmps : Array Value} {w : World} {g : Nat} {v0 v1 : Value} (hp : tmps.getD p undef = .pointer (some ⟨g, 0, none⟩))
    (h0 : w.cell? ⟨g, 0, none⟩ = some v0) (h1 : w.cell? ⟨g, 1, none⟩ = some v1) : (results fn tmps).run Tryz.prog w = .ok (.agg #[v0, v1]) w := by
  have hp' : tmps[p]?.getD undef = .pointer (some ⟨g, 0, none⟩) := by simpa using hp
  simp [results, h, hp', asAddr, load_ratio w g v0 v1 h0 h1]
theorem end_ratio1 {fn : Func} {R : Ending → World → Prop} {a : Act} {w : World} {p : Tmp} {g : Nat} {v0 v1 o0 o1 : Value} (h : fn.results = #[.cell p 24]) (hp : a.tmps.getD p undef = .pointer (some ⟨g, 0, none⟩)) (hd : a.defers = []) (c0 : w.cell? ⟨g, 0, none⟩ = some o0) (c1 : w.cell? ⟨g, 1, none⟩ = some o1)
    (hR : R (.returned (.agg #[v0, v1])) ((w.setCell ⟨g, 0, none⟩ v0).setCell ⟨g, 1, none⟩ v1)) : bodyPost Tryz.prog fn R .ret a ((w.setCell ⟨g, 0, none⟩ v0).setCell ⟨g, 1, none⟩ v1) :=
  bodyPost_ret (res_ratio1 h hp (two_set' w g o0 o1 v0 v1 c0 c1).1 (two_set' w g o0 o1 v0 v1 c0 c1).2) hd hR
set_option maxRecDepth 100000 in
set_option maxHeartbeats 1000000 in
theorem ROUT_any (neg : Bool) (A D : Option Addr) (n c m d : Nat) (q : Rat) (hn : n ≤ 1000000) (hm : m ≤ 1000000) (w : World) (ht : Hid (TabAt w)) (B : Nat) (hB : B ≤ w.heap.size) (hh : Hid (NumR w B neg A n c D m d q)) :
    Calls Tryz.prog 24 #[.agg #[.bool neg, .slice A n c, .slice D m d]] w fun e w' => e = .returned (.agg #[.string (txN q), .string (txD q)]) ∧ Below w.heap.size w w' := by
  obtain ⟨W, gx, hW, hgx, HHW, HBW, HSW⟩ := boxes2 w (.cells #[.bool neg, .slice A n c, .slice D m d] 50) (.cells #[.string ⟨#[]⟩, .string ⟨#[]⟩] 24)
  have HGX := Lib.hid hgx
  obtain ⟨x0, x1, x2, _, _, _⟩ := three_cells HHW.out.1
  have hgw := blk_lt HHW.out.2
  have HHR := Lib.hid HHW.out.2
  have HRW := Lib.hid (hh.out.to HBW.out hB (by have := HSW.out; omega))
  have HNEG := Lib.hid hh.out.1
  have HLL : Hid ((Lib.decDigits q.num.natAbs).length ≤ 4 * n + 1) := by
    have h1 := hh.out.2.1.lt_pow
    show _ ≤ _
    refine dec_len _ _ (by omega) (Nat.lt_of_lt_of_le h1 ?_)
    rw [show (10000 : Nat) = 10 ^ 4 from rfl, ← Nat.pow_mul]
    exact Nat.pow_le_pow_right (by omega) (by omega)
  go_enter Tryz.func24, Tryz.ntmps24
  go_upto_region 1 with (fail)
  rw [← hW, ← hgx]
  clear hW hgx HHW
  obtain ⟨T, hT⟩ : ∃ T : ByteArray, T = ⟨(Lib.decDigits q.den).toArray⟩ := ⟨_, rfl⟩
  have HTX : Hid (txD q = T) := by show _ = _; rw [hT]; rfl
  obtain ⟨S, hS⟩ : ∃ T : ByteArray, T = ⟨(Lib.decDigits q.num.natAbs).toArray⟩ := ⟨_, rfl⟩
  have HSS : Hid (S.data.toList = Lib.decDigits q.num.natAbs) := by show _ = _; rw [hS]
  have hsl : S.size ≤ 4000001 := by rw [← len_data, HSS.out]; have := HLL.out; omega
  go_wp2_with fail
  refine (RDIGITS_any A n c _ hn _ W.heap.size (Nat.le_refl _) (Lib.hid (ht.out.below HBW.out)) (Lib.hid HRW.out.2.1)).mono ?_
  rintro e w1 ⟨rfl, hb1⟩
  obtain ⟨x0, x1, x2⟩ := three_keep (And.intro x0 (And.intro x1 x2)) hb1 (by dsimp only; omega) (by dsimp only; omega) (by dsimp only; omega)
  have HB1 := Lib.hid hb1
  clear hb1
  rw [← hS]
  cases neg with
  | true =>
    have hz : q.num < 0 := by have := HNEG.out; simpa using this
    have HNT : Hid (txN q = ⟨#[45]⟩ ++ S) := by
      show _ = _; unfold txN numT; rw [if_pos hz, ← HSS.out]
      apply ByteArray.ext
      simp [ByteArray.data_append]
    clear hz hS
    have h45 : (⟨#[45]⟩ : ByteArray).size = 1 := rfl
    go_wp2_with fail
    refine (RDIGITS_any D m d _ hm _ W.heap.size HB1.out.size (Lib.hid (ht.out.below (HBW.out.trans (HB1.out.mono HBW.out.size)))) (Lib.hid (HRW.out.2.2.below HB1.out (Nat.le_refl _)))).mono ?_
    rintro e w2 ⟨rfl, hb2⟩
    have HB2 := Lib.hid (HB1.out.trans (hb2.mono HB1.out.size))
    clear hb2
    have hhx := (HB2.out.block (gx + 1) hgw).trans HHR.out
    obtain ⟨hr0, hr1, hf0, hf1⟩ := two_cells hhx
    clear hhx
    rw [← hT]
    clear hT
    go_wp2_with fail
    exact end_ratio1 rfl rfl rfl hr0 hr1 ⟨by rw [HTX.out, HNT.out], set2_below' (HBW.out.trans (HB2.out.mono HBW.out.size)) (by have := HGX.out; omega)⟩
  | false =>
    have hz : ¬ q.num < 0 := by have := HNEG.out; simpa using this
    have HNT : Hid (txN q = S) := by show _ = _; unfold txN numT; rw [if_neg hz, List.nil_append, ← HSS.out]
    clear hz hS
    go_wp2_with fail
    refine (RDIGITS_any D m d _ hm _ W.heap.size HB1.out.size (Lib.hid (ht.out.below (HBW.out.trans (HB1.out.mono HBW.out.size)))) (Lib.hid (HRW.out.2.2.below HB1.out (Nat.le_refl _)))).mono ?_
    rintro e w2 ⟨rfl, hb2⟩
    have HB2 := Lib.hid (HB1.out.trans (hb2.mono HB1.out.size))
    clear hb2
    have hhx := (HB2.out.block (gx + 1) hgw).trans HHR.out
    obtain ⟨hr0, hr1, hf0, hf1⟩ := two_cells hhx
    clear hhx
    rw [← hT]
    clear hT
    go_wp2_with fail
    exact end_ratio1 rfl rfl rfl hr0 hr1 ⟨by rw [HTX.out, HNT.out], set2_below' (HBW.out.trans (HB2.out.mono HBW.out.size)) (by have := HGX.out; omega)⟩
end Go.Proofs.YtocbogdjlapogaaGreatDoor

/- The document's Round; Convert. -/
set_option linter.unusedSimpArgs false
set_option linter.unusedVariables false
namespace Go.Proofs.YtocbogdjlapogaaGreatDoor
open Go.RowKit Go.Dw Go.Joins
theorem parse_all : ∀ (l : List UInt8) (a : Nat), AllDig l → 10 ^ l.length * a + decV l < 18446744073709551616 → Lib.parseUint10 a l = .ok (10 ^ l.length * a + decV l)
  | [], a, _, _ => by simp [Lib.parseUint10, decV]
  | c :: l, a, h, hv => by
    have hc := h c (by simp)
    have e : 10 ^ (c :: l).length * a + decV (c :: l) = 10 ^ l.length * (a * 10 + (c.toNat - 48)) + decV l := by
      have h1 := decV_append [c] l
      rw [List.singleton_append] at h1
      have h2 : decV [c] = c.toNat - 48 := by simp [decV]
      rw [h1, h2, List.length_cons, Nat.pow_succ, Nat.mul_add, Nat.mul_assoc, Nat.mul_comm 10 a, Nat.add_assoc]
    rw [e] at hv ⊢
    have hp : 1 ≤ 10 ^ l.length := Nat.pow_pos (by omega)
    have h3 := Nat.mul_le_mul_right (a * 10 + (c.toNat - 48)) hp
    unfold Lib.parseUint10
    rw [if_pos hc, if_neg (by omega), if_neg (by omega)]
    exact parse_all l _ (fun x hx => h x (by simp [hx])) hv
theorem atoiAll_all {l : List UInt8} (h : AllDig l) (h0 : l ≠ []) (hv : decV l < 9223372036854775808) : Lib.atoiAll l = .ok (decV l : Int) := by
  cases l with
  | nil => exact absurd rfl h0
  | cons c r =>
    have hc := h c (by simp)
    unfold Lib.atoiAll
    dsimp only
    rw [if_neg (by omega)]
    unfold Lib.parseMag
    rw [if_neg (by simp), parse_all _ 0 h (by omega)]
    dsimp only
    rw [if_neg (by omega), if_neg (by omega), if_neg (by omega)]
    simp
theorem ATOI2_any (s : ByteArray) (hs : s.size ≤ 1000000) (h0 : 0 < s.size) (hd : Hid (AllDig s.data.toList)) (hv : decV s.data.toList < 9223372036854775808) (w : World) : Calls Tryz.prog 59 #[.string s] w fun e w' => e = .returned (.tuple #[.int .i64 (decV s.data.toList), .nilIface]) ∧ Below w.heap.size w w' :=
  (Tryz.strconv_Atoi_ok s (by omega) _ (atoiAll_all hd.out (by intro e; have := len_data s; rw [e] at this; simp at this; omega) hv) w).mono fun e w' ⟨h1, h2⟩ => ⟨h1, by
    rcases h2 with h2 | ⟨t, h2⟩
    · rw [h2]; exact Below.refl _ _
    · rw [h2]; exact below_bytesWorld _ _ _ _ (Nat.le_refl _)⟩
/-- the document's Round -/
def rndR (q : Rat) (way : Int) (most : Nat) : Int × Bool := if (roundQ q way).natAbs ≤ most then (roundQ q way, true) else (0, false)
end Go.Proofs.YtocbogdjlapogaaGreatDoor
