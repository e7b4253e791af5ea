/- The document's numbers: Int, Out. -/
import Derived.Test.YtcjdmffflepplaaGreatDoorYp
import Derived.Test.YtcjdmffflepplaaGreatDoorRf
import Derived.Test.YtcjdmffflepplaaGreatDoorYm
set_option linter.unusedSimpArgs false
set_option linter.unusedVariables false
namespace Go.Proofs.YtcjdmffflepplaaGreatDoor
open Go.RowKit Go.Dw Go.Joins
theorem FMTUINT_any (u : Nat) (hu : u < 18446744073709551616) (w : World) (ht : Hid (TabAt w)) :
    Calls Tryz.prog 79 #[.int .u64 u, .int .i64 10] w fun e w' => e = .returned (.string ⟨(Lib.decDigits u).toArray⟩) ∧ Below w.heap.size w w' := by
  go_enter Tryz.func79, Tryz.ntmps79
  go_wp2_with (go_at_call 113; refine (IFMT_any u hu _ ht).mono ?_; rintro e w' ⟨rfl, hb1⟩; have HB1 := Lib.hid hb1; clear hb1)
  go_ret
  exact ⟨rfl, HB1.out⟩
theorem sgn_int (z : Int) : mkRat (sgnZ (decide (z < 0)) z.natAbs) 1 = (z : Rat) := by
  have : sgnZ (decide (z < 0)) z.natAbs = z := by
    unfold sgnZ
    by_cases h : z < 0
    · rw [decide_eq_true h, if_pos rfl]; omega
    · rw [decide_eq_false h, if_neg (by simp)]; omega
  rw [this]
  apply Rat.ext
  · rw [(rmk_fields z 1 (by omega)).1]; simp
  · rw [(rmk_fields z 1 (by omega)).2]; simp
set_option maxRecDepth 100000 in
set_option maxHeartbeats 1000000 in
theorem RINT_any (z : Int) (h1 : -9223372036854775808 ≤ z) (h2 : z ≤ 9223372036854775807) (w : World) (ht : Hid (TabAt w)) :
    Calls Tryz.prog 37 #[.int .i64 z] w (OutR w (z : Rat) 20 1) := by
  obtain ⟨W, gx, hW, hgx, HHW, HBW, HSW⟩ := rcell_new w 55 #[.bool false, .slice none 0 0, .slice none 0 0]
  have HGX := Lib.hid hgx
  have hgw := blk_lt HHW.out
  obtain ⟨u, hu⟩ : ∃ u, z.natAbs = u := ⟨_, rfl⟩
  obtain ⟨s, hs⟩ : ∃ s : ByteArray, s = ⟨(Lib.decDigits u).toArray⟩ := ⟨_, rfl⟩
  have HSD : Hid (AllDig s.data.toList) := by show AllDig _; rw [hs]; exact allDig_decDigits u
  have HSV : Hid (decV s.data.toList = u) := by show _ = _; rw [hs]; exact decV_decDigits u
  have hsz : s.size ≤ 20 := by rw [← len_data, hs]; exact dec_len 20 u (by omega) (by omega)
  have HQ := Lib.hid (sgn_int z)
  rw [hu] at HQ
  go_enter Tryz.func37, Tryz.ntmps37
  go_upto_region 1 with (fail)
  rw [← hW, ← hgx]
  clear hW hgx
  by_cases hz : z < 0
  · rw [decide_eq_true hz] at HQ
    have hn : IntKind.u64.wrap (-(IntKind.u64.wrap z)) = (u : Int) := by rw [IntKind.wrap_u64, IntKind.wrap_u64]; omega
    have hu9 : u < 18446744073709551616 := by omega
    go_wp2_with (go_at_call 79; refine (FMTUINT_any u hu9 _ (Lib.hid (ht.out.below HBW.out))).mono ?_; rintro e w1 ⟨rfl, hb1⟩; have HB1 := Lib.hid hb1; clear hb1)
    rw [← hs]
    refine (RLIMBS_any s HSD (by omega) _).mono ?_
    rintro e w2 ⟨A2, n2, c2, rfl, h2, k2, hb2⟩
    rw [HSV.out] at h2
    have H2 := Lib.hid h2
    have HB2 := Lib.hid (HB1.out.trans (hb2.mono HB1.out.size))
    clear h2 hb2 hs
    go_wp2_with fail
    have hb9 := blk1 w2 1
    obtain ⟨W3, hW3⟩ : ∃ W, W = w2.alloc (.cells #[.int .i64 1] 3) := ⟨_, rfl⟩
    have HB3 : Hid (Below w2.heap.size w2 W3) := by show Below _ _ _; rw [hW3]; exact (Below.refl _ _).alloc (Nat.le_refl _) _
    have H9 : Hid (LimAt W3 W3.heap.size (some ⟨w2.heap.size, 0, none⟩) 1 1 1) := by
      have hb8 : BlkN .i64 3 W3 w2.heap.size [1] := by rw [hW3]; exact hb9
      exact ⟨by omega, by simp [maxLen], [1], ⟨DigN.cons (by omega) (DigN.nil _), by simp⟩, by simp [valB], hb8.row hb8.lt⟩
    rw [← hW3]
    clear hW3 hb9
    refine (RLOWEST_any true A2 _ n2 c2 u 1 1 1 (by omega) (by omega) (by omega) _ W3.heap.size (Nat.le_refl _) (Lib.hid (H2.out.to HB3.out (Nat.le_refl _) HB3.out.size)) H9).mono ?_
    rintro e w4 ⟨ng4, A4, n4, c4, A5, n5, c5, rfl, h4, k4, k5, hb4⟩
    rw [HQ.out] at h4
    have H4 := Lib.hid h4
    have HB4 := Lib.hid (HB2.out.trans ((HB3.out.trans (hb4.mono HB3.out.size)).mono HB2.out.size))
    clear h4 hb4
    have hhx := (HB4.out.block gx hgw).trans HHW.out
    obtain ⟨hr0, hr1, hr2, hf0, hf1, hf2⟩ := r3_cells hhx
    have HHX := Lib.hid hhx
    clear hhx
    go_wp2_with fail
    exact end_rnum rfl rfl rfl hr0 hr1 hr2 (outR_set (q := (z : Rat)) H4.out.1 (by have := HGX.out; omega) ⟨_, _, HHX.out⟩ H4.out.2.1 H4.out.2.2 (HBW.out.trans (HB4.out.mono HBW.out.size)) (by omega) (by omega))
  · rw [decide_eq_false hz] at HQ
    have hn : IntKind.u64.wrap z = (u : Int) := by rw [IntKind.wrap_u64]; omega
    have hu9 : u < 18446744073709551616 := by omega
    go_wp2_with (go_at_call 79; refine (FMTUINT_any u hu9 _ (Lib.hid (ht.out.below HBW.out))).mono ?_; rintro e w1 ⟨rfl, hb1⟩; have HB1 := Lib.hid hb1; clear hb1)
    rw [← hs]
    refine (RLIMBS_any s HSD (by omega) _).mono ?_
    rintro e w2 ⟨A2, n2, c2, rfl, h2, k2, hb2⟩
    rw [HSV.out] at h2
    have H2 := Lib.hid h2
    have HB2 := Lib.hid (HB1.out.trans (hb2.mono HB1.out.size))
    clear h2 hb2 hs
    go_wp2_with fail
    have hb9 := blk1 w2 1
    obtain ⟨W3, hW3⟩ : ∃ W, W = w2.alloc (.cells #[.int .i64 1] 3) := ⟨_, rfl⟩
    have HB3 : Hid (Below w2.heap.size w2 W3) := by show Below _ _ _; rw [hW3]; exact (Below.refl _ _).alloc (Nat.le_refl _) _
    have H9 : Hid (LimAt W3 W3.heap.size (some ⟨w2.heap.size, 0, none⟩) 1 1 1) := by
      have hb8 : BlkN .i64 3 W3 w2.heap.size [1] := by rw [hW3]; exact hb9
      exact ⟨by omega, by simp [maxLen], [1], ⟨DigN.cons (by omega) (DigN.nil _), by simp⟩, by simp [valB], hb8.row hb8.lt⟩
    rw [← hW3]
    clear hW3 hb9
    refine (RLOWEST_any false A2 _ n2 c2 u 1 1 1 (by omega) (by omega) (by omega) _ W3.heap.size (Nat.le_refl _) (Lib.hid (H2.out.to HB3.out (Nat.le_refl _) HB3.out.size)) H9).mono ?_
    rintro e w4 ⟨ng4, A4, n4, c4, A5, n5, c5, rfl, h4, k4, k5, hb4⟩
    rw [HQ.out] at h4
    have H4 := Lib.hid h4
    have HB4 := Lib.hid (HB2.out.trans ((HB3.out.trans (hb4.mono HB3.out.size)).mono HB2.out.size))
    clear h4 hb4
    have hhx := (HB4.out.block gx hgw).trans HHW.out
    obtain ⟨hr0, hr1, hr2, hf0, hf1, hf2⟩ := r3_cells hhx
    have HHX := Lib.hid hhx
    clear hhx
    go_wp2_with fail
    exact end_rnum rfl rfl rfl hr0 hr1 hr2 (outR_set (q := (z : Rat)) H4.out.1 (by have := HGX.out; omega) ⟨_, _, HHX.out⟩ H4.out.2.1 H4.out.2.2 (HBW.out.trans (HB4.out.mono HBW.out.size)) (by omega) (by omega))
theorem load_ratio (w : World) (g : Nat) (v0 v1 : Value) (h0 : w.cell? ⟨g, 0, none⟩ = some v0) (h1 : w.cell? ⟨g, 1, none⟩ = some v1) :
    (loadVar 28 ⟨g, 0, none⟩).run Tryz.prog w = .ok (.agg #[v0, v1]) w := by
  simp [loadVar, go_sem, h0, h1]
theorem res_ratio1 {fn : Func} {p : Tmp} (h : fn.results = #[.cell p 28]) {tmps : Array Value} {w : World} {g : Nat} {v0 v1 : Value} (hp : tmps.getD p undef = .pointer (some ⟨g, 0, none⟩))
    (h0 : w.cell? ⟨g, 0, none⟩ = some v0) (h1 : w.cell? ⟨g, 1, none⟩ = some v1) : (results fn tmps).run Tryz.prog w = .ok (.agg #[v0, v1]) w := by
  have hp' : tmps[p]?.getD undef = .pointer (some ⟨g, 0, none⟩) := by simpa using hp
  simp [results, h, hp', asAddr, load_ratio w g v0 v1 h0 h1]
theorem end_ratio1 {fn : Func} {R : Ending → World → Prop} {a : Act} {w : World} {p : Tmp} {g : Nat} {v0 v1 o0 o1 : Value} (h : fn.results = #[.cell p 28]) (hp : a.tmps.getD p undef = .pointer (some ⟨g, 0, none⟩)) (hd : a.defers = []) (c0 : w.cell? ⟨g, 0, none⟩ = some o0) (c1 : w.cell? ⟨g, 1, none⟩ = some o1)
    (hR : R (.returned (.agg #[v0, v1])) ((w.setCell ⟨g, 0, none⟩ v0).setCell ⟨g, 1, none⟩ v1)) : bodyPost Tryz.prog fn R .ret a ((w.setCell ⟨g, 0, none⟩ v0).setCell ⟨g, 1, none⟩ v1) :=
  bodyPost_ret (res_ratio1 h hp (two_set' w g o0 o1 v0 v1 c0 c1).1 (two_set' w g o0 o1 v0 v1 c0 c1).2) hd hR
set_option maxRecDepth 100000 in
set_option maxHeartbeats 1000000 in
theorem ROUT_any (neg : Bool) (A D : Option Addr) (n c m d : Nat) (q : Rat) (hn : n ≤ 1000000) (hm : m ≤ 1000000) (w : World) (ht : Hid (TabAt w)) (B : Nat) (hB : B ≤ w.heap.size) (hh : Hid (NumR w B neg A n c D m d q)) :
    Calls Tryz.prog 67 #[.agg #[.bool neg, .slice A n c, .slice D m d]] w fun e w' => e = .returned (.agg #[.string (txN q), .string (txD q)]) ∧ Below w.heap.size w w' := by
  obtain ⟨W, gx, hW, hgx, HHW, HBW, HSW⟩ := boxes2 w (.cells #[.bool neg, .slice A n c, .slice D m d] 55) (.cells #[.string ⟨#[]⟩, .string ⟨#[]⟩] 28)
  have HGX := Lib.hid hgx
  obtain ⟨x0, x1, x2, _, _, _⟩ := three_cells HHW.out.1
  have hgw := blk_lt HHW.out.2
  have HHR := Lib.hid HHW.out.2
  have HRW := Lib.hid (hh.out.to HBW.out hB (by have := HSW.out; omega))
  have HNEG := Lib.hid hh.out.1
  have HLL : Hid ((Lib.decDigits q.num.natAbs).length ≤ 4 * n + 1) := by
    have h1 := hh.out.2.1.lt_pow
    show _ ≤ _
    refine dec_len _ _ (by omega) (Nat.lt_of_lt_of_le h1 ?_)
    rw [show (10000 : Nat) = 10 ^ 4 from rfl, ← Nat.pow_mul]
    exact Nat.pow_le_pow_right (by omega) (by omega)
  go_enter Tryz.func67, Tryz.ntmps67
  go_upto_region 1 with (fail)
  rw [← hW, ← hgx]
  clear hW hgx HHW
  obtain ⟨T, hT⟩ : ∃ T : ByteArray, T = ⟨(Lib.decDigits q.den).toArray⟩ := ⟨_, rfl⟩
  have HTX : Hid (txD q = T) := by show _ = _; rw [hT]; rfl
  obtain ⟨S, hS⟩ : ∃ T : ByteArray, T = ⟨(Lib.decDigits q.num.natAbs).toArray⟩ := ⟨_, rfl⟩
  have HSS : Hid (S.data.toList = Lib.decDigits q.num.natAbs) := by show _ = _; rw [hS]
  have hsl : S.size ≤ 4000001 := by rw [← len_data, HSS.out]; have := HLL.out; omega
  go_wp2_with fail
  refine (RDIGITS_any A n c _ hn _ W.heap.size (Nat.le_refl _) (Lib.hid (ht.out.below HBW.out)) (Lib.hid HRW.out.2.1)).mono ?_
  rintro e w1 ⟨rfl, hb1⟩
  obtain ⟨x0, x1, x2⟩ := three_keep (And.intro x0 (And.intro x1 x2)) hb1 (by dsimp only; omega) (by dsimp only; omega) (by dsimp only; omega)
  have HB1 := Lib.hid hb1
  clear hb1
  rw [← hS]
  cases neg with
  | true =>
    have hz : q.num < 0 := by have := HNEG.out; simpa using this
    have HNT : Hid (txN q = ⟨#[45]⟩ ++ S) := by
      show _ = _; unfold txN numT; rw [if_pos hz, ← HSS.out]
      apply ByteArray.ext
      simp [ByteArray.data_append]
    clear hz hS
    have h45 : (⟨#[45]⟩ : ByteArray).size = 1 := rfl
    go_wp2_with fail
    refine (RDIGITS_any D m d _ hm _ W.heap.size HB1.out.size (Lib.hid (ht.out.below (HBW.out.trans (HB1.out.mono HBW.out.size)))) (Lib.hid (HRW.out.2.2.below HB1.out (Nat.le_refl _)))).mono ?_
    rintro e w2 ⟨rfl, hb2⟩
    have HB2 := Lib.hid (HB1.out.trans (hb2.mono HB1.out.size))
    clear hb2
    have hhx := (HB2.out.block (gx + 1) hgw).trans HHR.out
    obtain ⟨hr0, hr1, hf0, hf1⟩ := two_cells hhx
    clear hhx
    rw [← hT]
    clear hT
    go_wp2_with fail
    exact end_ratio1 rfl rfl rfl hr0 hr1 ⟨by rw [HTX.out, HNT.out], set2_below' (HBW.out.trans (HB2.out.mono HBW.out.size)) (by have := HGX.out; omega)⟩
  | false =>
    have hz : ¬ q.num < 0 := by have := HNEG.out; simpa using this
    have HNT : Hid (txN q = S) := by show _ = _; unfold txN numT; rw [if_neg hz, List.nil_append, ← HSS.out]
    clear hz hS
    go_wp2_with fail
    refine (RDIGITS_any D m d _ hm _ W.heap.size HB1.out.size (Lib.hid (ht.out.below (HBW.out.trans (HB1.out.mono HBW.out.size)))) (Lib.hid (HRW.out.2.2.below HB1.out (Nat.le_refl _)))).mono ?_
    rintro e w2 ⟨rfl, hb2⟩
    have HB2 := Lib.hid (HB1.out.trans (hb2.mono HB1.out.size))
    clear hb2
    have hhx := (HB2.out.block (gx + 1) hgw).trans HHR.out
    obtain ⟨hr0, hr1, hf0, hf1⟩ := two_cells hhx
    clear hhx
    rw [← hT]
    clear hT
    go_wp2_with fail
    exact end_ratio1 rfl rfl rfl hr0 hr1 ⟨by rw [HTX.out, HNT.out], set2_below' (HBW.out.trans (HB2.out.mono HBW.out.size)) (by have := HGX.out; omega)⟩
end Go.Proofs.YtcjdmffflepplaaGreatDoor
