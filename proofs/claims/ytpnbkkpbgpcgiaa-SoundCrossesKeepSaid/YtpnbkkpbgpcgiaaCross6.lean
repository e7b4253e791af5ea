/- The law CrossesKeep, walked. -/
import Derived.Test.YtpnbkkpbgpcgiaaCross4
import Derived.Test.YtpnbkkpbgpcgiaaCutJ
import Derived.Test.YtpnbkkpbgpcgiaaSilence
import Derived.Test.YtpnbkkpbgpcgiaaLong
import Derived.Test.YtpnbkkpbgpcgiaaMix2
import Derived.Test.YtpnbkkpbgpcgiaaLift
set_option linter.unusedSimpArgs false
set_option linter.unusedVariables false
namespace Go.Proofs.Ytpnbkkpbgpcgiaa
open Go.RowKit Go.Dw
theorem clipR_zero : ∀ {xs : List Int}, (∀ x ∈ xs, -8388608 ≤ x ∧ x ≤ 8388607) → stR clipU 0 xs = 0
  | [], _ => rfl
  | x :: xs, h => by
    have hx := h x (by simp)
    show stR clipU (clipU 0 x) xs = 0
    rw [show clipU 0 x = 0 by unfold clipU; rw [(clipN_smp hx.1 hx.2).1]; rfl]
    exact clipR_zero fun y hy => h y (by simp [hy])
theorem clipC_zero : ∀ {T : List (List Int)}, (∀ t ∈ T, ∀ x ∈ t, -8388608 ≤ x ∧ x ≤ 8388607) → stS clipU 0 T = 0
  | [], _ => rfl
  | t :: T, h => by
    show stS clipU (stR clipU 0 t) T = 0
    rw [clipR_zero (h t (by simp))]
    exact clipC_zero fun u hu => h u (by simp [hu])
theorem clipS_id {T : List (List Int)} (h : ∀ t ∈ T, ∀ x ∈ t, -8388608 ≤ x ∧ x ≤ 8388607) : clipS T = T := by
  have e : clipS T = T.map id := List.map_congr_left fun t ht => by
    show t.map clipV = t
    have e2 : t.map clipV = t.map id := List.map_congr_left fun x hx => (clipN_smp (h t ht x hx).1 (h t ht x hx).2).2
    rw [e2, List.map_id]
  rw [e, List.map_id]
theorem crT_zero {r : Int} {xss yss : List (List Int)} (hx : OkS r xss) (hy : OkS r yss) (hl : xss.length = yss.length) : crT xss yss 0 3 = jnK xss yss xss.length := by
  refine ext_rows (by rw [jnK_length]; exact mtx_length) fun k hk => ?_
  have hk' : k < xss.length := by rw [show (crT xss yss 0 3).length = xss.length from mtx_length] at hk; exact hk
  have hkx := (hx.row hk').1
  have hky := (hy.row (show k < yss.length by omega)).1
  rw [jnK_row hk']
  have hln : (rowOf (crT xss yss 0 3) k).length = len0 xss + len0 yss := mtx_len hk'
  refine ext_el (by rw [hln, List.length_append, hkx, hky]) fun i hi => ?_
  rw [hln] at hi
  have he : elOf (rowOf (crT xss yss 0 3) k) i = crV xss yss (len0 xss) 0 3 k i := mtx_el hk' (by omega)
  rw [he]
  by_cases h : i < len0 xss
  · rw [crV_a (by omega), elOf_lt (by omega), elOf_lt (by rw [List.length_append]; omega), List.getElem_append_left (by omega)]
  · rw [crV_b (by omega) (by omega), elOf_lt (by omega), elOf_lt (by rw [List.length_append]; omega), List.getElem_append_right (by omega)]
    congr 1; omega
theorem jnK_smp {r : Int} {xss yss : List (List Int)} (hx : OkS r xss) (hy : OkS r yss) (hl : xss.length = yss.length) : ∀ t ∈ jnK xss yss xss.length, ∀ x ∈ t, -8388608 ≤ x ∧ x ≤ 8388607 := by
  intro t ht x hxt
  unfold jnK at ht
  obtain ⟨a, ha, rfl⟩ := List.mem_map.1 ht
  have ha' := List.mem_range.1 ha
  rcases List.mem_append.1 hxt with h | h
  · exact smpB_yes (List.all_eq_true.1 (hx.row ha').2 _ h)
  · exact smpB_yes (List.all_eq_true.1 (hy.row (show a < yss.length by omega)).2 _ h)
theorem crS_zero (r r' : Int) (xss yss : List (List Int)) : crS r r' 0 3 xss yss = ((joinS r r' xss yss).1, (joinS r r' xss yss).2.1, 0, (joinS r r' xss yss).2.2) := by
  by_cases hc : both2 r r' xss yss = 0
  · obtain ⟨h1, rfl, h3⟩ := both2_zero hc
    obtain ⟨hok, hok'⟩ := both1_zero h1
    have hJ : joinS r r xss yss = if 100000 < len0 xss + len0 yss then (0, [], 2) else (r, jnK xss yss xss.length, 0) := if_neg (by simp [hc])
    have hC : crS r r 0 3 xss yss = if (100000 : Int) < len0 xss + len0 yss - 0 then (0, [], 0, 2) else (r, clipS (crT xss yss 0 3), stS clipU 0 (crT xss yss 0 3), 0) := by
      unfold crS
      rw [if_neg (by simp [hc]), if_neg (by omega), if_neg (by decide)]
      rfl
    rw [hJ, hC]
    by_cases hL : 100000 < len0 xss + len0 yss
    · rw [if_pos hL, if_pos (by omega)]
    · rw [if_neg hL, if_neg (by omega), crT_zero hok hok' h3, clipS_id (jnK_smp hok hok' h3), clipC_zero (jnK_smp hok hok' h3)]
  · have hJ : joinS r r' xss yss = (0, [], both2 r r' xss yss) := if_pos hc
    have hC : crS r r' 0 3 xss yss = (0, [], 0, both2 r r' xss yss) := if_pos hc
    rw [hJ, hC]
theorem constK_ok {x : Int} (h1 : -8388608 ≤ x) (h2 : x ≤ 8388607) : OkS 1 [List.replicate 20 x] :=
  ⟨by decide, by simp, by simp, by simp [len0], fun t ht => by
    obtain rfl : t = List.replicate 20 x := by simpa using ht
    refine ⟨by simp [len0], List.all_eq_true.2 fun y hy => ?_⟩
    rw [(List.mem_replicate.1 hy).2]
    exact smpB_mk h1 h2⟩
theorem crS_const {x : Int} {m : Nat} (h1 : -8388608 ≤ x) (h2 : x ≤ 8388607) (hm : m ≤ 20) : crS 1 1 m 1 [List.replicate 20 x] [List.replicate 20 x] = (1, [List.replicate (40 - m) x], 0, 0) := by
  have hok := constK_ok h1 h2
  have hb : both2 1 1 [List.replicate 20 x] [List.replicate 20 x] = 0 := by
    unfold both2 both1 alikeB
    rw [chkS_mk hok]
    simp
  have hl : len0 [List.replicate 20 x] = 20 := by simp [len0]
  have hT : crT [List.replicate 20 x] [List.replicate 20 x] m 1 = [List.replicate (40 - m) x] := by
    refine ext_rows mtx_length fun k hk => ?_
    have hk' : k < 1 := by rw [show (crT [List.replicate 20 x] [List.replicate 20 x] m 1).length = 1 from mtx_length] at hk; exact hk
    obtain rfl : k = 0 := by omega
    have hln : (rowOf (crT [List.replicate 20 x] [List.replicate 20 x] m 1) 0).length = 40 - m := by
      have := mtx_len (f := crV [List.replicate 20 x] [List.replicate 20 x] (len0 [List.replicate 20 x]) m 1) (n := 1) (m := len0 [List.replicate 20 x] + len0 [List.replicate 20 x] - m) hk'
      rw [hl] at this
      exact this
    have hr : rowOf [List.replicate (40 - m) x] 0 = List.replicate (40 - m) x := rfl
    rw [hr]
    refine ext_el (by rw [hln]; simp) fun i hi => ?_
    rw [hln] at hi
    have he : elOf (rowOf (crT [List.replicate 20 x] [List.replicate 20 x] m 1) 0) i = crV [List.replicate 20 x] [List.replicate 20 x] 20 m 1 0 i := by
      have := mtx_el (f := crV [List.replicate 20 x] [List.replicate 20 x] (len0 [List.replicate 20 x]) m 1) (n := 1) (m := len0 [List.replicate 20 x] + len0 [List.replicate 20 x] - m) (i := i) hk' (by rw [hl]; omega)
      rw [hl] at this
      exact this
    have hx : ∀ j, j < 20 → elOf (rowOf [List.replicate 20 x] 0) j = x := fun j hj => by
      show elOf (List.replicate 20 x) j = x
      rw [elOf_lt (by rw [List.length_replicate]; omega), List.getElem_replicate]
    rw [he, elOf_lt (by rw [List.length_replicate]; omega), List.getElem_replicate]
    by_cases a1 : i < 20 - m
    · rw [crV_a a1, hx i (by omega)]
    · by_cases a2 : i < 20
      · obtain ⟨j, rfl⟩ : ∃ j, i = 20 - m + j := ⟨i - (20 - m), by omega⟩
        rw [crV_x hm (by omega), hx _ a2, hx j (by omega)]
        exact cross_const (by omega) (by omega)
      · rw [crV_b hm (by omega), hx _ (by omega)]
  have hs : ∀ t ∈ [List.replicate (40 - m) x], ∀ y ∈ t, -8388608 ≤ y ∧ y ≤ 8388607 := by
    intro t ht y hy
    obtain rfl : t = List.replicate (40 - m) x := by simpa using ht
    rw [(List.mem_replicate.1 hy).2]; exact ⟨h1, h2⟩
  unfold crS
  rw [if_neg (fun h => h hb), hl, if_neg (by omega), if_neg (by decide), if_neg (by omega), Int.toNat_natCast, hT, clipS_id hs, clipC_zero hs]
attribute [local go_sem ↓] Go.wp_at_zero Go.wp_at_succ
theorem rep_el {m k : Nat} {x : Int} (hk : k < m) : elOf (rowOf [List.replicate m x] 0) k = x := by
  show elOf (List.replicate m x) k = x
  rw [elOf_lt (by rw [List.length_replicate]; omega), List.getElem_replicate]
set_option maxRecDepth 100000 in
set_option maxHeartbeats 4000000 in
theorem lawCrossK_walk (r r' : Int) (A A' : Option Addr) (n n' c c' : Nat) (lv m : Int) (xss yss : List (List Int)) (w : World) (hh : Hid (RowsAt w w.heap.size A n xss)) (hh' : Hid (RowsAt w w.heap.size A' n' yss)) :
    Calls Try.prog 18 #[.agg #[.int .i64 r, .slice A n c], .agg #[.int .i64 r', .slice A' n' c'], .int .i64 lv, .int .i64 m] w fun e w' => e = .returned (.bool true) ∧ Below w.heap.size w w' := by
  obtain ⟨J, hJ⟩ : ∃ J, joinS r r' xss yss = J := ⟨_, rfl⟩
  obtain ⟨j0, j1, j2⟩ := J
  have HJ := Lib.hid hJ
  clear hJ
  go_enter Try.func18, Try.ntmps18
  go_wp2_with fail
  refine calls_later (w.heap.size + 2) ?_
  intro W hW hsW
  obtain ⟨hcW, hfW⟩ := bcell hW
  simp only [World.size_alloc] at hsW
  have hbw : Below w.heap.size w W := (((Below.refl _ w).alloc (Nat.le_refl _) _).alloc (by simp) _).trans (hW.mono (by omega))
  have hww : w.heap.size ≤ W.heap.size := by omega
  have SA : Hid (SndAt W W.heap.size w.heap.size r A n c xss) :=
    ⟨by omega, by rw [hcW _ _ (by omega)]; simp [go_sem], by rw [hcW _ _ (by omega)]; simp [go_sem], (hh.out.below hbw (Nat.le_refl _)).mono (by omega), by rw [hfW _ _ (by omega)]; simp [go_sem], by rw [hfW _ _ (by omega)]; simp [go_sem]⟩
  have SB : Hid (SndAt W W.heap.size (w.heap.size + 1) r' A' n' c' yss) :=
    ⟨by omega, by rw [hcW _ _ (by omega)]; simp [go_sem], by rw [hcW _ _ (by omega)]; simp [go_sem], (hh'.out.below hbw (Nat.le_refl _)).mono (by omega), by rw [hfW _ _ (by omega)]; simp [go_sem], by rw [hfW _ _ (by omega)]; simp [go_sem]⟩
  clear hcW hfW hW hsW
  obtain ⟨ga, hga⟩ : ∃ ga, ga = w.heap.size := ⟨_, rfl⟩
  obtain ⟨gb, hgb⟩ : ∃ gb, gb = w.heap.size + 1 := ⟨_, rfl⟩
  rw [← hgb] at SB ⊢
  rw [← hga] at SA ⊢
  clear hga hgb
  refine (CROSS_any r r' A A' n n' c c' 0 3 xss yss _ W.heap.size (Nat.le_refl _) SA.out.rows SB.out.rows).mono ?_
  rw [crS_zero, HJ.out]
  rintro e w11 ⟨v11, rfl, ho11, hb11⟩
  obtain ⟨A11, c11, rfl, _, _⟩ := ho11.form
  dsimp only at ho11 ⊢
  replace SA := Lib.hid (SA.out.below hb11 hb11.size)
  replace SB := Lib.hid (SB.out.below hb11 hb11.size)
  have hbw11 := hbw.trans (hb11.mono hww)
  have hww11 : w.heap.size ≤ w11.heap.size := Nat.le_trans hww hb11.size
  have S1 := Lib.hid (SndAt.fresh (r := j0) ho11)
  have SA0c := SA.out.c0
  have SA1c := SA.out.c1
  have SAlc := SA.out.lt
  have SB0c := SB.out.c0
  have SB1c := SB.out.c1
  have SBlc := SB.out.lt
  clear hbw hww ho11 hb11
  go_wp2_with fail
  clear SA0c SA1c SAlc SB0c SB1c SBlc
  replace SA := Lib.hid (SA.out.below ((Below.refl _ w11).alloc (Nat.le_refl _) (.cells #[.int .i64 j0, .slice A11 j1.length c11] 24)) (Nat.le_succ _))
  replace SB := Lib.hid (SB.out.below ((Below.refl _ w11).alloc (Nat.le_refl _) (.cells #[.int .i64 j0, .slice A11 j1.length c11] 24)) (Nat.le_succ _))
  have hbw : Below w.heap.size w (w11.alloc (.cells #[.int .i64 j0, .slice A11 j1.length c11] 24)) := hbw11.alloc hww11 _
  obtain ⟨X11, hX⟩ : ∃ X, X = w11.alloc (.cells #[.int .i64 j0, .slice A11 j1.length c11] 24) := ⟨_, rfl⟩
  have hXs : X11.heap.size = w11.heap.size + 1 := by rw [hX]; simp
  obtain ⟨g11, hg⟩ : ∃ g, g = w11.heap.size := ⟨_, rfl⟩
  rw [← hX] at SA SB S1 hbw ⊢
  rw [Nat.succ_eq_add_one, ← hXs] at SA SB
  rw [← hXs] at S1
  rw [← hg] at S1 ⊢
  have hww : w.heap.size ≤ X11.heap.size := by omega
  have hge11 : w.heap.size ≤ g11 := by omega
  clear hX hg hXs hbw11 hww11
  refine (JOIN_any r r' A A' n n' c c' xss yss _ X11.heap.size (Nat.le_refl _) SA.out.rows SB.out.rows).mono ?_
  rw [HJ.out]
  rintro e w12 ⟨v12, rfl, ho12, hb12⟩
  obtain ⟨A12, c12, rfl, _, _⟩ := ho12.form
  dsimp only at ho12 ⊢
  replace SA := Lib.hid (SA.out.below hb12 hb12.size)
  replace SB := Lib.hid (SB.out.below hb12 hb12.size)
  replace S1 := Lib.hid (S1.out.below hb12 hb12.size)
  have hbw12 := hbw.trans (hb12.mono hww)
  have hww12 : w.heap.size ≤ w12.heap.size := Nat.le_trans hww hb12.size
  have S2 := Lib.hid (SndAt.fresh (r := j0) ho12)
  have SA0c := SA.out.c0
  have SA1c := SA.out.c1
  have SAlc := SA.out.lt
  have SB0c := SB.out.c0
  have SB1c := SB.out.c1
  have SBlc := SB.out.lt
  have S10c := S1.out.c0
  have S11c := S1.out.c1
  have S1lc := S1.out.lt
  clear hbw hww ho12 hb12
  go_wp2_with fail
  clear SA0c SA1c SAlc SB0c SB1c SBlc S10c S11c S1lc
  replace SA := Lib.hid (SA.out.below ((Below.refl _ w12).alloc (Nat.le_refl _) (.cells #[.int .i64 j0, .slice A12 j1.length c12] 24)) (Nat.le_succ _))
  replace SB := Lib.hid (SB.out.below ((Below.refl _ w12).alloc (Nat.le_refl _) (.cells #[.int .i64 j0, .slice A12 j1.length c12] 24)) (Nat.le_succ _))
  replace S1 := Lib.hid (S1.out.below ((Below.refl _ w12).alloc (Nat.le_refl _) (.cells #[.int .i64 j0, .slice A12 j1.length c12] 24)) (Nat.le_succ _))
  have hbw : Below w.heap.size w (w12.alloc (.cells #[.int .i64 j0, .slice A12 j1.length c12] 24)) := hbw12.alloc hww12 _
  obtain ⟨X12, hX⟩ : ∃ X, X = w12.alloc (.cells #[.int .i64 j0, .slice A12 j1.length c12] 24) := ⟨_, rfl⟩
  have hXs : X12.heap.size = w12.heap.size + 1 := by rw [hX]; simp
  obtain ⟨g12, hg⟩ : ∃ g, g = w12.heap.size := ⟨_, rfl⟩
  rw [← hX] at SA SB S1 S2 hbw ⊢
  rw [Nat.succ_eq_add_one, ← hXs] at SA SB S1
  rw [← hXs] at S2
  rw [← hg] at S2 ⊢
  have hww : w.heap.size ≤ X12.heap.size := by omega
  clear hX hg hXs hbw12 hww12
  have hst : sameS j0 j1 j0 j1 = true := by simp [sameS]
  have hne : (j2 != j2) = false := by simp
  clear SA SB
  refine (SAME_any _ _ _ _ _ _ _ _ j1 j1 _ X12.heap.size (Nat.le_refl _) S1.out.rows S2.out.rows).mono ?_
  rintro e w15 ⟨rfl, hb15⟩
  rw [hst]
  replace S1 := Lib.hid (S1.out.below hb15 hb15.size)
  replace hbw := hbw.trans (hb15.mono hww)
  replace hww : w.heap.size ≤ w15.heap.size := Nat.le_trans hww hb15.size
  clear hb15
  have S10c := S1.out.c0
  have S11c := S1.out.c1
  have S1lc := S1.out.lt
  go_wp2_with fail
  clear S10c S11c S1lc
  refine (AWAKE_any _).mono ?_
  rintro e w17 ⟨rfl, hb17⟩
  replace S1 := Lib.hid (S1.out.below hb17 hb17.size)
  replace hbw := hbw.trans (hb17.mono hww)
  replace hww : w.heap.size ≤ w17.heap.size := Nat.le_trans hww hb17.size
  clear hb17
  go_wp2_with fail
  refine (SILENCE_ok 1 1 20 (show rateB 1 = true by decide) (by omega) (by omega) (by omega) _).mono ?_
  rintro e w18 ⟨v18, rfl, ho18, hb18⟩
  obtain ⟨A18, c18, rfl, hc18a, hc18b⟩ := ho18.form
  rw [zeroS_length] at hc18a ho18 ⊢
  have S1' := Lib.hid (S1.out.below hb18 (Nat.le_refl _))
  have S10c := S1'.out.c0
  have S11c := S1'.out.c1
  have S1lc := S1'.out.lt
  have hs18 := hb18.size
  by_cases hin : (-8388608 ≤ lv ∧ lv ≤ 8388607) ∧ (0 ≤ m ∧ m ≤ 20)
  · obtain ⟨⟨l1, l2⟩, m1, m2⟩ := hin
    have d1 : decide (lv < -8388608) = false := by simp; omega
    have d2 : decide (8388607 < lv) = false := by simp; omega
    have d3 : decide (m < 0) = false := by simp; omega
    have d4 : decide (20 < m) = false := by simp; omega
    obtain ⟨q, rfl⟩ := Int.eq_ofNat_of_zero_le m1
    have hq : q ≤ 20 := by omega
    obtain ⟨gv, rows, hA, hn1, hF0⟩ := FillI.start (o0 := .int .i64 1) (n := 1) (c := c18) (yss := [List.replicate 20 lv]) (T := 1) (m := 20) rfl (hb18 : Below w17.heap.size w17 w18) hb18.size ho18 (by omega)
    subst hA
    have HF := Lib.hid hF0
    clear ho18 hF0 hn1 S1' hb18
    go_wp2_with fail
    clear S10c S11c
    obtain ⟨g, hg⟩ : ∃ g, g = w18.heap.size := ⟨_, rfl⟩
    rw [← hg] at HF ⊢
    have hgN : w17.heap.size ≤ g := by omega
    clear hg
    go_loopw [15] (fun i wr => ∃ k : Nat, k ≤ 20 ∧ i = .int .i64 k ∧ Hid (FillI w17.heap.size w17 g (.int .i64 1) gv 1 c18 rows wr (partK [List.replicate 20 lv] 20 0 k))) (fun i _ => 20 - (intOf i).toNat)
    case atStart => exact ⟨0, by omega, rfl, HF.out⟩
    case round =>
      obtain ⟨k, hk, rfl, hi⟩ := hrel
      by_cases hlt : k < 20
      · obtain ⟨b, cap, hrk, hcap1, hcap2, -, hn3, hc3⟩ := hi.out.slot (k := 0) (m := 20) (by rw [partK_length]; exact Nat.zero_lt_one) (partK_len Nat.zero_lt_one (by simp [rowOf]) hk) (by omega)
        obtain ⟨hS1, hS2⟩ := hi.out.cells hrk
        obtain ⟨⟨vo, hvo⟩, hfz⟩ := hi.out.elem hrk hlt
        have HI2 := Lib.hid (hi.out.put (y := lv) hrk Nat.zero_lt_one (by simp [rowOf]) hlt (rep_el hlt))
        have hk0 : (0 : Int) ≤ (k : Int) := by omega
        have hk1 : (k : Int) < 20 := by omega
        clear hrk
        go_wp2_with fail
        go_roundw
        case rel => exact ⟨k + 1, by omega, by go_num, HI2⟩
        case measure => simp [intOf]; omega
      · obtain rfl : k = 20 := by omega
        have hi9 := hi.out
        rw [partK_next (by intro a ha; (obtain rfl : a = 0 := by simpa using ha); simp [rowOf]), partK_end (T := 1) rfl] at hi9
        have HR := Lib.hid (OwnRows.rows ⟨rows, hi9.own⟩)
        have hcg0 := own_cell1 hi9.box 0
        have hcg1 := own_cell1 hi9.box 1
        simp at hcg0 hcg1
        replace S1 := Lib.hid (S1.out.below hi9.below (Nat.le_refl _))
        have hNr : w17.heap.size ≤ wr.heap.size := hi9.below.size
        replace hbw := hbw.trans (hi9.below.mono hww)
        have hgr := blk_lt hi9.box
        clear hi9
        go_wp2_with fail
        refine (CROSS_any 1 1 (some ⟨gv, 0, none⟩) (some ⟨gv, 0, none⟩) 1 1 c18 c18 (q : Int) 1 [List.replicate 20 lv] [List.replicate 20 lv] _ wr.heap.size (Nat.le_refl _) HR.out HR.out).mono ?_
        rw [crS_const l1 l2 hq]
        rintro e w20 ⟨v20, rfl, ho20, hb20⟩
        obtain ⟨A20, c20, rfl, _, _⟩ := ho20.form
        dsimp only [List.length_singleton] at ho20 ⊢
        replace S1 := Lib.hid (S1.out.below (hb20.mono hNr) (Nat.le_refl _))
        have S10c := S1.out.c0
        have S11c := S1.out.c1
        have S10f := S1.out.f0
        have S11f := S1.out.f1
        have hlr : g11 < wr.heap.size := by omega
        clear hcg0 hcg1
        have hnL := S1lc
        go_wp2_with fail
        obtain ⟨Z, hZ⟩ : ∃ Z, Z = (w20.setCell ⟨g11, 0, none⟩ (.int .i64 1)).setCell ⟨g11, 1, none⟩ (.slice A20 1 c20) := ⟨_, rfl⟩
        have hTS := two_set w20 g11 _ _ (.int .i64 1) (.slice A20 1 c20) S10c S11c
        have hbz : Below w.heap.size w Z := by rw [hZ]; exact set2_below (hbw.trans (hb20.mono (by omega))) hge11
        have HO : OwnRows Z wr.heap.size (.slice A20 1 c20) [List.replicate (40 - q) lv] := by
          obtain ⟨rows20, hL20⟩ := ho20
          rw [hZ]
          exact ⟨rows20, (hL20.set_below (p := ⟨g11, 0, none⟩) hlr _).set_below (p := ⟨g11, 1, none⟩) hlr _⟩
        have HRz := Lib.hid HO.rows
        rw [← hZ] at hTS ⊢
        obtain ⟨hz0, hz1⟩ := hTS
        have hlz : g11 < Z.heap.size := by rw [hZ]; simp; have := hb20.size; omega
        have hln : Hid (len0 [List.replicate (40 - q) lv] = 40 - q) := by show _ = _; simp [len0]
        obtain ⟨L, hL⟩ : ∃ L, 40 - q = L := ⟨_, rfl⟩
        have hLI : (40 : Int) - (q : Int) = (L : Int) := by omega
        have hL9 : L ≤ 40 := by omega
        rw [hL] at HRz hln
        have HWL : Hid (IntKind.i64.wrap (40 - (q : Int)) = (L : Int)) := by show _ = _; rw [hLI]; exact IntWalk.i64_in _ (by omega)
        have hLL : ((L : Int) != (L : Int)) = false := by simp
        clear hZ HO ho20 hb20 S1 S10c S11c S10f S11f hLI hL
        refine (LLONG_any 1 A20 1 c20 _ _ Z.heap.size (Nat.le_refl _) HRz.out).mono ?_
        rw [hln.out]
        rintro e w21 ⟨rfl, hb21⟩
        have HB := Lib.hid hb21
        have hwl := HWL.out
        clear hb21
        go_wp2_with fail
        go_loopw [16] (fun i wr => ∃ k : Nat, k ≤ L ∧ i = .int .i64 k ∧ Hid (Below Z.heap.size Z wr)) (fun i _ => L - (intOf i).toNat)
        case atStart => exact ⟨0, Nat.zero_le _, rfl, HB⟩
        case round =>
          obtain ⟨k, hk, rfl, hB⟩ := hrel
          have hzz := pcell hB.out
          go_wp2_with fail
          refine (LLONG_any 1 A20 1 c20 _ _ Z.heap.size hB.out.size (HRz.out.below hB.out (Nat.le_refl _))).mono ?_
          rw [hln.out]
          rintro e w22 ⟨rfl, hb22⟩
          have hB2 := Lib.hid (hB.out.trans (hb22.mono hB.out.size))
          clear hzz hb22
          have hzz := pcell hB2.out
          by_cases hlt : k < L
          · obtain ⟨a20, rfl⟩ := HRz.out.addr Nat.zero_lt_one
            obtain ⟨A6, n6, c6, hb6, hc6, hn6, hc6', hi6⟩ := HRz.out.row (k := 0) Nat.zero_lt_one
            obtain rfl : n6 = L := hi6.1.symm.trans (by simp [rowOf])
            obtain ⟨a6, rfl⟩ := hi6.addr (by omega)
            obtain ⟨hb7, hc7⟩ := hi6.at_ hlt
            rw [rep_el hlt] at hc7
            have hadd0 : a20.add 0 = a20 := by simp [Addr.add]
            rw [hadd0] at hc6
            have he6 := (hzz a20 hb6).trans hc6
            have he7 := (hzz (a6.add k) (by rw [block_of_add]; exact hb7)).trans hc7
            have hvv : (lv != lv) = false := by simp
            have hk0 : (0 : Int) ≤ (k : Int) := by omega
            have hk1 : (k : Int) < (n6 : Int) := by omega
            clear hi6
            go_wp2_with fail
            go_roundw
            case rel => exact ⟨k + 1, by omega, by go_num, hB2⟩
            case measure => simp [intOf]; omega
          · obtain rfl : k = L := by omega
            go_wp2_with fail
            go_ret
            exact ⟨rfl, hbz.trans (hB2.out.mono (by have := hbz.size; omega))⟩
  · go_wp2_with fail
    all_goals (go_ret; exact ⟨rfl, (hbw.trans (hb18.mono hww)).alloc (by omega) _⟩)
section
open Go.ChangeShapes Go.WideShapes Go.ChangeAt
theorem lawCrossK_rd : ∀ t ∈ Try.f18.params.toList, Try.prog.readableRec t = true ∧ t < Try.prog.types.size := by
  rw [Try.params18]
  intro t ht
  simp only [List.mem_cons, List.not_mem_nil, or_false] at ht
  rcases ht with rfl | rfl | rfl | rfl
  · exact rd_SND
  · exact rd_SND
  · exact rd_INT
  · exact rd_INT
set_option maxRecDepth 100000 in
theorem lawCrossK_lifted (os : Os) (started : os.Started) (H : Type) (enc : TypeId × Value → H) :
    ReturnsInHanded {} Try.checked os 18 .any (Rows.soundCrossesKeepSpec.pre6 enc Try.prog Try.f18 Rows.soundCrossesKeepRow.domain false) (Rows.soundCrossesKeepSpec.post enc Try.prog Try.f18 false true false false) := by
  refine returnsInHanded_of_change (C := Try.checked) own started (by kernel_rfl) Try.func18
    (ChangeSpec.witness6 (enc := enc) (C := Try.checked) false ⟨#[], #[.agg #[.int .i64 0, .slice none 0 0], .agg #[.int .i64 0, .slice none 0 0], .int .i64 0, .int .i64 0], []⟩ 8 (by kernel_rfl) (by kernel_rfl) (by kernel_rfl) (by kernel_rfl)) ?_
  intro W base args ds gs before hval0 hW _ _
  have hval : ∀ (j : Nat) t v, Try.f18.params[j]? = some t → args[j]? = some v → Value.okWide Try.prog W .any base t v := hval0
  have hW' := hW
  obtain ⟨p, q, hA0, hV, rfl, _, _⟩ := hW
  have hA : DataW.TrodAll enc Try.prog W 0 (fun _ => true) true Try.f18.params.toList args.toList ds p := hA0
  rw [Try.params18] at hA hval
  obtain ⟨v0, v1, v2, v3, d0, d1, d2, d3, p0, p1, p2, p3, rfl, rfl, rfl, h0, h1, h2, h3⟩ := trodAll_four hA
  obtain ⟨rfl, rfl⟩ := trodVars_none hV
  obtain ⟨r0, A0, n0, c0, xss0, rfl, _, _, _, hr0⟩ := open_snd (hval 0 24 v0 rfl rfl) h0
  obtain ⟨r1, A1, n1, c1, xss1, rfl, _, _, _, hr1⟩ := open_snd (hval 1 24 v1 rfl rfl) h1
  obtain ⟨a2, rfl, rfl, rfl, hw2⟩ := open_int Try.underlying3 (hval 2 3 v2 rfl rfl) h2
  obtain ⟨a3, rfl, rfl, rfl, hw3⟩ := open_int Try.underlying3 (hval 3 3 v3 rfl rfl) h3
  clear hA0 hval0
  refine (lawCrossK_walk r0 r1 A0 A1 n0 n1 c0 c1 a2 a3 xss0 xss1 W hr0 hr1).mono fun e W' ⟨he, hb⟩ => ?_
  subst he
  exact ⟨_, rfl, law_post rfl (by kernel_rfl) lawCrossK_rd hW' rfl hb⟩
end
end Go.Proofs.Ytpnbkkpbgpcgiaa
