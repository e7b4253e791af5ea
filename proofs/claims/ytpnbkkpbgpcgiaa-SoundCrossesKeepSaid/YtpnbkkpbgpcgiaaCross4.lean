/- Cross on both sides, put together; the law CrossesMatchSpec, walked. -/
import Derived.Test.YtpnbkkpbgpcgiaaCross3
import Derived.Test.YtpnbkkpbgpcgiaaSnd
import Derived.Test.YtpnbkkpbgpcgiaaSame
import Derived.Test.YtpnbkkpbgpcgiaaPeak
set_option linter.unusedSimpArgs false
set_option linter.unusedVariables false
namespace Go.Proofs.Ytpnbkkpbgpcgiaa
open Go.RowKit Go.Dw
def crS (r r' m sh : Int) (xss yss : List (List Int)) : Int × List (List Int) × Int × Int :=
  if both2 r r' xss yss ≠ 0 then (0, [], 0, both2 r r' xss yss)
  else if m < 0 ∨ (len0 xss : Int) < m ∨ (len0 yss : Int) < m then (0, [], 0, 1)
  else if shB sh = false then (0, [], 0, 4)
  else if (100000 : Int) < len0 xss + len0 yss - m then (0, [], 0, 2)
  else (r, clipS (crT xss yss m.toNat sh), stS clipU 0 (crT xss yss m.toNat sh), 0)
theorem CROSS_any (r r' : Int) (A A' : Option Addr) (n n' c c' : Nat) (m sh : Int) (xss yss : List (List Int)) (w : World) (B : Nat) (hB : B ≤ w.heap.size) (hh : RowsAt w B A n xss) (hh' : RowsAt w B A' n' yss) :
    Calls Try.prog 55 #[.agg #[.int .i64 r, .slice A n c], .agg #[.int .i64 r', .slice A' n' c'], .int .i64 m, .int .i64 sh] w (OutS3 w (crS r r' m sh xss yss).1 (crS r r' m sh xss yss).2.1 (crS r r' m sh xss yss).2.2.1 (crS r r' m sh xss yss).2.2.2) := by
  unfold crS
  have hl := hh.1
  have hl' := hh'.1
  by_cases hc : both2 r r' xss yss = 0
  · rw [if_neg (by simp [hc])]
    obtain ⟨h1, rfl, h3⟩ := both2_zero hc
    obtain ⟨hok, hok'⟩ := both1_zero h1
    have hn : 0 < n := by have := hok.some; omega
    have hn' : 0 < n' := by have := hok'.some; omega
    obtain rfl : n = n' := by omega
    by_cases k1 : m < 0
    · rw [if_pos (.inl k1)]; exact CROSS_neg r r A A' n n c c' m sh xss yss hc hn hn' k1 w B hB hh hh'
    by_cases k2 : (len0 xss : Int) < m
    · rw [if_pos (.inr (.inl k2))]; exact CROSS_ra r r A A' n n c c' m sh xss yss hc hn hn' (by omega) k2 w B hB hh hh'
    by_cases k3 : (len0 yss : Int) < m
    · rw [if_pos (.inr (.inr k3))]; exact CROSS_rb r r A A' n n c c' m sh xss yss hc hn hn' (by omega) k2 k3 w B hB hh hh'
    rw [if_neg (by omega)]
    cases hs : shB sh with
    | false => rw [if_pos rfl]; exact CROSS_shape r r A A' n n c c' m sh xss yss hc hn hn' (by omega) k2 k3 hs w B hB hh hh'
    | true =>
      rw [if_neg (by simp)]
      by_cases k4 : (100000 : Int) < len0 xss + len0 yss - m
      · rw [if_pos k4]; exact CROSS_big r r A A' n n c c' m sh xss yss hc hn hn' (by omega) k2 k3 hs hok.long hok'.long k4 w B hB hh hh'
      · rw [if_neg k4]
        obtain ⟨ad, rfl⟩ := hh.addr hn
        obtain ⟨ad', rfl⟩ := hh'.addr hn
        obtain ⟨q, rfl⟩ := Int.eq_ofNat_of_zero_le (show 0 ≤ m by omega)
        exact CROSS_ok r ad ad' n c c' q sh xss yss hc hok hok' (by omega) (by omega) hs (by omega) w B hB hh hh'
  · rw [if_pos hc]; exact CROSS_both r r' A A' n n' c c' m sh xss yss hc w B hB hh hh'
theorem RCROSS_any (r r' : Int) (A A' : Option Addr) (n n' c c' : Nat) (m sh : Int) (xss yss : List (List Int)) (w : World) (B : Nat) (hB : B ≤ w.heap.size) (hh : RowsAt w B A n xss) (hh' : RowsAt w B A' n' yss) :
    Calls Try.prog 56 #[.agg #[.int .i64 r, .slice A n c], .agg #[.int .i64 r', .slice A' n' c'], .int .i64 m, .int .i64 sh] w (OutS3 w (crS r r' m sh xss yss).1 (crS r r' m sh xss yss).2.1 (crS r r' m sh xss yss).2.2.1 (crS r r' m sh xss yss).2.2.2) := by
  unfold crS
  have hl := hh.1
  have hl' := hh'.1
  by_cases hc : both2 r r' xss yss = 0
  · rw [if_neg (by simp [hc])]
    obtain ⟨h1, rfl, h3⟩ := both2_zero hc
    obtain ⟨hok, hok'⟩ := both1_zero h1
    have hn : 0 < n := by have := hok.some; omega
    have hn' : 0 < n' := by have := hok'.some; omega
    obtain rfl : n = n' := by omega
    by_cases k1 : m < 0
    · rw [if_pos (.inl k1)]; exact RCROSS_neg r r A A' n n c c' m sh xss yss h1 (if_neg (by simp)) hn hn' k1 w B hB hh hh'
    by_cases k2 : (len0 xss : Int) < m
    · rw [if_pos (.inr (.inl k2))]; exact RCROSS_ra r r A A' n n c c' m sh xss yss h1 (if_neg (by simp)) hn hn' (by omega) k2 w B hB hh hh'
    by_cases k3 : (len0 yss : Int) < m
    · rw [if_pos (.inr (.inr k3))]; exact RCROSS_rb r r A A' n n c c' m sh xss yss h1 (if_neg (by simp)) hn hn' (by omega) k2 k3 w B hB hh hh'
    rw [if_neg (by omega)]
    cases hs : shB sh with
    | false => rw [if_pos rfl]; exact RCROSS_shape r r A A' n n c c' m sh xss yss h1 (if_neg (by simp)) hn hn' (by omega) k2 k3 hs w B hB hh hh'
    | true =>
      rw [if_neg (by simp)]
      by_cases k4 : (100000 : Int) < len0 xss + len0 yss - m
      · rw [if_pos k4]; exact RCROSS_big r r A A' n n c c' m sh xss yss h1 (if_neg (by simp)) hn hn' (by omega) k2 k3 hs hok.long hok'.long k4 w B hB hh hh'
      · rw [if_neg k4]
        obtain ⟨ad, rfl⟩ := hh.addr hn
        obtain ⟨ad', rfl⟩ := hh'.addr hn
        obtain ⟨q, rfl⟩ := Int.eq_ofNat_of_zero_le (show 0 ≤ m by omega)
        exact RCROSS_ok r ad ad' n c c' q sh xss yss h1 (if_neg (by simp)) hok hok' (by omega) (by omega) hs (by omega) w B hB hh hh'
  · rw [if_pos hc]
    by_cases h1 : both1 r r' xss yss = 0
    · have h2 : both2 r r' xss yss = alikeB r r' n n' := by unfold both2; rw [if_neg (by simp [h1]), hl, hl']
      rw [h2] at hc ⊢
      exact RCROSS_alike r r' A A' n n' c c' m sh xss yss h1 hc w B hB hh hh'
    · have h2 : both2 r r' xss yss = both1 r r' xss yss := if_pos h1
      rw [h2]
      exact RCROSS_both r r' A A' n n' c c' m sh xss yss h1 w B hB hh hh'
set_option maxRecDepth 100000 in
set_option maxHeartbeats 4000000 in
theorem lawCross_walk (r r' : Int) (A A' : Option Addr) (n n' c c' : Nat) (m sh : Int) (xss yss : List (List Int)) (w : World) (hh : Hid (RowsAt w w.heap.size A n xss)) (hh' : Hid (RowsAt w w.heap.size A' n' yss)) :
    Calls Try.prog 16 #[.agg #[.int .i64 r, .slice A n c], .agg #[.int .i64 r', .slice A' n' c'], .int .i64 m, .int .i64 sh] w fun e w' => e = .returned (.bool true) ∧ Below w.heap.size w w' := by
  obtain ⟨Z, hZ⟩ : ∃ Z, crS r r' m sh xss yss = Z := ⟨_, rfl⟩
  obtain ⟨z0, z1, z2, z3⟩ := Z
  have HZ := Lib.hid hZ
  clear hZ
  go_enter Try.func16, Try.ntmps16
  go_wp2_with fail
  refine calls_later (w.heap.size + 2) ?_
  intro W hW hsW
  obtain ⟨hcW, hfW⟩ := bcell hW
  simp only [World.size_alloc] at hsW
  have hbw : Below w.heap.size w W := (((Below.refl _ w).alloc (Nat.le_refl _) _).alloc (by simp) _).trans (hW.mono (by omega))
  have hww : w.heap.size ≤ W.heap.size := by omega
  have SA : Hid (SndAt W W.heap.size w.heap.size r A n c xss) :=
    ⟨by omega, by rw [hcW _ _ (by omega)]; simp [go_sem], by rw [hcW _ _ (by omega)]; simp [go_sem], (hh.out.below hbw (Nat.le_refl _)).mono (by omega), by rw [hfW _ _ (by omega)]; simp [go_sem], by rw [hfW _ _ (by omega)]; simp [go_sem]⟩
  have SB : Hid (SndAt W W.heap.size (w.heap.size + 1) r' A' n' c' yss) :=
    ⟨by omega, by rw [hcW _ _ (by omega)]; simp [go_sem], by rw [hcW _ _ (by omega)]; simp [go_sem], (hh'.out.below hbw (Nat.le_refl _)).mono (by omega), by rw [hfW _ _ (by omega)]; simp [go_sem], by rw [hfW _ _ (by omega)]; simp [go_sem]⟩
  clear hcW hfW hW hsW
  obtain ⟨ga, hga⟩ : ∃ ga, ga = w.heap.size := ⟨_, rfl⟩
  obtain ⟨gb, hgb⟩ : ∃ gb, gb = w.heap.size + 1 := ⟨_, rfl⟩
  rw [← hgb] at SB ⊢
  rw [← hga] at SA ⊢
  clear hga hgb
  refine (CROSS_any r r' A A' n n' c c' m sh xss yss _ W.heap.size (Nat.le_refl _) SA.out.rows SB.out.rows).mono ?_
  rw [HZ.out]
  rintro e w11 ⟨v11, rfl, ho11, hb11⟩
  obtain ⟨A11, c11, rfl, _, _⟩ := ho11.form
  dsimp only at ho11 ⊢
  replace SA := Lib.hid (SA.out.below hb11 hb11.size)
  replace SB := Lib.hid (SB.out.below hb11 hb11.size)
  have hbw11 := hbw.trans (hb11.mono hww)
  have hww11 : w.heap.size ≤ w11.heap.size := Nat.le_trans hww hb11.size
  have S1 := Lib.hid (SndAt.fresh (r := z0) ho11)
  have SA0c := SA.out.c0
  have SA1c := SA.out.c1
  have SAlc := SA.out.lt
  have SB0c := SB.out.c0
  have SB1c := SB.out.c1
  have SBlc := SB.out.lt
  clear hbw hww ho11 hb11
  go_wp2_with fail
  clear SA0c SA1c SAlc SB0c SB1c SBlc
  replace SA := Lib.hid (SA.out.below ((Below.refl _ w11).alloc (Nat.le_refl _) (.cells #[.int .i64 z0, .slice A11 z1.length c11] 24)) (Nat.le_succ _))
  replace SB := Lib.hid (SB.out.below ((Below.refl _ w11).alloc (Nat.le_refl _) (.cells #[.int .i64 z0, .slice A11 z1.length c11] 24)) (Nat.le_succ _))
  have hbw : Below w.heap.size w (w11.alloc (.cells #[.int .i64 z0, .slice A11 z1.length c11] 24)) := hbw11.alloc hww11 _
  obtain ⟨X11, hX⟩ : ∃ X, X = w11.alloc (.cells #[.int .i64 z0, .slice A11 z1.length c11] 24) := ⟨_, rfl⟩
  have hXs : X11.heap.size = w11.heap.size + 1 := by rw [hX]; simp
  obtain ⟨g11, hg⟩ : ∃ g, g = w11.heap.size := ⟨_, rfl⟩
  rw [← hX] at SA SB S1 hbw ⊢
  rw [Nat.succ_eq_add_one, ← hXs] at SA SB
  rw [← hXs] at S1
  rw [← hg] at S1 ⊢
  have hww : w.heap.size ≤ X11.heap.size := by omega
  clear hX hg hXs hbw11 hww11
  refine (RCROSS_any r r' A A' n n' c c' m sh xss yss _ X11.heap.size (Nat.le_refl _) SA.out.rows SB.out.rows).mono ?_
  rw [HZ.out]
  rintro e w12 ⟨v12, rfl, ho12, hb12⟩
  obtain ⟨A12, c12, rfl, _, _⟩ := ho12.form
  dsimp only at ho12 ⊢
  replace SA := Lib.hid (SA.out.below hb12 hb12.size)
  replace SB := Lib.hid (SB.out.below hb12 hb12.size)
  replace S1 := Lib.hid (S1.out.below hb12 hb12.size)
  have hbw12 := hbw.trans (hb12.mono hww)
  have hww12 : w.heap.size ≤ w12.heap.size := Nat.le_trans hww hb12.size
  have S2 := Lib.hid (SndAt.fresh (r := z0) ho12)
  have SA0c := SA.out.c0
  have SA1c := SA.out.c1
  have SAlc := SA.out.lt
  have SB0c := SB.out.c0
  have SB1c := SB.out.c1
  have SBlc := SB.out.lt
  have S10c := S1.out.c0
  have S11c := S1.out.c1
  have S1lc := S1.out.lt
  clear hbw hww ho12 hb12
  go_wp2_with fail
  clear SA0c SA1c SAlc SB0c SB1c SBlc S10c S11c S1lc
  replace SA := Lib.hid (SA.out.below ((Below.refl _ w12).alloc (Nat.le_refl _) (.cells #[.int .i64 z0, .slice A12 z1.length c12] 24)) (Nat.le_succ _))
  replace SB := Lib.hid (SB.out.below ((Below.refl _ w12).alloc (Nat.le_refl _) (.cells #[.int .i64 z0, .slice A12 z1.length c12] 24)) (Nat.le_succ _))
  replace S1 := Lib.hid (S1.out.below ((Below.refl _ w12).alloc (Nat.le_refl _) (.cells #[.int .i64 z0, .slice A12 z1.length c12] 24)) (Nat.le_succ _))
  have hbw : Below w.heap.size w (w12.alloc (.cells #[.int .i64 z0, .slice A12 z1.length c12] 24)) := hbw12.alloc hww12 _
  obtain ⟨X12, hX⟩ : ∃ X, X = w12.alloc (.cells #[.int .i64 z0, .slice A12 z1.length c12] 24) := ⟨_, rfl⟩
  have hXs : X12.heap.size = w12.heap.size + 1 := by rw [hX]; simp
  obtain ⟨g12, hg⟩ : ∃ g, g = w12.heap.size := ⟨_, rfl⟩
  rw [← hX] at SA SB S1 S2 hbw ⊢
  rw [Nat.succ_eq_add_one, ← hXs] at SA SB S1
  rw [← hXs] at S2
  rw [← hg] at S2 ⊢
  have hww : w.heap.size ≤ X12.heap.size := by omega
  clear hX hg hXs hbw12 hww12
  have hst : sameS z0 z1 z0 z1 = true := by simp [sameS]
  refine (SAME_any _ _ _ _ _ _ _ _ z1 z1 _ X12.heap.size (Nat.le_refl _) S1.out.rows S2.out.rows).mono ?_
  rintro e w15 ⟨rfl, hb15⟩
  rw [hst]
  replace S2 := Lib.hid (S2.out.below hb15 hb15.size)
  replace hbw := hbw.trans (hb15.mono hww)
  replace hww : w.heap.size ≤ w15.heap.size := Nat.le_trans hww hb15.size
  clear hb15
  have S20c := S2.out.c0
  have S21c := S2.out.c1
  have S2lc := S2.out.lt
  go_wp2_with fail
  clear S20c S21c S2lc
  refine (AWAKE_any _).mono ?_
  rintro e w17 ⟨rfl, hb17⟩
  go_wp2_with fail
  go_ret
  exact ⟨rfl, hbw.trans (hb17.mono hww)⟩
end Go.Proofs.Ytpnbkkpbgpcgiaa
