/- Mix on both sides, put together; the law MixesMatchSpec, walked. -/
import Derived.Test.YtpnbkkpbgpcgiaaMix2
import Derived.Test.YtpnbkkpbgpcgiaaJoin
import Derived.Test.YtpnbkkpbgpcgiaaSnd
import Derived.Test.YtpnbkkpbgpcgiaaSame
import Derived.Test.YtpnbkkpbgpcgiaaPeak
set_option linter.unusedSimpArgs false
set_option linter.unusedVariables false
namespace Go.Proofs.Ytpnbkkpbgpcgiaa
open Go.RowKit Go.Dw
def mixS (r r' : Int) (xss yss : List (List Int)) : Int × List (List Int) × Int × Int :=
  if both2 r r' xss yss ≠ 0 then (0, [], 0, both2 r r' xss yss) else (r, clipS (mixT xss yss), stS clipU 0 (mixT xss yss), 0)
set_option maxHeartbeats 800000 in
theorem MIX_err (r r' : Int) (A A' : Option Addr) (n n' c c' : Nat) (xss yss : List (List Int)) (hc : both2 r r' xss yss ≠ 0) (w : World) (B : Nat) (hB : B ≤ w.heap.size) (hh : Hid (RowsAt w B A n xss)) (hh' : Hid (RowsAt w B A' n' yss)) : Calls Try.prog 51 #[.agg #[.int .i64 r, .slice A n c], .agg #[.int .i64 r', .slice A' n' c']] w (OutS3 w 0 [] 0 (both2 r r' xss yss)) := by
  have hq : (both2 r r' xss yss != 0) = true := by simpa using hc
  clear hc
  go_enter Try.func51, Try.ntmps51
  go_wp2_with fail
  refine calls_later (w.heap.size + 3) ?_
  intro W hW hsW
  obtain ⟨hcW, hfW⟩ := bcell hW
  simp only [World.size_alloc] at hsW
  have hbW : Below w.heap.size w W := ((((Below.refl _ w).alloc (Nat.le_refl _) _).alloc (by simp) _).alloc (by simp; omega) _).trans (hW.mono (by omega))
  refine (CHECKBOTH_any r r' A A' n n' c c' xss yss _ B (by omega) (hh.out.below hbW hB) (hh'.out.below hbW hB)).mono ?_
  rintro e w2 ⟨rfl, hb2⟩
  have hS2 : Below (w.heap.size + 3) W w2 := hb2.mono hsW
  have hz2 := pcell hS2
  have hy2 := (bcell hS2).2
  clear hb2
  go_wp2_with fail
  refine end_snd3 (o0 := .int .i64 0) (o1 := .slice none 0 0) rfl rfl rfl ?_ ?_ ?_
  · rw [hz2 _ (by simp), hcW _ _ (by simp)]; simp [go_sem]
  · rw [hz2 _ (by simp), hcW _ _ (by simp)]; simp [go_sem]
  · exact OutS3.err rfl (set2_below (hbW.trans (hS2.mono (by omega))) (by omega))
set_option maxHeartbeats 800000 in
theorem RMIX_err1 (r r' : Int) (A A' : Option Addr) (n n' c c' : Nat) (xss yss : List (List Int)) (hc : both1 r r' xss yss ≠ 0) (w : World) (B : Nat) (hB : B ≤ w.heap.size) (hh : Hid (RowsAt w B A n xss)) (hh' : Hid (RowsAt w B A' n' yss)) : Calls Try.prog 52 #[.agg #[.int .i64 r, .slice A n c], .agg #[.int .i64 r', .slice A' n' c']] w (OutS3 w 0 [] 0 (both1 r r' xss yss)) := by
  have hq : (both1 r r' xss yss != 0) = true := by simpa using hc
  clear hc
  go_enter Try.func52, Try.ntmps52
  go_wp2_with fail
  refine calls_later (w.heap.size + 3) ?_
  intro W hW hsW
  obtain ⟨hcW, hfW⟩ := bcell hW
  simp only [World.size_alloc] at hsW
  have hbW : Below w.heap.size w W := ((((Below.refl _ w).alloc (Nat.le_refl _) _).alloc (by simp) _).alloc (by simp; omega) _).trans (hW.mono (by omega))
  refine (RBOTH_any r r' A A' n n' c c' xss yss _ B (by omega) (hh.out.below hbW hB) (hh'.out.below hbW hB)).mono ?_
  rintro e w2 ⟨rfl, hb2⟩
  have hS2 : Below (w.heap.size + 3) W w2 := hb2.mono hsW
  have hz2 := pcell hS2
  have hy2 := (bcell hS2).2
  clear hb2
  go_wp2_with fail
  refine end_snd3 (o0 := .int .i64 0) (o1 := .slice none 0 0) rfl rfl rfl ?_ ?_ ?_
  · rw [hz2 _ (by simp), hcW _ _ (by simp)]; simp [go_sem]
  · rw [hz2 _ (by simp), hcW _ _ (by simp)]; simp [go_sem]
  · exact OutS3.err rfl (set2_below (hbW.trans (hS2.mono (by omega))) (by omega))
set_option maxHeartbeats 800000 in
theorem RMIX_err2 (r r' : Int) (A A' : Option Addr) (n n' c c' : Nat) (xss yss : List (List Int)) (hc : Hid (both1 r r' xss yss = 0)) (hd : alikeB r r' n n' ≠ 0) (w : World) (B : Nat) (hB : B ≤ w.heap.size) (hh : Hid (RowsAt w B A n xss)) (hh' : Hid (RowsAt w B A' n' yss)) : Calls Try.prog 52 #[.agg #[.int .i64 r, .slice A n c], .agg #[.int .i64 r', .slice A' n' c']] w (OutS3 w 0 [] 0 (alikeB r r' n n')) := by
  have hq : (both1 r r' xss yss != 0) = false := by rw [hc.out]; rfl
  have hq2 : (alikeB r r' n n' != 0) = true := by simpa using hd
  clear hd
  go_enter Try.func52, Try.ntmps52
  go_wp2_with fail
  refine calls_later (w.heap.size + 3) ?_
  intro W hW hsW
  obtain ⟨hcW, hfW⟩ := bcell hW
  simp only [World.size_alloc] at hsW
  have hbW : Below w.heap.size w W := ((((Below.refl _ w).alloc (Nat.le_refl _) _).alloc (by simp) _).alloc (by simp; omega) _).trans (hW.mono (by omega))
  refine (RBOTH_any r r' A A' n n' c c' xss yss _ B (by omega) (hh.out.below hbW hB) (hh'.out.below hbW hB)).mono ?_
  rintro e w2 ⟨rfl, hb2⟩
  have hS2 : Below (w.heap.size + 3) W w2 := hb2.mono hsW
  have hz2 := pcell hS2
  have hy2 := (bcell hS2).2
  clear hb2
  go_wp2_with fail
  refine (RALIKE_any r r' A A' n n' c c' _).mono ?_
  rintro e w3 ⟨rfl, hb3⟩
  have hS3 := Below.next hS2 hsW hb3
  clear hz2 hy2 hb3
  have hz3 := pcell hS3
  have hy3 := (bcell hS3).2
  go_wp2_with fail
  refine end_snd3 (o0 := .int .i64 0) (o1 := .slice none 0 0) rfl rfl rfl ?_ ?_ ?_
  · rw [hz3 _ (by simp), hcW _ _ (by simp)]; simp [go_sem]
  · rw [hz3 _ (by simp), hcW _ _ (by simp)]; simp [go_sem]
  · exact OutS3.err rfl (set2_below (hbW.trans (hS3.mono (by omega))) (by omega))
theorem MIX_any (r r' : Int) (A A' : Option Addr) (n n' c c' : Nat) (xss yss : List (List Int)) (w : World) (B : Nat) (hB : B ≤ w.heap.size) (hh : RowsAt w B A n xss) (hh' : RowsAt w B A' n' yss) :
    Calls Try.prog 51 #[.agg #[.int .i64 r, .slice A n c], .agg #[.int .i64 r', .slice A' n' c']] w (OutS3 w (mixS r r' xss yss).1 (mixS r r' xss yss).2.1 (mixS r r' xss yss).2.2.1 (mixS r r' xss yss).2.2.2) := by
  unfold mixS
  by_cases hc : both2 r r' xss yss = 0
  · rw [if_neg (by simp [hc])]
    obtain ⟨h1, rfl, h3⟩ := both2_zero hc
    obtain ⟨hok, hok'⟩ := both1_zero h1
    have hl := hh.1
    have hl' := hh'.1
    have hn : 0 < n := by have := hok.some; omega
    obtain rfl : n = n' := by omega
    obtain ⟨ad, rfl⟩ := hh.addr hn
    obtain ⟨ad', rfl⟩ := hh'.addr hn
    exact MIX_ok r ad ad' n c c' xss yss hc hok hok' w B hB hh hh'
  · rw [if_pos hc]; exact MIX_err r r' A A' n n' c c' xss yss hc w B hB hh hh'
theorem RMIX_any (r r' : Int) (A A' : Option Addr) (n n' c c' : Nat) (xss yss : List (List Int)) (w : World) (B : Nat) (hB : B ≤ w.heap.size) (hh : RowsAt w B A n xss) (hh' : RowsAt w B A' n' yss) :
    Calls Try.prog 52 #[.agg #[.int .i64 r, .slice A n c], .agg #[.int .i64 r', .slice A' n' c']] w (OutS3 w (mixS r r' xss yss).1 (mixS r r' xss yss).2.1 (mixS r r' xss yss).2.2.1 (mixS r r' xss yss).2.2.2) := by
  unfold mixS
  have hl := hh.1
  have hl' := hh'.1
  by_cases hc : both2 r r' xss yss = 0
  · rw [if_neg (by simp [hc])]
    obtain ⟨h1, rfl, h3⟩ := both2_zero hc
    obtain ⟨hok, hok'⟩ := both1_zero h1
    have hn : 0 < n := by have := hok.some; omega
    obtain rfl : n = n' := by omega
    obtain ⟨ad, rfl⟩ := hh.addr hn
    obtain ⟨ad', rfl⟩ := hh'.addr hn
    exact RMIX_ok r ad ad' n c c' xss yss h1 (if_neg (by simp)) hok hok' w B hB hh hh'
  · rw [if_pos hc]
    by_cases h1 : both1 r r' xss yss = 0
    · have h2 : both2 r r' xss yss = alikeB r r' n n' := by unfold both2; rw [if_neg (by simp [h1]), hl, hl']
      rw [h2] at hc ⊢
      exact RMIX_err2 r r' A A' n n' c c' xss yss h1 hc w B hB hh hh'
    · have h2 : both2 r r' xss yss = both1 r r' xss yss := if_pos h1
      rw [h2]
      exact RMIX_err1 r r' A A' n n' c c' xss yss h1 w B hB hh hh'
set_option maxRecDepth 100000 in
set_option maxHeartbeats 4000000 in
theorem lawMix_walk (r r' : Int) (A A' : Option Addr) (n n' c c' : Nat) (xss yss : List (List Int)) (w : World) (hh : Hid (RowsAt w w.heap.size A n xss)) (hh' : Hid (RowsAt w w.heap.size A' n' yss)) :
    Calls Try.prog 15 #[.agg #[.int .i64 r, .slice A n c], .agg #[.int .i64 r', .slice A' n' c']] w fun e w' => e = .returned (.bool true) ∧ Below w.heap.size w w' := by
  obtain ⟨Z, hZ⟩ : ∃ Z, mixS r r' xss yss = Z := ⟨_, rfl⟩
  obtain ⟨z0, z1, z2, z3⟩ := Z
  obtain ⟨J, hJ⟩ : ∃ J, joinS r r' xss yss = J := ⟨_, rfl⟩
  obtain ⟨j0, j1, j2⟩ := J
  have HZ := Lib.hid hZ
  have HJ := Lib.hid hJ
  clear hZ hJ
  go_enter Try.func15, Try.ntmps15
  go_wp2_with fail
  refine calls_later (w.heap.size + 2) ?_
  intro W hW hsW
  obtain ⟨hcW, hfW⟩ := bcell hW
  simp only [World.size_alloc] at hsW
  have hbw : Below w.heap.size w W := (((Below.refl _ w).alloc (Nat.le_refl _) _).alloc (by simp) _).trans (hW.mono (by omega))
  have hww : w.heap.size ≤ W.heap.size := by omega
  have SA : Hid (SndAt W W.heap.size w.heap.size r A n c xss) :=
    ⟨by omega, by rw [hcW _ _ (by omega)]; simp [go_sem], by rw [hcW _ _ (by omega)]; simp [go_sem], (hh.out.below hbw (Nat.le_refl _)).mono (by omega), by rw [hfW _ _ (by omega)]; simp [go_sem], by rw [hfW _ _ (by omega)]; simp [go_sem]⟩
  have SB : Hid (SndAt W W.heap.size (w.heap.size + 1) r' A' n' c' yss) :=
    ⟨by omega, by rw [hcW _ _ (by omega)]; simp [go_sem], by rw [hcW _ _ (by omega)]; simp [go_sem], (hh'.out.below hbw (Nat.le_refl _)).mono (by omega), by rw [hfW _ _ (by omega)]; simp [go_sem], by rw [hfW _ _ (by omega)]; simp [go_sem]⟩
  clear hcW hfW hW hsW
  obtain ⟨ga, hga⟩ : ∃ ga, ga = w.heap.size := ⟨_, rfl⟩
  obtain ⟨gb, hgb⟩ : ∃ gb, gb = w.heap.size + 1 := ⟨_, rfl⟩
  rw [← hgb] at SB ⊢
  rw [← hga] at SA ⊢
  clear hga hgb
  refine (MIX_any r r' A A' n n' c c' xss yss _ W.heap.size (Nat.le_refl _) SA.out.rows SB.out.rows).mono ?_
  rw [HZ.out]
  rintro e w11 ⟨v11, rfl, ho11, hb11⟩
  obtain ⟨A11, c11, rfl, _, _⟩ := ho11.form
  dsimp only at ho11 ⊢
  replace SA := Lib.hid (SA.out.below hb11 hb11.size)
  replace SB := Lib.hid (SB.out.below hb11 hb11.size)
  have hbw11 := hbw.trans (hb11.mono hww)
  have hww11 : w.heap.size ≤ w11.heap.size := Nat.le_trans hww hb11.size
  have S1 := Lib.hid (SndAt.fresh (r := z0) ho11)
  have SA0c := SA.out.c0
  have SA1c := SA.out.c1
  have SAlc := SA.out.lt
  have SB0c := SB.out.c0
  have SB1c := SB.out.c1
  have SBlc := SB.out.lt
  clear hbw hww ho11 hb11
  go_wp2_with fail
  clear SA0c SA1c SAlc SB0c SB1c SBlc
  replace SA := Lib.hid (SA.out.below ((Below.refl _ w11).alloc (Nat.le_refl _) (.cells #[.int .i64 z0, .slice A11 z1.length c11] 24)) (Nat.le_succ _))
  replace SB := Lib.hid (SB.out.below ((Below.refl _ w11).alloc (Nat.le_refl _) (.cells #[.int .i64 z0, .slice A11 z1.length c11] 24)) (Nat.le_succ _))
  have hbw : Below w.heap.size w (w11.alloc (.cells #[.int .i64 z0, .slice A11 z1.length c11] 24)) := hbw11.alloc hww11 _
  obtain ⟨X11, hX⟩ : ∃ X, X = w11.alloc (.cells #[.int .i64 z0, .slice A11 z1.length c11] 24) := ⟨_, rfl⟩
  have hXs : X11.heap.size = w11.heap.size + 1 := by rw [hX]; simp
  obtain ⟨g11, hg⟩ : ∃ g, g = w11.heap.size := ⟨_, rfl⟩
  rw [← hX] at SA SB S1 hbw ⊢
  rw [Nat.succ_eq_add_one, ← hXs] at SA SB
  rw [← hXs] at S1
  rw [← hg] at S1 ⊢
  have hww : w.heap.size ≤ X11.heap.size := by omega
  clear hX hg hXs hbw11 hww11
  refine (RMIX_any r r' A A' n n' c c' xss yss _ X11.heap.size (Nat.le_refl _) SA.out.rows SB.out.rows).mono ?_
  rw [HZ.out]
  rintro e w12 ⟨v12, rfl, ho12, hb12⟩
  obtain ⟨A12, c12, rfl, _, _⟩ := ho12.form
  dsimp only at ho12 ⊢
  replace SA := Lib.hid (SA.out.below hb12 hb12.size)
  replace SB := Lib.hid (SB.out.below hb12 hb12.size)
  replace S1 := Lib.hid (S1.out.below hb12 hb12.size)
  have hbw12 := hbw.trans (hb12.mono hww)
  have hww12 : w.heap.size ≤ w12.heap.size := Nat.le_trans hww hb12.size
  have S2 := Lib.hid (SndAt.fresh (r := z0) ho12)
  have SA0c := SA.out.c0
  have SA1c := SA.out.c1
  have SAlc := SA.out.lt
  have SB0c := SB.out.c0
  have SB1c := SB.out.c1
  have SBlc := SB.out.lt
  have S10c := S1.out.c0
  have S11c := S1.out.c1
  have S1lc := S1.out.lt
  clear hbw hww ho12 hb12
  go_wp2_with fail
  clear SA0c SA1c SAlc SB0c SB1c SBlc S10c S11c S1lc
  replace SA := Lib.hid (SA.out.below ((Below.refl _ w12).alloc (Nat.le_refl _) (.cells #[.int .i64 z0, .slice A12 z1.length c12] 24)) (Nat.le_succ _))
  replace SB := Lib.hid (SB.out.below ((Below.refl _ w12).alloc (Nat.le_refl _) (.cells #[.int .i64 z0, .slice A12 z1.length c12] 24)) (Nat.le_succ _))
  replace S1 := Lib.hid (S1.out.below ((Below.refl _ w12).alloc (Nat.le_refl _) (.cells #[.int .i64 z0, .slice A12 z1.length c12] 24)) (Nat.le_succ _))
  have hbw : Below w.heap.size w (w12.alloc (.cells #[.int .i64 z0, .slice A12 z1.length c12] 24)) := hbw12.alloc hww12 _
  obtain ⟨X12, hX⟩ : ∃ X, X = w12.alloc (.cells #[.int .i64 z0, .slice A12 z1.length c12] 24) := ⟨_, rfl⟩
  have hXs : X12.heap.size = w12.heap.size + 1 := by rw [hX]; simp
  obtain ⟨g12, hg⟩ : ∃ g, g = w12.heap.size := ⟨_, rfl⟩
  rw [← hX] at SA SB S1 S2 hbw ⊢
  rw [Nat.succ_eq_add_one, ← hXs] at SA SB S1
  rw [← hXs] at S2
  rw [← hg] at S2 ⊢
  have hww : w.heap.size ≤ X12.heap.size := by omega
  clear hX hg hXs hbw12 hww12
  refine (JOIN_any r r' A A' n n' c c' xss yss _ X12.heap.size (Nat.le_refl _) SA.out.rows SB.out.rows).mono ?_
  rw [HJ.out]
  rintro e w13 ⟨v13, rfl, ho13, hb13⟩
  obtain ⟨A13, c13, rfl, _, _⟩ := ho13.form
  dsimp only at ho13 ⊢
  replace SA := Lib.hid (SA.out.below hb13 hb13.size)
  replace SB := Lib.hid (SB.out.below hb13 hb13.size)
  replace S1 := Lib.hid (S1.out.below hb13 hb13.size)
  replace S2 := Lib.hid (S2.out.below hb13 hb13.size)
  have hbw13 := hbw.trans (hb13.mono hww)
  have hww13 : w.heap.size ≤ w13.heap.size := Nat.le_trans hww hb13.size
  have S3 := Lib.hid (SndAt.fresh (r := j0) ho13)
  have SA0c := SA.out.c0
  have SA1c := SA.out.c1
  have SAlc := SA.out.lt
  have SB0c := SB.out.c0
  have SB1c := SB.out.c1
  have SBlc := SB.out.lt
  have S10c := S1.out.c0
  have S11c := S1.out.c1
  have S1lc := S1.out.lt
  have S20c := S2.out.c0
  have S21c := S2.out.c1
  have S2lc := S2.out.lt
  clear hbw hww ho13 hb13
  go_wp2_with fail
  clear SA0c SA1c SAlc SB0c SB1c SBlc S10c S11c S1lc S20c S21c S2lc
  replace SA := Lib.hid (SA.out.below ((Below.refl _ w13).alloc (Nat.le_refl _) (.cells #[.int .i64 j0, .slice A13 j1.length c13] 24)) (Nat.le_succ _))
  replace SB := Lib.hid (SB.out.below ((Below.refl _ w13).alloc (Nat.le_refl _) (.cells #[.int .i64 j0, .slice A13 j1.length c13] 24)) (Nat.le_succ _))
  replace S1 := Lib.hid (S1.out.below ((Below.refl _ w13).alloc (Nat.le_refl _) (.cells #[.int .i64 j0, .slice A13 j1.length c13] 24)) (Nat.le_succ _))
  replace S2 := Lib.hid (S2.out.below ((Below.refl _ w13).alloc (Nat.le_refl _) (.cells #[.int .i64 j0, .slice A13 j1.length c13] 24)) (Nat.le_succ _))
  have hbw : Below w.heap.size w (w13.alloc (.cells #[.int .i64 j0, .slice A13 j1.length c13] 24)) := hbw13.alloc hww13 _
  obtain ⟨X13, hX⟩ : ∃ X, X = w13.alloc (.cells #[.int .i64 j0, .slice A13 j1.length c13] 24) := ⟨_, rfl⟩
  have hXs : X13.heap.size = w13.heap.size + 1 := by rw [hX]; simp
  obtain ⟨g13, hg⟩ : ∃ g, g = w13.heap.size := ⟨_, rfl⟩
  rw [← hX] at SA SB S1 S2 S3 hbw ⊢
  rw [Nat.succ_eq_add_one, ← hXs] at SA SB S1 S2
  rw [← hXs] at S3
  rw [← hg] at S3 ⊢
  have hww : w.heap.size ≤ X13.heap.size := by omega
  clear hX hg hXs hbw13 hww13
  refine (RJOIN_any r r' A A' n n' c c' xss yss _ X13.heap.size (Nat.le_refl _) SA.out.rows SB.out.rows).mono ?_
  rw [HJ.out]
  rintro e w14 ⟨v14, rfl, ho14, hb14⟩
  obtain ⟨A14, c14, rfl, _, _⟩ := ho14.form
  dsimp only at ho14 ⊢
  replace SA := Lib.hid (SA.out.below hb14 hb14.size)
  replace SB := Lib.hid (SB.out.below hb14 hb14.size)
  replace S1 := Lib.hid (S1.out.below hb14 hb14.size)
  replace S2 := Lib.hid (S2.out.below hb14 hb14.size)
  replace S3 := Lib.hid (S3.out.below hb14 hb14.size)
  have hbw14 := hbw.trans (hb14.mono hww)
  have hww14 : w.heap.size ≤ w14.heap.size := Nat.le_trans hww hb14.size
  have S4 := Lib.hid (SndAt.fresh (r := j0) ho14)
  have SA0c := SA.out.c0
  have SA1c := SA.out.c1
  have SAlc := SA.out.lt
  have SB0c := SB.out.c0
  have SB1c := SB.out.c1
  have SBlc := SB.out.lt
  have S10c := S1.out.c0
  have S11c := S1.out.c1
  have S1lc := S1.out.lt
  have S20c := S2.out.c0
  have S21c := S2.out.c1
  have S2lc := S2.out.lt
  have S30c := S3.out.c0
  have S31c := S3.out.c1
  have S3lc := S3.out.lt
  clear hbw hww ho14 hb14
  go_wp2_with fail
  clear SA0c SA1c SAlc SB0c SB1c SBlc S10c S11c S1lc S20c S21c S2lc S30c S31c S3lc
  replace SA := Lib.hid (SA.out.below ((Below.refl _ w14).alloc (Nat.le_refl _) (.cells #[.int .i64 j0, .slice A14 j1.length c14] 24)) (Nat.le_succ _))
  replace SB := Lib.hid (SB.out.below ((Below.refl _ w14).alloc (Nat.le_refl _) (.cells #[.int .i64 j0, .slice A14 j1.length c14] 24)) (Nat.le_succ _))
  replace S1 := Lib.hid (S1.out.below ((Below.refl _ w14).alloc (Nat.le_refl _) (.cells #[.int .i64 j0, .slice A14 j1.length c14] 24)) (Nat.le_succ _))
  replace S2 := Lib.hid (S2.out.below ((Below.refl _ w14).alloc (Nat.le_refl _) (.cells #[.int .i64 j0, .slice A14 j1.length c14] 24)) (Nat.le_succ _))
  replace S3 := Lib.hid (S3.out.below ((Below.refl _ w14).alloc (Nat.le_refl _) (.cells #[.int .i64 j0, .slice A14 j1.length c14] 24)) (Nat.le_succ _))
  have hbw : Below w.heap.size w (w14.alloc (.cells #[.int .i64 j0, .slice A14 j1.length c14] 24)) := hbw14.alloc hww14 _
  obtain ⟨X14, hX⟩ : ∃ X, X = w14.alloc (.cells #[.int .i64 j0, .slice A14 j1.length c14] 24) := ⟨_, rfl⟩
  have hXs : X14.heap.size = w14.heap.size + 1 := by rw [hX]; simp
  obtain ⟨g14, hg⟩ : ∃ g, g = w14.heap.size := ⟨_, rfl⟩
  rw [← hX] at SA SB S1 S2 S3 S4 hbw ⊢
  rw [Nat.succ_eq_add_one, ← hXs] at SA SB S1 S2 S3
  rw [← hXs] at S4
  rw [← hg] at S4 ⊢
  have hww : w.heap.size ≤ X14.heap.size := by omega
  clear hX hg hXs hbw14 hww14
  have hst : sameS z0 z1 z0 z1 = true := by simp [sameS]
  have hst2 : sameS j0 j1 j0 j1 = true := by simp [sameS]
  refine (SAME_any _ _ _ _ _ _ _ _ z1 z1 _ X14.heap.size (Nat.le_refl _) S1.out.rows S2.out.rows).mono ?_
  rintro e w15 ⟨rfl, hb15⟩
  rw [hst]
  replace S3 := Lib.hid (S3.out.below hb15 hb15.size)
  replace S4 := Lib.hid (S4.out.below hb15 hb15.size)
  replace hbw := hbw.trans (hb15.mono hww)
  replace hww : w.heap.size ≤ w15.heap.size := Nat.le_trans hww hb15.size
  clear hb15
  have S30c := S3.out.c0
  have S31c := S3.out.c1
  have S3lc := S3.out.lt
  have S40c := S4.out.c0
  have S41c := S4.out.c1
  have S4lc := S4.out.lt
  go_wp2_with fail
  clear S30c S31c S3lc S40c S41c S4lc
  refine (SAME_any _ _ _ _ _ _ _ _ j1 j1 _ w15.heap.size (Nat.le_refl _) S3.out.rows S4.out.rows).mono ?_
  rintro e w16 ⟨rfl, hb16⟩
  rw [hst2]
  replace S3 := Lib.hid (S3.out.below hb16 hb16.size)
  replace hbw := hbw.trans (hb16.mono hww)
  replace hww : w.heap.size ≤ w16.heap.size := Nat.le_trans hww hb16.size
  clear hb16
  have S30c := S3.out.c0
  have S31c := S3.out.c1
  have S3lc := S3.out.lt
  go_wp2_with fail
  clear S30c S31c S3lc
  refine (AWAKE_any _).mono ?_
  rintro e w17 ⟨rfl, hb17⟩
  go_wp2_with fail
  go_ret
  exact ⟨rfl, hbw.trans (hb17.mono hww)⟩
end Go.Proofs.Ytpnbkkpbgpcgiaa
