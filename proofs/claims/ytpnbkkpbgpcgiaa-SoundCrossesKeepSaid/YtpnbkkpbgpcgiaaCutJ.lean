/- The law CutsJoin, walked. -/
import Derived.Test.YtpnbkkpbgpcgiaaSpecG
import Derived.Test.YtpnbkkpbgpcgiaaSnd
import Derived.Test.YtpnbkkpbgpcgiaaLong
import Derived.Test.YtpnbkkpbgpcgiaaSame
import Derived.Test.YtpnbkkpbgpcgiaaPeak
import Derived.Test.YtpnbkkpbgpcgiaaQuiet1
import Derived.Deep.RegionHeld3
import Derived.Deep.DeepCutAuto
set_option linter.unusedSimpArgs false
set_option linter.unusedVariables false
namespace Go.Proofs.Ytpnbkkpbgpcgiaa
open Go.RowKit Go.Dw
attribute [local go_sem ↓] Go.wp_at_zero Go.wp_at_succ

set_option maxRecDepth 100000 in
set_option maxHeartbeats 4000000 in
theorem cutj_err (r : Int) (A : Option Addr) (n c : Nat) (a F1 F2 : Int) (xss : List (List Int)) (w : World) (hh : Hid (RowsAt w w.heap.size A n xss)) (HC1 : Hid (cutS r xss 0 a = (0, [], F1))) (HC2 : Hid (cutS r xss a (len0 xss : Int) = (0, [], F2))) (h1 : F1 ≠ 0) (h2 : F2 ≠ 0) :
    Calls Try.prog 17 #[.agg #[.int .i64 r, .slice A n c], .int .i64 a] w fun e w' => e = .returned (.bool true) ∧ Below w.heap.size w w' := by
  have hq1 : (F1 != 0) = true := by simpa using h1
  have hq2 : (F2 != 0) = true := by simpa using h2
  go_enter Try.func17, Try.ntmps17
  go_wp2_with fail
  refine calls_later (w.heap.size + 1) ?_
  intro W hW hsW
  obtain ⟨hcW, hfW⟩ := bcell hW
  simp only [World.size_alloc] at hsW
  have hbW : Below w.heap.size w W := ((Below.refl _ w).alloc (Nat.le_refl _) _).trans (hW.mono (by omega))
  have SS : Hid (SndAt W W.heap.size w.heap.size r A n c xss) :=
    ⟨by omega, by rw [hcW _ _ (by omega)]; simp [go_sem], by rw [hcW _ _ (by omega)]; simp [go_sem], (hh.out.below hbW (Nat.le_refl _)).mono (by omega), by rw [hfW _ _ (by omega)]; simp [go_sem], by rw [hfW _ _ (by omega)]; simp [go_sem]⟩
  clear hcW hfW hW
  have hsW' : w.heap.size ≤ W.heap.size := by omega
  obtain ⟨gs, hgs⟩ : ∃ gs, gs = w.heap.size := ⟨_, rfl⟩
  have Hgs := Lib.hid hgs
  rw [← hgs] at SS ⊢
  clear hgs hsW
  refine (CUT_any r A n c 0 a xss _ W.heap.size (Nat.le_refl _) SS.out.rows).mono ?_
  rw [HC1.out]
  rintro e w1 ⟨v1, rfl, ho1, hb1⟩
  obtain ⟨A1, c1, rfl, _, _⟩ := ho1.form
  dsimp only at ho1 ⊢
  rw [List.length_nil] at ho1 ⊢
  replace SS := Lib.hid (SS.out.below hb1 hb1.size)
  have hbw1 := hbW.trans (hb1.mono hsW')
  have hsw1 : w.heap.size ≤ w1.heap.size := Nat.le_trans hsW' hb1.size
  have SA := Lib.hid (SndAt.fresh (r := 0) ho1)
  have hs0 := SS.out.c0
  have hs1 := SS.out.c1
  have hsl := SS.out.lt
  clear ho1 hb1 hbW hsW'
  go_wp2_with fail
  clear hs0 hs1 hsl
  replace SS := Lib.hid (SS.out.below ((Below.refl _ w1).alloc (Nat.le_refl _) (.cells #[.int .i64 0, .slice A1 0 c1] 24)) (Nat.le_succ _))
  have hbX : Below w.heap.size w (w1.alloc (.cells #[.int .i64 0, .slice A1 0 c1] 24)) := hbw1.alloc hsw1 _
  obtain ⟨X, hX⟩ : ∃ X, X = w1.alloc (.cells #[.int .i64 0, .slice A1 0 c1] 24) := ⟨_, rfl⟩
  have hXs : X.heap.size = w1.heap.size + 1 := by rw [hX]; simp
  obtain ⟨ga, hga⟩ : ∃ ga, ga = w1.heap.size := ⟨_, rfl⟩
  rw [← hX] at SS SA hbX ⊢
  rw [Nat.succ_eq_add_one, ← hXs] at SS
  rw [← hXs] at SA
  rw [← hga] at SA ⊢
  have hwX : w.heap.size ≤ X.heap.size := by omega
  clear hX hga hXs hbw1 hsw1
  have hs0 := SS.out.c0
  have hs1 := SS.out.c1
  have hsl := SS.out.lt
  go_cut [7, 8] (fun s7 s8 wx => ∃ (gb : Nat) (A2 : Option Addr) (c2 : Nat), s7 = .pointer (some ⟨gb, 0, none⟩) ∧ s8 = .int .i64 F2 ∧ Hid (SndAt wx wx.heap.size gb 0 A2 0 c2 []) ∧ Hid (SndAt wx wx.heap.size gs r A n c xss) ∧ Hid (SndAt wx wx.heap.size ga 0 A1 0 c1 []) ∧ Hid (Below w.heap.size w wx) ∧ w.heap.size ≤ wx.heap.size)
  case first =>
    go_region_held3 (fun w' => Below X.heap.size X w' ∧ ∀ z : Addr, z.block < X.heap.size → w'.cell? z = X.cell? z)
      ((refine (fun h => ⟨h, pcell h⟩) ?_; repeat (first | assumption | exact Below.refl _ _ | (refine Below.drew ?_) | (refine Below.alloc ?_ (by first | omega | (simp; done) | exact Below.size (by assumption)) _) | (refine Below.setCell ?_ (by first | omega | (simp; done) | exact Below.size (by assumption)) _))))
      (first
        | (go_at_call 21; (with_reducible refine (LLONG_any r A n c xss _ X.heap.size ?_ ?_).mono ?_); (exact (‹Below X.heap.size X _ ∧ _›).1.size); (exact SS.out.rows.below (‹Below X.heap.size X _ ∧ _›).1 (Nat.le_refl _)); rintro e w7 ⟨rfl, hb7⟩; have hbS := Below.next (‹Below X.heap.size X _ ∧ _›).1 (Nat.le_refl _) hb7; have hz7 := pcell hb7; have hy7 := fun b o => (bcell hb7).2 b o; have hs7 := hb7.size; (try simp only [World.size_alloc, World.size_drew, Nat.add_one_le_iff] at hs7))
        | (go_at_call 22; (with_reducible refine (CUT_any r A n c a (len0 xss : Int) xss _ X.heap.size ?_ ?_).mono ?_); (exact (‹Below X.heap.size X _ ∧ _›).1.size); (exact SS.out.rows.below (‹Below X.heap.size X _ ∧ _›).1 (Nat.le_refl _)); rw [HC2.out]; rintro e w8 ⟨v8, rfl, ho8, hb8⟩; obtain ⟨A8, c8, rfl, _, _⟩ := ho8.form; (dsimp only at ho8 ⊢); have hbS8 := Below.next (‹Below X.heap.size X _ ∧ _›).1 (Nat.le_refl _) hb8; have hz8 := pcell hb8; have hy8 := fun b o => (bcell hb8).2 b o; have hs8 := hb8.size; (try simp only [World.size_alloc, Nat.add_one_le_iff] at hs8)))
    all_goals (go_wp2_with fail; go_meet)
    all_goals try rw [List.length_nil]
    all_goals try rw [List.length_nil] at ho8
    · have hsz8 := hbS8.size
      have hbe := hbS8.alloc hbS8.size (.cells #[.int .i64 0, .slice A8 0 c8] 24)
      refine ⟨w8.heap.size, A8, c8, rfl, rfl, ?_, SS.out.below hbe (by simp; omega), SA.out.below hbe (by simp; omega), hbX.trans (hbe.mono hwX), by simp; omega⟩
      have := SndAt.fresh (r := 0) ho8
      exact this.below (Below.refl _ _) (by simp)
    all_goals
      have hsz8 := hbS8.size
      have hsz7 := hbS.size
      have hz8c := hz8
      refine ⟨_, A8, c8, rfl, rfl, ?_, SS.out.below (set2_below hbS8 (by omega)) (by simp; omega), SA.out.below (set2_below hbS8 (by omega)) (by simp; omega), hbX.trans ((set2_below hbS8 (by omega)).mono hwX), by simp; omega⟩
      refine ⟨?_, ?_, ?_, ?_, ?_, ?_⟩
      · simp; omega
      · go_simp
      · go_simp
      · exact own_rows_set2 ho8 (by first | omega | (simp; done) | (simp; omega)) _ _
      · go_simp
      · go_simp
  case rest =>
    obtain ⟨gb, A2, c2, rfl, rfl, SB, SS', SA', hbw, hww⟩ := hcut
    clear SS SA hs0 hs1 hsl hbX hwX
    go_wp2_with fail
    refine (AWAKE_any _).mono ?_
    rintro e w4 ⟨rfl, hb4⟩
    go_wp2_with fail
    go_ret
    exact ⟨rfl, hbw.trans (hb4.mono hww)⟩

theorem rvS_cut {r : Int} {xss : List (List Int)} (h : OkS r xss) : rvS r xss = (r, xss.map List.reverse, 0) := by
  unfold rvS; rw [if_neg (by simp [chkS_mk h])]

set_option maxRecDepth 100000 in
set_option maxHeartbeats 8000000 in
theorem cutj_ok (r : Int) (A : Option Addr) (n c : Nat) (a : Int) (xss P Q : List (List Int)) (w : World) (hh : Hid (RowsAt w w.heap.size A n xss)) (HC1 : Hid (cutS r xss 0 a = (r, P, 0))) (HC2 : Hid (cutS r xss a (len0 xss : Int) = (r, Q, 0)))
    (HPl : Hid (P.length = n)) (HQl : Hid (Q.length = n)) (Hxl : Hid (xss.length = n)) (HJ1 : Hid (joinS r r P Q = (r, xss, 0))) (HR1 : Hid (rvS r P = (r, P.map List.reverse, 0))) (HR2 : Hid (rvS r Q = (r, Q.map List.reverse, 0))) (HR3 : Hid (rvS r xss = (r, xss.map List.reverse, 0)))
    (HJ2 : Hid (joinS r r (Q.map List.reverse) (P.map List.reverse) = (r, xss.map List.reverse, 0))) :
    Calls Try.prog 17 #[.agg #[.int .i64 r, .slice A n c], .int .i64 a] w fun e w' => e = .returned (.bool true) ∧ Below w.heap.size w w' := by
  have HP2 : Hid ((P.map List.reverse).length = n) := by show _ = _; rw [List.length_map]; exact HPl.out
  have HQ2 : Hid ((Q.map List.reverse).length = n) := by show _ = _; rw [List.length_map]; exact HQl.out
  have HX2 : Hid ((xss.map List.reverse).length = n) := by show _ = _; rw [List.length_map]; exact Hxl.out
  obtain ⟨P', hP'⟩ : ∃ P', P.map List.reverse = P' := ⟨_, rfl⟩
  obtain ⟨Q', hQ'⟩ : ∃ Q', Q.map List.reverse = Q' := ⟨_, rfl⟩
  obtain ⟨R', hR'⟩ : ∃ R', xss.map List.reverse = R' := ⟨_, rfl⟩
  rw [hP'] at HP2 HR1 HJ2
  rw [hQ'] at HQ2 HR2 HJ2
  rw [hR'] at HX2 HR3 HJ2
  clear hP' hQ' hR'
  go_enter Try.func17, Try.ntmps17
  go_wp2_with fail
  refine calls_later (w.heap.size + 1) ?_
  intro W hW hsW
  obtain ⟨hcW, hfW⟩ := bcell hW
  simp only [World.size_alloc] at hsW
  have hbW : Below w.heap.size w W := ((Below.refl _ w).alloc (Nat.le_refl _) _).trans (hW.mono (by omega))
  have SS : Hid (SndAt W W.heap.size w.heap.size r A n c xss) :=
    ⟨by omega, by rw [hcW _ _ (by omega)]; simp [go_sem], by rw [hcW _ _ (by omega)]; simp [go_sem], (hh.out.below hbW (Nat.le_refl _)).mono (by omega), by rw [hfW _ _ (by omega)]; simp [go_sem], by rw [hfW _ _ (by omega)]; simp [go_sem]⟩
  clear hcW hfW hW
  have hsW' : w.heap.size ≤ W.heap.size := by omega
  obtain ⟨gs, hgs⟩ : ∃ gs, gs = w.heap.size := ⟨_, rfl⟩
  have Hgs := Lib.hid hgs
  rw [← hgs] at SS ⊢
  clear hgs hsW
  refine (CUT_any r A n c 0 a xss _ W.heap.size (Nat.le_refl _) SS.out.rows).mono ?_
  rw [HC1.out]
  rintro e w1 ⟨v1, rfl, ho1, hb1⟩
  obtain ⟨A1, c1, rfl, _, _⟩ := ho1.form
  dsimp only at ho1 ⊢
  rw [HPl.out] at ho1 ⊢
  replace SS := Lib.hid (SS.out.below hb1 hb1.size)
  have hbw1 := hbW.trans (hb1.mono hsW')
  have hsw1 : w.heap.size ≤ w1.heap.size := Nat.le_trans hsW' hb1.size
  have SA := Lib.hid (SndAt.fresh (r := r) ho1)
  have hs0 := SS.out.c0
  have hs1 := SS.out.c1
  have hsl := SS.out.lt
  clear ho1 hb1 hbW hsW'
  go_wp2_with fail
  clear hs0 hs1 hsl
  replace SS := Lib.hid (SS.out.below ((Below.refl _ w1).alloc (Nat.le_refl _) (.cells #[.int .i64 r, .slice A1 n c1] 24)) (Nat.le_succ _))
  have hbX : Below w.heap.size w (w1.alloc (.cells #[.int .i64 r, .slice A1 n c1] 24)) := hbw1.alloc hsw1 _
  obtain ⟨X, hX⟩ : ∃ X, X = w1.alloc (.cells #[.int .i64 r, .slice A1 n c1] 24) := ⟨_, rfl⟩
  have hXs : X.heap.size = w1.heap.size + 1 := by rw [hX]; simp
  obtain ⟨ga, hga⟩ : ∃ ga, ga = w1.heap.size := ⟨_, rfl⟩
  rw [← hX] at SS SA hbX ⊢
  rw [Nat.succ_eq_add_one, ← hXs] at SS
  rw [← hXs] at SA
  rw [← hga] at SA ⊢
  have hwX : w.heap.size ≤ X.heap.size := by omega
  clear hX hga hXs hbw1 hsw1
  have hs0 := SS.out.c0
  have hs1 := SS.out.c1
  have hsl := SS.out.lt
  go_cut [7, 8] (fun s7 s8 wx => ∃ (gb : Nat) (A2 : Option Addr) (c2 : Nat), s7 = .pointer (some ⟨gb, 0, none⟩) ∧ s8 = .int .i64 0 ∧ Hid (SndAt wx wx.heap.size gb r A2 n c2 Q) ∧ Hid (SndAt wx wx.heap.size gs r A n c xss) ∧ Hid (SndAt wx wx.heap.size ga r A1 n c1 P) ∧ Hid (Below w.heap.size w wx) ∧ w.heap.size ≤ wx.heap.size)
  case first =>
    go_region_held3 (fun w' => Below X.heap.size X w' ∧ ∀ z : Addr, z.block < X.heap.size → w'.cell? z = X.cell? z)
      ((refine (fun h => ⟨h, pcell h⟩) ?_; repeat (first | assumption | exact Below.refl _ _ | (refine Below.drew ?_) | (refine Below.alloc ?_ (by first | omega | (simp; done) | exact Below.size (by assumption)) _) | (refine Below.setCell ?_ (by first | omega | (simp; done) | exact Below.size (by assumption)) _))))
      (first
        | (go_at_call 21; (with_reducible refine (LLONG_any r A n c xss _ X.heap.size ?_ ?_).mono ?_); (exact (‹Below X.heap.size X _ ∧ _›).1.size); (exact SS.out.rows.below (‹Below X.heap.size X _ ∧ _›).1 (Nat.le_refl _)); rintro e w7 ⟨rfl, hb7⟩; have hbS := Below.next (‹Below X.heap.size X _ ∧ _›).1 (Nat.le_refl _) hb7; have hz7 := pcell hb7; have hy7 := fun b o => (bcell hb7).2 b o; have hs7 := hb7.size; (try simp only [World.size_alloc, World.size_drew, Nat.add_one_le_iff] at hs7))
        | (go_at_call 22; (with_reducible refine (CUT_any r A n c a (len0 xss : Int) xss _ X.heap.size ?_ ?_).mono ?_); (exact (‹Below X.heap.size X _ ∧ _›).1.size); (exact SS.out.rows.below (‹Below X.heap.size X _ ∧ _›).1 (Nat.le_refl _)); rw [HC2.out]; rintro e w8 ⟨v8, rfl, ho8, hb8⟩; obtain ⟨A8, c8, rfl, _, _⟩ := ho8.form; (dsimp only at ho8 ⊢); have hbS8 := Below.next (‹Below X.heap.size X _ ∧ _›).1 (Nat.le_refl _) hb8; have hz8 := pcell hb8; have hy8 := fun b o => (bcell hb8).2 b o; have hs8 := hb8.size; (try simp only [World.size_alloc, Nat.add_one_le_iff] at hs8)))
    all_goals (go_wp2_with fail; go_meet)
    all_goals try rw [HQl.out]
    all_goals try rw [HQl.out] at ho8
    · have hsz8 := hbS8.size
      have hbe := hbS8.alloc hbS8.size (.cells #[.int .i64 r, .slice A8 n c8] 24)
      refine ⟨w8.heap.size, A8, c8, rfl, rfl, ?_, SS.out.below hbe (by simp; omega), SA.out.below hbe (by simp; omega), hbX.trans (hbe.mono hwX), by simp; omega⟩
      have := SndAt.fresh (r := r) ho8
      exact this.below (Below.refl _ _) (by simp)
    all_goals
      have hsz8 := hbS8.size
      have hsz7 := hbS.size
      have hz8c := hz8
      refine ⟨_, A8, c8, rfl, rfl, ?_, SS.out.below (set2_below hbS8 (by omega)) (by simp; omega), SA.out.below (set2_below hbS8 (by omega)) (by simp; omega), hbX.trans ((set2_below hbS8 (by omega)).mono hwX), by simp; omega⟩
      refine ⟨?_, ?_, ?_, ?_, ?_, ?_⟩
      · simp; omega
      · go_simp
      · go_simp
      · exact own_rows_set2 ho8 (by first | omega | (simp; done) | (simp; omega)) _ _
      · go_simp
      · go_simp
  case rest =>
    obtain ⟨gb, A2, c2, rfl, rfl, SB, SS', SA', hbw, hww⟩ := hcut
    clear SS SA hs0 hs1 hsl hbX hwX
    have SB0c := SB.out.c0
    have SB1c := SB.out.c1
    have SBlc := SB.out.lt
    have SB2c := SB.out.f0
    have SB3c := SB.out.f1
    have SS'0c := SS'.out.c0
    have SS'1c := SS'.out.c1
    have SS'lc := SS'.out.lt
    have SS'2c := SS'.out.f0
    have SS'3c := SS'.out.f1
    have SA'0c := SA'.out.c0
    have SA'1c := SA'.out.c1
    have SA'lc := SA'.out.lt
    have SA'2c := SA'.out.f0
    have SA'3c := SA'.out.f1
    go_wp2_with fail
    clear SB0c SB1c SBlc SB2c SB3c SS'0c SS'1c SS'lc SS'2c SS'3c SA'0c SA'1c SA'lc SA'2c SA'3c
    refine (JOIN_any r r A1 A2 n n c1 c2 P Q _ wc.heap.size (Nat.le_refl _) SA'.out.rows SB.out.rows).mono ?_
    rw [HJ1.out]
    rintro e w11 ⟨v11, rfl, ho11, hb11⟩
    obtain ⟨A11, c11, rfl, _, _⟩ := ho11.form
    dsimp only at ho11 ⊢
    rw [Hxl.out] at ho11 ⊢
    replace SB := Lib.hid (SB.out.below hb11 hb11.size)
    replace SS' := Lib.hid (SS'.out.below hb11 hb11.size)
    replace SA' := Lib.hid (SA'.out.below hb11 hb11.size)
    have hbw11 := hbw.trans (hb11.mono hww)
    have hww11 : w.heap.size ≤ w11.heap.size := Nat.le_trans hww hb11.size
    have SJ := Lib.hid (SndAt.fresh (r := r) ho11)
    have SB0c := SB.out.c0
    have SB1c := SB.out.c1
    have SBlc := SB.out.lt
    have SB2c := SB.out.f0
    have SB3c := SB.out.f1
    have SS'0c := SS'.out.c0
    have SS'1c := SS'.out.c1
    have SS'lc := SS'.out.lt
    have SS'2c := SS'.out.f0
    have SS'3c := SS'.out.f1
    have SA'0c := SA'.out.c0
    have SA'1c := SA'.out.c1
    have SA'lc := SA'.out.lt
    have SA'2c := SA'.out.f0
    have SA'3c := SA'.out.f1
    clear hbw hww
    go_wp2_with fail
    clear SB0c SB1c SBlc SB2c SB3c SS'0c SS'1c SS'lc SS'2c SS'3c SA'0c SA'1c SA'lc SA'2c SA'3c
    replace SB := Lib.hid (SB.out.below ((Below.refl _ w11).alloc (Nat.le_refl _) (.cells #[.int .i64 r, .slice A11 n c11] 24)) (Nat.le_succ _))
    replace SS' := Lib.hid (SS'.out.below ((Below.refl _ w11).alloc (Nat.le_refl _) (.cells #[.int .i64 r, .slice A11 n c11] 24)) (Nat.le_succ _))
    replace SA' := Lib.hid (SA'.out.below ((Below.refl _ w11).alloc (Nat.le_refl _) (.cells #[.int .i64 r, .slice A11 n c11] 24)) (Nat.le_succ _))
    have hbw : Below w.heap.size w (w11.alloc (.cells #[.int .i64 r, .slice A11 n c11] 24)) := hbw11.alloc hww11 _
    obtain ⟨X11, hX⟩ : ∃ X, X = w11.alloc (.cells #[.int .i64 r, .slice A11 n c11] 24) := ⟨_, rfl⟩
    have hXs : X11.heap.size = w11.heap.size + 1 := by rw [hX]; simp
    obtain ⟨g11, hg⟩ : ∃ g, g = w11.heap.size := ⟨_, rfl⟩
    rw [← hX] at SB SS' SA' SJ hbw  ⊢
    rw [Nat.succ_eq_add_one, ← hXs] at SB SS' SA'
    rw [← hXs] at SJ
    rw [← hg] at SJ ⊢
    have hww : w.heap.size ≤ X11.heap.size := by omega
    have hwg : w.heap.size ≤ g11 := by rw [hg]; exact hww11
    have HG : Hid (X11.heap[g11]? = some (.cells #[.int .i64 r, .slice A11 n c11] 24 (0, 0))) := by show _ = _; rw [hX, hg]; exact heap_alloc_new _ _
    clear hX hg hXs hbw11 hww11 ho11 hb11
    have hst : sameS r xss r xss = true := by simp [sameS]
    have SJ0lt := SJ.out.lt
    refine (SAME_any _ _ _ _ _ _ _ _ xss xss _ X11.heap.size (Nat.le_refl _) SJ.out.rows SS'.out.rows).mono ?_
    rintro e w12 ⟨rfl, hb12⟩
    rw [hst]
    replace SB := Lib.hid (SB.out.below hb12 hb12.size)
    replace SS' := Lib.hid (SS'.out.below hb12 hb12.size)
    replace SA' := Lib.hid (SA'.out.below hb12 hb12.size)
    replace SJ := Lib.hid (SJ.out.below hb12 hb12.size)
    replace HG : Hid (w12.heap[g11]? = some (.cells #[.int .i64 r, .slice A11 n c11] 24 (0, 0))) := (hb12.block g11 SJ0lt).trans HG.out
    replace hbw := hbw.trans (hb12.mono hww)
    replace hww : w.heap.size ≤ w12.heap.size := Nat.le_trans hww hb12.size
    clear hb12
    have SB0c := SB.out.c0
    have SB1c := SB.out.c1
    have SBlc := SB.out.lt
    have SB2c := SB.out.f0
    have SB3c := SB.out.f1
    have SS'0c := SS'.out.c0
    have SS'1c := SS'.out.c1
    have SS'lc := SS'.out.lt
    have SS'2c := SS'.out.f0
    have SS'3c := SS'.out.f1
    have SA'0c := SA'.out.c0
    have SA'1c := SA'.out.c1
    have SA'lc := SA'.out.lt
    have SA'2c := SA'.out.f0
    have SA'3c := SA'.out.f1
    have SJ0c := SJ.out.c0
    have SJ1c := SJ.out.c1
    have SJlc := SJ.out.lt
    have SJ2c := SJ.out.f0
    have SJ3c := SJ.out.f1
    go_wp2_with fail
    clear SB0c SB1c SBlc SB2c SB3c SS'0c SS'1c SS'lc SS'2c SS'3c SA'0c SA'1c SA'lc SA'2c SA'3c SJ0c SJ1c SJlc SJ2c SJ3c
    clear SJ0lt
    have SJ0lt := SJ.out.lt
    refine (AWAKE_any _).mono ?_
    rintro e w13 ⟨rfl, hb13⟩
    replace SB := Lib.hid (SB.out.below hb13 hb13.size)
    replace SS' := Lib.hid (SS'.out.below hb13 hb13.size)
    replace SA' := Lib.hid (SA'.out.below hb13 hb13.size)
    replace SJ := Lib.hid (SJ.out.below hb13 hb13.size)
    replace HG : Hid (w13.heap[g11]? = some (.cells #[.int .i64 r, .slice A11 n c11] 24 (0, 0))) := (hb13.block g11 SJ0lt).trans HG.out
    replace hbw := hbw.trans (hb13.mono hww)
    replace hww : w.heap.size ≤ w13.heap.size := Nat.le_trans hww hb13.size
    clear hb13
    have SB0c := SB.out.c0
    have SB1c := SB.out.c1
    have SBlc := SB.out.lt
    have SB2c := SB.out.f0
    have SB3c := SB.out.f1
    have SS'0c := SS'.out.c0
    have SS'1c := SS'.out.c1
    have SS'lc := SS'.out.lt
    have SS'2c := SS'.out.f0
    have SS'3c := SS'.out.f1
    have SA'0c := SA'.out.c0
    have SA'1c := SA'.out.c1
    have SA'lc := SA'.out.lt
    have SA'2c := SA'.out.f0
    have SA'3c := SA'.out.f1
    have SJ0c := SJ.out.c0
    have SJ1c := SJ.out.c1
    have SJlc := SJ.out.lt
    have SJ2c := SJ.out.f0
    have SJ3c := SJ.out.f1
    go_wp2_with fail
    clear SB0c SB1c SBlc SB2c SB3c SS'0c SS'1c SS'lc SS'2c SS'3c SA'0c SA'1c SA'lc SA'2c SA'3c SJ0c SJ1c SJlc SJ2c SJ3c
    clear SJ0lt
    have SJ0lt := SJ.out.lt
    refine (REVERSED_any r A1 n c1 P _ w13.heap.size (Nat.le_refl _) SA'.out.rows).mono ?_
    rw [HR1.out]
    rintro e w14 ⟨v14, rfl, ho14, hb14⟩
    obtain ⟨A14, c14, rfl, _, _⟩ := ho14.form
    dsimp only at ho14 ⊢
    rw [HP2.out] at ho14 ⊢
    replace SB := Lib.hid (SB.out.below hb14 hb14.size)
    replace SS' := Lib.hid (SS'.out.below hb14 hb14.size)
    replace SA' := Lib.hid (SA'.out.below hb14 hb14.size)
    replace SJ := Lib.hid (SJ.out.below hb14 hb14.size)
    have hbw14 := hbw.trans (hb14.mono hww)
    have hww14 : w.heap.size ≤ w14.heap.size := Nat.le_trans hww hb14.size
    have SR1 := Lib.hid (SndAt.fresh (r := r) ho14)
    replace HG : Hid (w14.heap[g11]? = some (.cells #[.int .i64 r, .slice A11 n c11] 24 (0, 0))) := (hb14.block g11 SJ0lt).trans HG.out
    have SB0c := SB.out.c0
    have SB1c := SB.out.c1
    have SBlc := SB.out.lt
    have SB2c := SB.out.f0
    have SB3c := SB.out.f1
    have SS'0c := SS'.out.c0
    have SS'1c := SS'.out.c1
    have SS'lc := SS'.out.lt
    have SS'2c := SS'.out.f0
    have SS'3c := SS'.out.f1
    have SA'0c := SA'.out.c0
    have SA'1c := SA'.out.c1
    have SA'lc := SA'.out.lt
    have SA'2c := SA'.out.f0
    have SA'3c := SA'.out.f1
    have SJ0c := SJ.out.c0
    have SJ1c := SJ.out.c1
    have SJlc := SJ.out.lt
    have SJ2c := SJ.out.f0
    have SJ3c := SJ.out.f1
    clear hbw hww
    go_wp2_with fail
    clear SB0c SB1c SBlc SB2c SB3c SS'0c SS'1c SS'lc SS'2c SS'3c SA'0c SA'1c SA'lc SA'2c SA'3c SJ0c SJ1c SJlc SJ2c SJ3c
    replace SB := Lib.hid (SB.out.below ((Below.refl _ w14).alloc (Nat.le_refl _) (.cells #[.int .i64 r, .slice A14 n c14] 24)) (Nat.le_succ _))
    replace SS' := Lib.hid (SS'.out.below ((Below.refl _ w14).alloc (Nat.le_refl _) (.cells #[.int .i64 r, .slice A14 n c14] 24)) (Nat.le_succ _))
    replace SA' := Lib.hid (SA'.out.below ((Below.refl _ w14).alloc (Nat.le_refl _) (.cells #[.int .i64 r, .slice A14 n c14] 24)) (Nat.le_succ _))
    replace SJ := Lib.hid (SJ.out.below ((Below.refl _ w14).alloc (Nat.le_refl _) (.cells #[.int .i64 r, .slice A14 n c14] 24)) (Nat.le_succ _))
    have hbw : Below w.heap.size w (w14.alloc (.cells #[.int .i64 r, .slice A14 n c14] 24)) := hbw14.alloc hww14 _
    obtain ⟨X14, hX⟩ : ∃ X, X = w14.alloc (.cells #[.int .i64 r, .slice A14 n c14] 24) := ⟨_, rfl⟩
    have hXs : X14.heap.size = w14.heap.size + 1 := by rw [hX]; simp
    obtain ⟨g14, hg⟩ : ∃ g, g = w14.heap.size := ⟨_, rfl⟩
    rw [← hX] at SB SS' SA' SJ SR1 hbw  ⊢
    rw [Nat.succ_eq_add_one, ← hXs] at SB SS' SA' SJ
    rw [← hXs] at SR1
    rw [← hg] at SR1 ⊢
    have hww : w.heap.size ≤ X14.heap.size := by omega
    replace HG : Hid (X14.heap[g11]? = some (.cells #[.int .i64 r, .slice A11 n c11] 24 (0, 0))) := by show _ = _; rw [hX]; exact (Below.heap_alloc _ _ _ (Nat.lt_of_lt_of_le SJ0lt hb14.size)).trans HG.out
    clear hX hg hXs hbw14 hww14 ho14 hb14 SJ0lt
    have SJ0lt := SJ.out.lt
    refine (REVERSED_any r A2 n c2 Q _ X14.heap.size (Nat.le_refl _) SB.out.rows).mono ?_
    rw [HR2.out]
    rintro e w15 ⟨v15, rfl, ho15, hb15⟩
    obtain ⟨A15, c15, rfl, _, _⟩ := ho15.form
    dsimp only at ho15 ⊢
    rw [HQ2.out] at ho15 ⊢
    replace SB := Lib.hid (SB.out.below hb15 hb15.size)
    replace SS' := Lib.hid (SS'.out.below hb15 hb15.size)
    replace SA' := Lib.hid (SA'.out.below hb15 hb15.size)
    replace SJ := Lib.hid (SJ.out.below hb15 hb15.size)
    replace SR1 := Lib.hid (SR1.out.below hb15 hb15.size)
    have hbw15 := hbw.trans (hb15.mono hww)
    have hww15 : w.heap.size ≤ w15.heap.size := Nat.le_trans hww hb15.size
    have SR2 := Lib.hid (SndAt.fresh (r := r) ho15)
    replace HG : Hid (w15.heap[g11]? = some (.cells #[.int .i64 r, .slice A11 n c11] 24 (0, 0))) := (hb15.block g11 SJ0lt).trans HG.out
    have SB0c := SB.out.c0
    have SB1c := SB.out.c1
    have SBlc := SB.out.lt
    have SB2c := SB.out.f0
    have SB3c := SB.out.f1
    have SS'0c := SS'.out.c0
    have SS'1c := SS'.out.c1
    have SS'lc := SS'.out.lt
    have SS'2c := SS'.out.f0
    have SS'3c := SS'.out.f1
    have SA'0c := SA'.out.c0
    have SA'1c := SA'.out.c1
    have SA'lc := SA'.out.lt
    have SA'2c := SA'.out.f0
    have SA'3c := SA'.out.f1
    have SJ0c := SJ.out.c0
    have SJ1c := SJ.out.c1
    have SJlc := SJ.out.lt
    have SJ2c := SJ.out.f0
    have SJ3c := SJ.out.f1
    have SR10c := SR1.out.c0
    have SR11c := SR1.out.c1
    have SR1lc := SR1.out.lt
    have SR12c := SR1.out.f0
    have SR13c := SR1.out.f1
    clear hbw hww
    go_wp2_with fail
    clear SB0c SB1c SBlc SB2c SB3c SS'0c SS'1c SS'lc SS'2c SS'3c SA'0c SA'1c SA'lc SA'2c SA'3c SJ0c SJ1c SJlc SJ2c SJ3c SR10c SR11c SR1lc SR12c SR13c
    replace SB := Lib.hid (SB.out.below ((Below.refl _ w15).alloc (Nat.le_refl _) (.cells #[.int .i64 r, .slice A15 n c15] 24)) (Nat.le_succ _))
    replace SS' := Lib.hid (SS'.out.below ((Below.refl _ w15).alloc (Nat.le_refl _) (.cells #[.int .i64 r, .slice A15 n c15] 24)) (Nat.le_succ _))
    replace SA' := Lib.hid (SA'.out.below ((Below.refl _ w15).alloc (Nat.le_refl _) (.cells #[.int .i64 r, .slice A15 n c15] 24)) (Nat.le_succ _))
    replace SJ := Lib.hid (SJ.out.below ((Below.refl _ w15).alloc (Nat.le_refl _) (.cells #[.int .i64 r, .slice A15 n c15] 24)) (Nat.le_succ _))
    replace SR1 := Lib.hid (SR1.out.below ((Below.refl _ w15).alloc (Nat.le_refl _) (.cells #[.int .i64 r, .slice A15 n c15] 24)) (Nat.le_succ _))
    have hbw : Below w.heap.size w (w15.alloc (.cells #[.int .i64 r, .slice A15 n c15] 24)) := hbw15.alloc hww15 _
    obtain ⟨X15, hX⟩ : ∃ X, X = w15.alloc (.cells #[.int .i64 r, .slice A15 n c15] 24) := ⟨_, rfl⟩
    have hXs : X15.heap.size = w15.heap.size + 1 := by rw [hX]; simp
    obtain ⟨g15, hg⟩ : ∃ g, g = w15.heap.size := ⟨_, rfl⟩
    rw [← hX] at SB SS' SA' SJ SR1 SR2 hbw  ⊢
    rw [Nat.succ_eq_add_one, ← hXs] at SB SS' SA' SJ SR1
    rw [← hXs] at SR2
    rw [← hg] at SR2 ⊢
    have hww : w.heap.size ≤ X15.heap.size := by omega
    replace HG : Hid (X15.heap[g11]? = some (.cells #[.int .i64 r, .slice A11 n c11] 24 (0, 0))) := by show _ = _; rw [hX]; exact (Below.heap_alloc _ _ _ (Nat.lt_of_lt_of_le SJ0lt hb15.size)).trans HG.out
    clear hX hg hXs hbw15 hww15 ho15 hb15 SJ0lt
    have SJ0lt := SJ.out.lt
    refine (REVERSED_any r A n c xss _ X15.heap.size (Nat.le_refl _) SS'.out.rows).mono ?_
    rw [HR3.out]
    rintro e w16 ⟨v16, rfl, ho16, hb16⟩
    obtain ⟨A16, c16, rfl, _, _⟩ := ho16.form
    dsimp only at ho16 ⊢
    rw [HX2.out] at ho16 ⊢
    replace SB := Lib.hid (SB.out.below hb16 hb16.size)
    replace SS' := Lib.hid (SS'.out.below hb16 hb16.size)
    replace SA' := Lib.hid (SA'.out.below hb16 hb16.size)
    replace SJ := Lib.hid (SJ.out.below hb16 hb16.size)
    replace SR1 := Lib.hid (SR1.out.below hb16 hb16.size)
    replace SR2 := Lib.hid (SR2.out.below hb16 hb16.size)
    have hbw16 := hbw.trans (hb16.mono hww)
    have hww16 : w.heap.size ≤ w16.heap.size := Nat.le_trans hww hb16.size
    have SR3 := Lib.hid (SndAt.fresh (r := r) ho16)
    replace HG : Hid (w16.heap[g11]? = some (.cells #[.int .i64 r, .slice A11 n c11] 24 (0, 0))) := (hb16.block g11 SJ0lt).trans HG.out
    have hlt916 : g11 < w16.heap.size := Nat.lt_of_lt_of_le SJ0lt hb16.size
    have HO : Hid (OwnRows (w16.alloc (.cells #[.int .i64 r, .slice A16 n c16] 24)) X15.heap.size (.slice A16 n c16) R') := ho16.below ((Below.refl _ _).alloc (Nat.le_refl _) _)
    have SB0c := SB.out.c0
    have SB1c := SB.out.c1
    have SBlc := SB.out.lt
    have SB2c := SB.out.f0
    have SB3c := SB.out.f1
    have SS'0c := SS'.out.c0
    have SS'1c := SS'.out.c1
    have SS'lc := SS'.out.lt
    have SS'2c := SS'.out.f0
    have SS'3c := SS'.out.f1
    have SA'0c := SA'.out.c0
    have SA'1c := SA'.out.c1
    have SA'lc := SA'.out.lt
    have SA'2c := SA'.out.f0
    have SA'3c := SA'.out.f1
    have SJ0c := SJ.out.c0
    have SJ1c := SJ.out.c1
    have SJlc := SJ.out.lt
    have SJ2c := SJ.out.f0
    have SJ3c := SJ.out.f1
    have SR10c := SR1.out.c0
    have SR11c := SR1.out.c1
    have SR1lc := SR1.out.lt
    have SR12c := SR1.out.f0
    have SR13c := SR1.out.f1
    have SR20c := SR2.out.c0
    have SR21c := SR2.out.c1
    have SR2lc := SR2.out.lt
    have SR22c := SR2.out.f0
    have SR23c := SR2.out.f1
    clear hbw hww
    go_wp2_with fail
    clear SB0c SB1c SBlc SB2c SB3c SS'0c SS'1c SS'lc SS'2c SS'3c SA'0c SA'1c SA'lc SA'2c SA'3c SJ0c SJ1c SJlc SJ2c SJ3c SR10c SR11c SR1lc SR12c SR13c SR20c SR21c SR2lc SR22c SR23c
    replace SB := Lib.hid (SB.out.below ((Below.refl _ w16).alloc (Nat.le_refl _) (.cells #[.int .i64 r, .slice A16 n c16] 24)) (Nat.le_succ _))
    replace SS' := Lib.hid (SS'.out.below ((Below.refl _ w16).alloc (Nat.le_refl _) (.cells #[.int .i64 r, .slice A16 n c16] 24)) (Nat.le_succ _))
    replace SA' := Lib.hid (SA'.out.below ((Below.refl _ w16).alloc (Nat.le_refl _) (.cells #[.int .i64 r, .slice A16 n c16] 24)) (Nat.le_succ _))
    replace SJ := Lib.hid (SJ.out.below ((Below.refl _ w16).alloc (Nat.le_refl _) (.cells #[.int .i64 r, .slice A16 n c16] 24)) (Nat.le_succ _))
    replace SR1 := Lib.hid (SR1.out.below ((Below.refl _ w16).alloc (Nat.le_refl _) (.cells #[.int .i64 r, .slice A16 n c16] 24)) (Nat.le_succ _))
    replace SR2 := Lib.hid (SR2.out.below ((Below.refl _ w16).alloc (Nat.le_refl _) (.cells #[.int .i64 r, .slice A16 n c16] 24)) (Nat.le_succ _))
    have hbw : Below w.heap.size w (w16.alloc (.cells #[.int .i64 r, .slice A16 n c16] 24)) := hbw16.alloc hww16 _
    obtain ⟨X16, hX⟩ : ∃ X, X = w16.alloc (.cells #[.int .i64 r, .slice A16 n c16] 24) := ⟨_, rfl⟩
    have hXs : X16.heap.size = w16.heap.size + 1 := by rw [hX]; simp
    obtain ⟨g16, hg⟩ : ∃ g, g = w16.heap.size := ⟨_, rfl⟩
    rw [← hX] at SB SS' SA' SJ SR1 SR2 SR3 hbw HO ⊢
    rw [Nat.succ_eq_add_one, ← hXs] at SB SS' SA' SJ SR1 SR2
    rw [← hXs] at SR3
    rw [← hg] at SR3 ⊢
    have hww : w.heap.size ≤ X16.heap.size := by omega
    replace HG : Hid (X16.heap[g11]? = some (.cells #[.int .i64 r, .slice A11 n c11] 24 (0, 0))) := by show _ = _; rw [hX]; exact (Below.heap_alloc _ _ _ hlt916).trans HG.out
    have hne1 : ¬ g11 = g16 := by omega
    have hne2 : ¬ g16 = g11 := by omega
    clear hX hg hXs hbw16 hww16 ho16 hb16 SJ0lt hlt916
    have SJ0lt := SJ.out.lt
    refine (JOIN_any r r A15 A14 n n c15 c14 Q' P' _ X16.heap.size (Nat.le_refl _) SR2.out.rows SR1.out.rows).mono ?_
    rw [HJ2.out]
    rintro e w17 ⟨v17, rfl, ho17, hb17⟩
    obtain ⟨A17, c17, rfl, _, _⟩ := ho17.form
    dsimp only at ho17 ⊢
    rw [HX2.out] at ho17 ⊢
    replace SJ := Lib.hid (SJ.out.below hb17 hb17.size)
    replace SR3 := Lib.hid (SR3.out.below hb17 hb17.size)
    replace HG : Hid (w17.heap[g11]? = some (.cells #[.int .i64 r, .slice A11 n c11] 24 (0, 0))) := (hb17.block g11 SJ0lt).trans HG.out
    replace HO : Hid (OwnRows w17 X15.heap.size (.slice A16 n c16) R') := HO.out.below hb17
    replace hbw := hbw.trans (hb17.mono hww)
    clear SS' SA' SB SR1 SR2 hww hb17 SJ0lt
    have SJ0c := SJ.out.c0
    have SJ1c := SJ.out.c1
    have SJlc := SJ.out.lt
    have SJ2c := SJ.out.f0
    have SJ3c := SJ.out.f1
    have SR30c := SR3.out.c0
    have SR31c := SR3.out.c1
    have SR3lc := SR3.out.lt
    have SR32c := SR3.out.f0
    have SR33c := SR3.out.f1
    go_wp2_with fail
    obtain ⟨rows1, hL1⟩ := ho17
    obtain ⟨rows2, hL2⟩ := HO.out
    have hr1 := OwnRows.rows ⟨rows1, hL1.set2_far HG.out (by decide) (by decide) (.int .i64 r) (.slice A17 n c17)⟩
    have hr2 := OwnRows.rows ⟨rows2, hL2.set2_far HG.out (by decide) (by decide) (.int .i64 r) (.slice A17 n c17)⟩
    have hst2 : sameS r R' r R' = true := by simp [sameS]
    refine (SAME_any _ _ _ _ _ _ _ _ R' R' _ _ (Nat.le_refl _) hr1 hr2).mono ?_
    rintro e w18 ⟨rfl, hb18⟩
    rw [hst2]
    have hbe : Below w.heap.size w ((w17.setCell ⟨g11, 0, none⟩ (.int .i64 r)).setCell ⟨g11, 1, none⟩ (.slice A17 n c17)) := set2_below hbw hwg
    have hse := hbe.size
    clear hr1 hr2 hL1 hL2
    go_wp2_with fail
    go_ret
    exact ⟨rfl, hbe.trans (hb18.mono hse)⟩

theorem cutS_no {r : Int} {xss : List (List Int)} {p q : Int} (h : chkS r xss ≠ 0 ∨ cutF p q (len0 xss) ≠ 0) : ∃ F, F ≠ 0 ∧ cutS r xss p q = (0, [], F) := by
  unfold cutS
  by_cases hc : chkS r xss = 0
  · have hd : cutF p q (len0 xss) ≠ 0 := h.resolve_left (fun hx => hx hc)
    exact ⟨_, hd, by rw [if_neg (by simp [hc]), if_pos hd]⟩
  · exact ⟨_, hc, if_pos hc⟩
theorem cutS_yes {r : Int} {xss : List (List Int)} {p q : Int} (h : chkS r xss = 0) (hd : cutF p q (len0 xss) = 0) : cutS r xss p q = (r, cutXs p q xss, 0) := by
  unfold cutS
  rw [if_neg (by simp [h]), if_neg (by simp [hd])]
theorem lawCutJ_walk (r : Int) (A : Option Addr) (n c : Nat) (a : Int) (xss : List (List Int)) (w : World) (hh : Hid (RowsAt w w.heap.size A n xss)) :
    Calls Try.prog 17 #[.agg #[.int .i64 r, .slice A n c], .int .i64 a] w fun e w' => e = .returned (.bool true) ∧ Below w.heap.size w w' := by
  by_cases h : chkS r xss = 0 ∧ 0 ≤ a ∧ a ≤ len0 xss
  · obtain ⟨hc, h0, h1⟩ := h
    have hok := chkS_ok hc
    have o1 := (OkS.cut_ hok (p := 0) (q := a) (by omega) h0 h1).1
    have o2 := (OkS.cut_ hok (p := a) (q := (len0 xss : Int)) h0 h1 (by omega)).1
    have hl := hh.out.1
    exact cutj_ok r A n c a xss (cutXs 0 a xss) (cutXs a (len0 xss : Int) xss) w hh (cutS_yes hc (cutF_ok (by omega) (by omega) (by omega))) (cutS_yes hc (cutF_ok (by omega) (by omega) (by omega))) (by rw [cutXs_length]; exact hl) (by rw [cutXs_length]; exact hl) hl
      (cut_join hok h0 h1) (rvS_cut o1) (rvS_cut o2) (rvS_cut hok) (cut_join_rev hok h0 h1)
  · have e1 : chkS r xss ≠ 0 ∨ cutF 0 a (len0 xss) ≠ 0 := by
      by_cases hc : chkS r xss = 0
      · refine .inr ?_; rw [cutF_bad (by omega)]; omega
      · exact .inl hc
    have e2 : chkS r xss ≠ 0 ∨ cutF a (len0 xss : Int) (len0 xss) ≠ 0 := by
      by_cases hc : chkS r xss = 0
      · refine .inr ?_; rw [cutF_bad (by omega)]; omega
      · exact .inl hc
    obtain ⟨F1, f1, g1⟩ := cutS_no e1
    obtain ⟨F2, f2, g2⟩ := cutS_no e2
    exact cutj_err r A n c a F1 F2 xss w hh g1 g2 f1 f2
end Go.Proofs.Ytpnbkkpbgpcgiaa
