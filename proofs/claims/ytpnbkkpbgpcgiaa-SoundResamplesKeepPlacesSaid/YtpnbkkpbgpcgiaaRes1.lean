/- Resample on both sides: the ways out. -/
import Derived.Test.YtpnbkkpbgpcgiaaFill
import Derived.Test.YtpnbkkpbgpcgiaaNear
import Derived.Deep.RegionHeld3
set_option linter.unusedSimpArgs false
set_option linter.unusedVariables false
namespace Go.Proofs.Ytpnbkkpbgpcgiaa
open Go.RowKit Go.Dw

theorem rs_wrap {m : Nat} {r q : Int} (hm : m ≤ 100000) (hr : 1 ≤ r) (hr2 : r ≤ 1000000) (hq : 1 ≤ q) (hq2 : q ≤ 1000000) :
    IntKind.i64.wrap ((IntKind.i64.wrap (IntKind.i64.wrap (IntKind.i64.wrap ((m : Int) * q) + r) - 1)).tdiv r) = rsN m r q := by
  obtain ⟨b1, b2, b3, b4⟩ := rs_bd hm hr hr2 hq hq2
  rw [IntWalk.i64_in ((m : Int) * q) (by omega), IntWalk.i64_in ((m : Int) * q + r) (by omega), IntWalk.i64_in ((m : Int) * q + r - 1) (by omega), Int.tdiv_eq_ediv_of_nonneg (by omega)]
  unfold rsN at b3 b4 ⊢
  exact IntWalk.i64_in _ (by omega)

set_option maxHeartbeats 400000 in
theorem RESAMPLE_chk (r : Int) (A : Option Addr) (n c : Nat) (q : Int) (xss : List (List Int)) (hc : chkS r xss ≠ 0) (w : World) (B : Nat) (hB : B ≤ w.heap.size) (hh : Hid (RowsAt w B A n xss)) :
    Calls Try.prog 20 #[.agg #[.int .i64 r, .slice A n c], .int .i64 q] w (OutS w 0 [] (chkS r xss)) := by
  have hq : (chkS r xss != 0) = true := by simpa using hc
  clear hc
  go_enter Try.func20, Try.ntmps20
  go_wp2_with fail
  refine calls_later (w.heap.size + 2) ?_
  intro W hW hsW
  obtain ⟨hcW, hfW⟩ := bcell hW
  simp only [World.size_alloc] at hsW
  have hbW : Below w.heap.size w W := (((Below.refl _ w).alloc (Nat.le_refl _) _).alloc (by simp) _).trans (hW.mono (by omega))
  go_wp2_with (go_at_call 37; refine (CHECK_any r A n c xss _ B (by omega) (hh.out.below hbW hB)).mono ?_; rintro e w1 ⟨rfl, hb1⟩; have hz1 := pcell (hb1.mono hsW); have hz2 := fun b o => (bcell (hb1.mono hsW)).2 b o)
  refine end_snd2 (o0 := .int .i64 0) (o1 := .slice none 0 0) rfl rfl rfl ?_ ?_ ?_
  · rw [hz1 _ (by simp), hcW _ _ (by simp)]; simp [go_sem]
  · rw [hz1 _ (by simp), hcW _ _ (by simp)]; simp [go_sem]
  · exact OutS.err rfl (set2_below (hbW.trans (hb1.mono (by omega))) (by omega))
set_option maxHeartbeats 400000 in
theorem RESAMPLE_rate (r : Int) (A : Option Addr) (n c : Nat) (q : Int) (xss : List (List Int)) (hc : Hid (chkS r xss = 0)) (hr : Hid (rateB q = false)) (w : World) (B : Nat) (hB : B ≤ w.heap.size) (hh : Hid (RowsAt w B A n xss)) :
    Calls Try.prog 20 #[.agg #[.int .i64 r, .slice A n c], .int .i64 q] w (OutS w 0 [] 1) := by
  have hq : (chkS r xss != 0) = false := by rw [hc.out]; rfl
  go_enter Try.func20, Try.ntmps20
  go_wp2_with fail
  refine calls_later (w.heap.size + 2) ?_
  intro W hW hsW
  obtain ⟨hcW, hfW⟩ := bcell hW
  simp only [World.size_alloc] at hsW
  have hbW : Below w.heap.size w W := (((Below.refl _ w).alloc (Nat.le_refl _) _).alloc (by simp) _).trans (hW.mono (by omega))
  go_wp2_with (first
    | (go_at_call 37; refine (CHECK_any r A n c xss _ B (by omega) (hh.out.below hbW hB)).mono ?_; rintro e w1 ⟨rfl, hb1⟩; have hz1 := pcell (hb1.mono hsW); have hz2 := fun b o => (bcell (hb1.mono hsW)).2 b o)
    | (go_at_call 57; refine (ISRATE_eq _ _ hr _).mono ?_; rintro e w' ⟨rfl, rfl⟩))
  refine end_snd2 (o0 := .int .i64 0) (o1 := .slice none 0 0) rfl rfl rfl ?_ ?_ ?_
  · rw [hz1 _ (by simp), hcW _ _ (by simp)]; simp [go_sem]
  · rw [hz1 _ (by simp), hcW _ _ (by simp)]; simp [go_sem]
  · exact OutS.err rfl (set2_below (hbW.trans (hb1.mono (by omega))) (by omega))
set_option maxHeartbeats 400000 in
theorem RESAMPLE_big (r : Int) (A : Option Addr) (n c : Nat) (q : Int) (xss : List (List Int)) (hn : 0 < n) (hok : Hid (OkS r xss)) (hc : Hid (chkS r xss = 0)) (hr : Hid (rateB q = true)) (hl : 100000 < rsN (len0 xss) r q) (w : World) (B : Nat) (hB : B ≤ w.heap.size) (hh : Hid (RowsAt w B A n xss)) :
    Calls Try.prog 20 #[.agg #[.int .i64 r, .slice A n c], .int .i64 q] w (OutS w 0 [] 2) := by
  have hq : (chkS r xss != 0) = false := by rw [hc.out]; rfl
  obtain ⟨hr1, hr2⟩ := rateB_yes hok.out.rate
  obtain ⟨hq1, hq2⟩ := rateB_yes hr.out
  have hm := hok.out.long
  obtain ⟨b1, b2, b3, b4⟩ := rs_bd hm hr1 hr2 hq1 hq2
  have hr0 : ¬ r = 0 := by omega
  have HN := Lib.hid (rs_wrap hm hr1 hr2 hq1 hq2)
  go_enter Try.func20, Try.ntmps20
  go_wp2_with fail
  refine calls_later (w.heap.size + 2) ?_
  intro W hW hsW
  obtain ⟨hcW, hfW⟩ := bcell hW
  simp only [World.size_alloc] at hsW
  have hbW : Below w.heap.size w W := (((Below.refl _ w).alloc (Nat.le_refl _) _).alloc (by simp) _).trans (hW.mono (by omega))
  go_wp2_with (first
    | (go_at_call 37; refine (CHECK_any r A n c xss _ B (by omega) (hh.out.below hbW hB)).mono ?_; rintro e w1 ⟨rfl, hb1⟩; have hz1 := pcell (hb1.mono hsW); have hz2 := fun b o => (bcell (hb1.mono hsW)).2 b o)
    | (go_at_call 57; refine (ISRATE_eq _ _ hr _).mono ?_; rintro e w' ⟨rfl, rfl⟩))
  have hbS0 : Below (w.heap.size + 2) W w1 := hb1.mono hsW
  go_region_held3 (fun w' => Below (w.heap.size + 2) W w' ∧ ∀ z : Addr, z.block < w.heap.size + 2 → w'.cell? z = W.cell? z)
    ((refine (fun h => ⟨h, pcell h⟩) ?_; repeat (first | assumption | exact Below.refl _ _ | (refine Below.drew ?_) | (refine Below.alloc ?_ (by first | omega | (simp; omega) | exact Nat.le_trans hsW (Below.size (by assumption)) | (simp only [World.size_drew, World.size_alloc]; exact Nat.le_trans hsW (Nat.le_succ_of_le (Below.size (by assumption))))) _) | (refine Below.setCell ?_ (by first | omega | (simp; omega) | exact Nat.le_trans hsW (Below.size (by assumption))) _))))
    (first | (go_at_call 58; refine (LENGTH_any r A n c xss _ B (Below.ge ‹Below (w.heap.size + 2) W _ ∧ _› hsW (by omega)) (hh.out.below (Below.via hbW ‹Below (w.heap.size + 2) W _ ∧ _› (by omega)) hB) hn).mono ?_; rintro e w2 ⟨rfl, hb2⟩; have hbS := Below.next (‹Below (w.heap.size + 2) W _ ∧ _›).1 hsW hb2))
  rw [HN.out]
  clear hz1 hz2
  have hz1 := pcell hbS
  have hz2 := (bcell hbS).2
  go_wp2_with fail
  refine end_snd2 (o0 := .int .i64 0) (o1 := .slice none 0 0) rfl rfl rfl ?_ ?_ ?_
  · rw [hz1 _ (by simp), hcW _ _ (by simp)]; simp [go_sem]
  · rw [hz1 _ (by simp), hcW _ _ (by simp)]; simp [go_sem]
  · exact OutS.err rfl (set2_below (hbW.trans (hbS.mono (by omega))) (by omega))
set_option maxHeartbeats 400000 in
theorem RRESAMPLE_chk (r : Int) (A : Option Addr) (n c : Nat) (q : Int) (xss : List (List Int)) (hc : chkS r xss ≠ 0) (w : World) (B : Nat) (hB : B ≤ w.heap.size) (hh : Hid (RowsAt w B A n xss)) :
    Calls Try.prog 25 #[.agg #[.int .i64 r, .slice A n c], .int .i64 q] w (OutS w 0 [] (chkS r xss)) := by
  have hq : (chkS r xss != 0) = true := by simpa using hc
  clear hc
  go_enter Try.func25, Try.ntmps25
  go_wp2_with fail
  refine calls_later (w.heap.size + 2) ?_
  intro W hW hsW
  obtain ⟨hcW, hfW⟩ := bcell hW
  simp only [World.size_alloc] at hsW
  have hbW : Below w.heap.size w W := (((Below.refl _ w).alloc (Nat.le_refl _) _).alloc (by simp) _).trans (hW.mono (by omega))
  go_wp2_with (go_at_call 38; refine (RCHECK_any r A n c xss _ B (by omega) (hh.out.below hbW hB)).mono ?_; rintro e w1 ⟨rfl, hb1⟩; have hz1 := pcell (hb1.mono hsW); have hz2 := fun b o => (bcell (hb1.mono hsW)).2 b o)
  refine end_snd2 (o0 := .int .i64 0) (o1 := .slice none 0 0) rfl rfl rfl ?_ ?_ ?_
  · rw [hz1 _ (by simp), hcW _ _ (by simp)]; simp [go_sem]
  · rw [hz1 _ (by simp), hcW _ _ (by simp)]; simp [go_sem]
  · exact OutS.err rfl (set2_below (hbW.trans (hb1.mono (by omega))) (by omega))
set_option maxHeartbeats 400000 in
theorem RRESAMPLE_rate (r : Int) (A : Option Addr) (n c : Nat) (q : Int) (xss : List (List Int)) (hc : Hid (chkS r xss = 0)) (hr : Hid (rateB q = false)) (w : World) (B : Nat) (hB : B ≤ w.heap.size) (hh : Hid (RowsAt w B A n xss)) :
    Calls Try.prog 25 #[.agg #[.int .i64 r, .slice A n c], .int .i64 q] w (OutS w 0 [] 1) := by
  have hq : (chkS r xss != 0) = false := by rw [hc.out]; rfl
  go_enter Try.func25, Try.ntmps25
  go_wp2_with fail
  refine calls_later (w.heap.size + 2) ?_
  intro W hW hsW
  obtain ⟨hcW, hfW⟩ := bcell hW
  simp only [World.size_alloc] at hsW
  have hbW : Below w.heap.size w W := (((Below.refl _ w).alloc (Nat.le_refl _) _).alloc (by simp) _).trans (hW.mono (by omega))
  go_wp2_with (first
    | (go_at_call 38; refine (RCHECK_any r A n c xss _ B (by omega) (hh.out.below hbW hB)).mono ?_; rintro e w1 ⟨rfl, hb1⟩; have hz1 := pcell (hb1.mono hsW); have hz2 := fun b o => (bcell (hb1.mono hsW)).2 b o)
    | (go_at_call 65; refine (RISRATE_eq _ _ hr _).mono ?_; rintro e w' ⟨rfl, rfl⟩))
  refine end_snd2 (o0 := .int .i64 0) (o1 := .slice none 0 0) rfl rfl rfl ?_ ?_ ?_
  · rw [hz1 _ (by simp), hcW _ _ (by simp)]; simp [go_sem]
  · rw [hz1 _ (by simp), hcW _ _ (by simp)]; simp [go_sem]
  · exact OutS.err rfl (set2_below (hbW.trans (hb1.mono (by omega))) (by omega))
set_option maxHeartbeats 400000 in
theorem RRESAMPLE_big (r : Int) (A : Option Addr) (n c : Nat) (q : Int) (xss : List (List Int)) (hn : 0 < n) (hok : Hid (OkS r xss)) (hc : Hid (chkS r xss = 0)) (hr : Hid (rateB q = true)) (hl : 100000 < rsN (len0 xss) r q) (w : World) (B : Nat) (hB : B ≤ w.heap.size) (hh : Hid (RowsAt w B A n xss)) :
    Calls Try.prog 25 #[.agg #[.int .i64 r, .slice A n c], .int .i64 q] w (OutS w 0 [] 2) := by
  have hq : (chkS r xss != 0) = false := by rw [hc.out]; rfl
  obtain ⟨hr1, hr2⟩ := rateB_yes hok.out.rate
  obtain ⟨hq1, hq2⟩ := rateB_yes hr.out
  have hm := hok.out.long
  obtain ⟨b1, b2, b3, b4⟩ := rs_bd hm hr1 hr2 hq1 hq2
  have hr0 : ¬ r = 0 := by omega
  have HN := Lib.hid (rs_wrap hm hr1 hr2 hq1 hq2)
  go_enter Try.func25, Try.ntmps25
  go_wp2_with fail
  refine calls_later (w.heap.size + 2) ?_
  intro W hW hsW
  obtain ⟨hcW, hfW⟩ := bcell hW
  simp only [World.size_alloc] at hsW
  have hbW : Below w.heap.size w W := (((Below.refl _ w).alloc (Nat.le_refl _) _).alloc (by simp) _).trans (hW.mono (by omega))
  go_wp2_with (first
    | (go_at_call 38; refine (RCHECK_any r A n c xss _ B (by omega) (hh.out.below hbW hB)).mono ?_; rintro e w1 ⟨rfl, hb1⟩; have hz1 := pcell (hb1.mono hsW); have hz2 := fun b o => (bcell (hb1.mono hsW)).2 b o)
    | (go_at_call 65; refine (RISRATE_eq _ _ hr _).mono ?_; rintro e w' ⟨rfl, rfl⟩))
  have hbS0 : Below (w.heap.size + 2) W w1 := hb1.mono hsW
  go_region_held3 (fun w' => Below (w.heap.size + 2) W w' ∧ ∀ z : Addr, z.block < w.heap.size + 2 → w'.cell? z = W.cell? z)
    ((refine (fun h => ⟨h, pcell h⟩) ?_; repeat (first | assumption | exact Below.refl _ _ | (refine Below.drew ?_) | (refine Below.alloc ?_ (by first | omega | (simp; omega) | exact Nat.le_trans hsW (Below.size (by assumption)) | (simp only [World.size_drew, World.size_alloc]; exact Nat.le_trans hsW (Nat.le_succ_of_le (Below.size (by assumption))))) _) | (refine Below.setCell ?_ (by first | omega | (simp; omega) | exact Nat.le_trans hsW (Below.size (by assumption))) _))))
    (first | (go_at_call 66; refine (RLONG_any r A n c xss _ B (Below.ge ‹Below (w.heap.size + 2) W _ ∧ _› hsW (by omega)) (hh.out.below (Below.via hbW ‹Below (w.heap.size + 2) W _ ∧ _› (by omega)) hB) hn).mono ?_; rintro e w2 ⟨rfl, hb2⟩; have hbS := Below.next (‹Below (w.heap.size + 2) W _ ∧ _›).1 hsW hb2))
  rw [HN.out]
  clear hz1 hz2
  have hz1 := pcell hbS
  have hz2 := (bcell hbS).2
  go_wp2_with fail
  refine end_snd2 (o0 := .int .i64 0) (o1 := .slice none 0 0) rfl rfl rfl ?_ ?_ ?_
  · rw [hz1 _ (by simp), hcW _ _ (by simp)]; simp [go_sem]
  · rw [hz1 _ (by simp), hcW _ _ (by simp)]; simp [go_sem]
  · exact OutS.err rfl (set2_below (hbW.trans (hbS.mono (by omega))) (by omega))
end Go.Proofs.Ytpnbkkpbgpcgiaa
