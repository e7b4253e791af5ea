/- Cross on both sides: the ways out. -/
import Derived.Test.YtpnbkkpbgpcgiaaSpecX
import Derived.Test.YtpnbkkpbgpcgiaaFac
import Derived.Test.YtpnbkkpbgpcgiaaJoin
set_option linter.unusedSimpArgs false
set_option linter.unusedVariables false
namespace Go.Proofs.Ytpnbkkpbgpcgiaa
open Go.RowKit Go.Dw
attribute [local go_sem ↓] Go.wp_at_zero Go.wp_at_succ
set_option maxRecDepth 100000 in
set_option maxHeartbeats 800000 in
theorem CROSS_both (r r' : Int) (A A' : Option Addr) (n n' c c' : Nat) (m sh : Int) (xss yss : List (List Int)) (hc : both2 r r' xss yss ≠ 0) (w : World) (B : Nat) (hB : B ≤ w.heap.size) (hh : Hid (RowsAt w B A n xss)) (hh' : Hid (RowsAt w B A' n' yss)) :
    Calls Try.prog 55 #[.agg #[.int .i64 r, .slice A n c], .agg #[.int .i64 r', .slice A' n' c'], .int .i64 m, .int .i64 sh] w (OutS3 w 0 [] 0 (both2 r r' xss yss)) := by
  have hq : (both2 r r' xss yss != 0) = true := by simpa using hc
  clear hc
  go_enter Try.func55, Try.ntmps55
  go_wp2_with fail
  refine calls_later (w.heap.size + 3) ?_
  intro W hW hsW
  obtain ⟨hcW, hfW⟩ := bcell hW
  simp only [World.size_alloc] at hsW
  have hbW : Below w.heap.size w W := ((((Below.refl _ w).alloc (Nat.le_refl _) _).alloc (by simp) _).alloc (by simp; omega) _).trans (hW.mono (by omega))
  have HRx : Hid (RowsAt W B A n xss) := hh.out.below hbW hB
  have HRy : Hid (RowsAt W B A' n' yss) := hh'.out.below hbW hB
  refine (CHECKBOTH_any r r' A A' n n' c c' xss yss _ B (by omega) (hh.out.below hbW hB) (hh'.out.below hbW hB)).mono ?_
  rintro e w2 ⟨rfl, hb2⟩
  have hS2 : Below (w.heap.size + 3) W w2 := hb2.mono hsW
  have hz2 := pcell hS2
  have hy2 := (bcell hS2).2
  clear hb2
  go_wp2_with fail
  refine end_snd3 (o0 := .int .i64 0) (o1 := .slice none 0 0) rfl rfl rfl ?_ ?_ ?_
  · rw [hz2 _ (by simp), hcW _ _ (by simp)]; simp [go_sem]
  · rw [hz2 _ (by simp), hcW _ _ (by simp)]; simp [go_sem]
  · exact OutS3.err rfl (set2_below (hbW.trans (hS2.mono (by omega))) (by omega))
set_option maxRecDepth 100000 in
set_option maxHeartbeats 800000 in
theorem CROSS_neg (r r' : Int) (A A' : Option Addr) (n n' c c' : Nat) (m sh : Int) (xss yss : List (List Int)) (hc : Hid (both2 r r' xss yss = 0)) (hn : 0 < n) (hn' : 0 < n') (h0 : m < 0) (w : World) (B : Nat) (hB : B ≤ w.heap.size) (hh : Hid (RowsAt w B A n xss)) (hh' : Hid (RowsAt w B A' n' yss)) :
    Calls Try.prog 55 #[.agg #[.int .i64 r, .slice A n c], .agg #[.int .i64 r', .slice A' n' c'], .int .i64 m, .int .i64 sh] w (OutS3 w 0 [] 0 (1)) := by
  have hq : (both2 r r' xss yss != 0) = false := by rw [hc.out]; rfl
  have d1 : decide (m < 0) = true := by simpa using h0
  clear h0
  go_enter Try.func55, Try.ntmps55
  go_wp2_with fail
  refine calls_later (w.heap.size + 3) ?_
  intro W hW hsW
  obtain ⟨hcW, hfW⟩ := bcell hW
  simp only [World.size_alloc] at hsW
  have hbW : Below w.heap.size w W := ((((Below.refl _ w).alloc (Nat.le_refl _) _).alloc (by simp) _).alloc (by simp; omega) _).trans (hW.mono (by omega))
  have HRx : Hid (RowsAt W B A n xss) := hh.out.below hbW hB
  have HRy : Hid (RowsAt W B A' n' yss) := hh'.out.below hbW hB
  refine (CHECKBOTH_any r r' A A' n n' c c' xss yss _ B (by omega) (hh.out.below hbW hB) (hh'.out.below hbW hB)).mono ?_
  rintro e w2 ⟨rfl, hb2⟩
  have hS2 : Below (w.heap.size + 3) W w2 := hb2.mono hsW
  have hz2 := pcell hS2
  have hy2 := (bcell hS2).2
  clear hb2
  go_wp2_with fail
  refine end_snd3 (o0 := .int .i64 0) (o1 := .slice none 0 0) rfl rfl rfl ?_ ?_ ?_
  · rw [hz2 _ (by simp), hcW _ _ (by simp)]; simp [go_sem]
  · rw [hz2 _ (by simp), hcW _ _ (by simp)]; simp [go_sem]
  · exact OutS3.err rfl (set2_below (hbW.trans (hS2.mono (by omega))) (by omega))
set_option maxRecDepth 100000 in
set_option maxHeartbeats 800000 in
theorem CROSS_ra (r r' : Int) (A A' : Option Addr) (n n' c c' : Nat) (m sh : Int) (xss yss : List (List Int)) (hc : Hid (both2 r r' xss yss = 0)) (hn : 0 < n) (hn' : 0 < n') (h0 : 0 ≤ m) (h1 : (len0 xss : Int) < m) (w : World) (B : Nat) (hB : B ≤ w.heap.size) (hh : Hid (RowsAt w B A n xss)) (hh' : Hid (RowsAt w B A' n' yss)) :
    Calls Try.prog 55 #[.agg #[.int .i64 r, .slice A n c], .agg #[.int .i64 r', .slice A' n' c'], .int .i64 m, .int .i64 sh] w (OutS3 w 0 [] 0 (1)) := by
  have hq : (both2 r r' xss yss != 0) = false := by rw [hc.out]; rfl
  have d1 : decide (m < 0) = false := by simp; omega
  go_enter Try.func55, Try.ntmps55
  go_wp2_with fail
  refine calls_later (w.heap.size + 3) ?_
  intro W hW hsW
  obtain ⟨hcW, hfW⟩ := bcell hW
  simp only [World.size_alloc] at hsW
  have hbW : Below w.heap.size w W := ((((Below.refl _ w).alloc (Nat.le_refl _) _).alloc (by simp) _).alloc (by simp; omega) _).trans (hW.mono (by omega))
  have HRx : Hid (RowsAt W B A n xss) := hh.out.below hbW hB
  have HRy : Hid (RowsAt W B A' n' yss) := hh'.out.below hbW hB
  refine (CHECKBOTH_any r r' A A' n n' c c' xss yss _ B (by omega) (hh.out.below hbW hB) (hh'.out.below hbW hB)).mono ?_
  rintro e w2 ⟨rfl, hb2⟩
  have hS2 : Below (w.heap.size + 3) W w2 := hb2.mono hsW
  have hz2 := pcell hS2
  have hy2 := (bcell hS2).2
  clear hb2
  go_wp2_with fail
  refine (LENGTH_any r A n c xss _ B (by have := hS2.size; omega) (HRx.out.below (hS2.mono (by omega)) (Nat.le_refl _)) hn).mono ?_
  rintro e w3 ⟨rfl, hb3⟩
  have hS3 := Below.next hS2 hsW hb3
  clear hz2 hy2 hb3
  have hz3 := pcell hS3
  have hy3 := (bcell hS3).2
  go_wp2_with fail
  refine end_snd3 (o0 := .int .i64 0) (o1 := .slice none 0 0) rfl rfl rfl ?_ ?_ ?_
  · rw [hz3 _ (by simp), hcW _ _ (by simp)]; simp [go_sem]
  · rw [hz3 _ (by simp), hcW _ _ (by simp)]; simp [go_sem]
  · exact OutS3.err rfl (set2_below (hbW.trans (hS3.mono (by omega))) (by omega))
set_option maxRecDepth 100000 in
set_option maxHeartbeats 800000 in
theorem CROSS_rb (r r' : Int) (A A' : Option Addr) (n n' c c' : Nat) (m sh : Int) (xss yss : List (List Int)) (hc : Hid (both2 r r' xss yss = 0)) (hn : 0 < n) (hn' : 0 < n') (h0 : 0 ≤ m) (h1 : ¬ (len0 xss : Int) < m) (h2 : (len0 yss : Int) < m) (w : World) (B : Nat) (hB : B ≤ w.heap.size) (hh : Hid (RowsAt w B A n xss)) (hh' : Hid (RowsAt w B A' n' yss)) :
    Calls Try.prog 55 #[.agg #[.int .i64 r, .slice A n c], .agg #[.int .i64 r', .slice A' n' c'], .int .i64 m, .int .i64 sh] w (OutS3 w 0 [] 0 (1)) := by
  have hq : (both2 r r' xss yss != 0) = false := by rw [hc.out]; rfl
  have d1 : decide (m < 0) = false := by simp; omega
  go_enter Try.func55, Try.ntmps55
  go_wp2_with fail
  refine calls_later (w.heap.size + 3) ?_
  intro W hW hsW
  obtain ⟨hcW, hfW⟩ := bcell hW
  simp only [World.size_alloc] at hsW
  have hbW : Below w.heap.size w W := ((((Below.refl _ w).alloc (Nat.le_refl _) _).alloc (by simp) _).alloc (by simp; omega) _).trans (hW.mono (by omega))
  have HRx : Hid (RowsAt W B A n xss) := hh.out.below hbW hB
  have HRy : Hid (RowsAt W B A' n' yss) := hh'.out.below hbW hB
  refine (CHECKBOTH_any r r' A A' n n' c c' xss yss _ B (by omega) (hh.out.below hbW hB) (hh'.out.below hbW hB)).mono ?_
  rintro e w2 ⟨rfl, hb2⟩
  have hS2 : Below (w.heap.size + 3) W w2 := hb2.mono hsW
  have hz2 := pcell hS2
  have hy2 := (bcell hS2).2
  clear hb2
  go_wp2_with fail
  refine (LENGTH_any r A n c xss _ B (by have := hS2.size; omega) (HRx.out.below (hS2.mono (by omega)) (Nat.le_refl _)) hn).mono ?_
  rintro e w3 ⟨rfl, hb3⟩
  have hS3 := Below.next hS2 hsW hb3
  clear hz2 hy2 hb3
  have hz3 := pcell hS3
  have hy3 := (bcell hS3).2
  go_wp2_with fail
  refine (LENGTH_any r' A' n' c' yss _ B (by have := hS3.size; omega) (HRy.out.below (hS3.mono (by omega)) (Nat.le_refl _)) hn').mono ?_
  rintro e w4 ⟨rfl, hb4⟩
  have hS4 := Below.next hS3 hsW hb4
  clear hz3 hy3 hb4
  have hz4 := pcell hS4
  have hy4 := (bcell hS4).2
  go_wp2_with fail
  refine end_snd3 (o0 := .int .i64 0) (o1 := .slice none 0 0) rfl rfl rfl ?_ ?_ ?_
  · rw [hz4 _ (by simp), hcW _ _ (by simp)]; simp [go_sem]
  · rw [hz4 _ (by simp), hcW _ _ (by simp)]; simp [go_sem]
  · exact OutS3.err rfl (set2_below (hbW.trans (hS4.mono (by omega))) (by omega))
set_option maxRecDepth 100000 in
set_option maxHeartbeats 800000 in
theorem CROSS_shape (r r' : Int) (A A' : Option Addr) (n n' c c' : Nat) (m sh : Int) (xss yss : List (List Int)) (hc : Hid (both2 r r' xss yss = 0)) (hn : 0 < n) (hn' : 0 < n') (h0 : 0 ≤ m) (h1 : ¬ (len0 xss : Int) < m) (h2 : ¬ (len0 yss : Int) < m) (hs : Hid (shB sh = false)) (w : World) (B : Nat) (hB : B ≤ w.heap.size) (hh : Hid (RowsAt w B A n xss)) (hh' : Hid (RowsAt w B A' n' yss)) :
    Calls Try.prog 55 #[.agg #[.int .i64 r, .slice A n c], .agg #[.int .i64 r', .slice A' n' c'], .int .i64 m, .int .i64 sh] w (OutS3 w 0 [] 0 (4)) := by
  have hq : (both2 r r' xss yss != 0) = false := by rw [hc.out]; rfl
  have d1 : decide (m < 0) = false := by simp; omega
  go_enter Try.func55, Try.ntmps55
  go_wp2_with fail
  refine calls_later (w.heap.size + 3) ?_
  intro W hW hsW
  obtain ⟨hcW, hfW⟩ := bcell hW
  simp only [World.size_alloc] at hsW
  have hbW : Below w.heap.size w W := ((((Below.refl _ w).alloc (Nat.le_refl _) _).alloc (by simp) _).alloc (by simp; omega) _).trans (hW.mono (by omega))
  have HRx : Hid (RowsAt W B A n xss) := hh.out.below hbW hB
  have HRy : Hid (RowsAt W B A' n' yss) := hh'.out.below hbW hB
  refine (CHECKBOTH_any r r' A A' n n' c c' xss yss _ B (by omega) (hh.out.below hbW hB) (hh'.out.below hbW hB)).mono ?_
  rintro e w2 ⟨rfl, hb2⟩
  have hS2 : Below (w.heap.size + 3) W w2 := hb2.mono hsW
  have hz2 := pcell hS2
  have hy2 := (bcell hS2).2
  clear hb2
  go_wp2_with fail
  refine (LENGTH_any r A n c xss _ B (by have := hS2.size; omega) (HRx.out.below (hS2.mono (by omega)) (Nat.le_refl _)) hn).mono ?_
  rintro e w3 ⟨rfl, hb3⟩
  have hS3 := Below.next hS2 hsW hb3
  clear hz2 hy2 hb3
  have hz3 := pcell hS3
  have hy3 := (bcell hS3).2
  go_wp2_with fail
  refine (LENGTH_any r' A' n' c' yss _ B (by have := hS3.size; omega) (HRy.out.below (hS3.mono (by omega)) (Nat.le_refl _)) hn').mono ?_
  rintro e w4 ⟨rfl, hb4⟩
  have hS4 := Below.next hS3 hsW hb4
  clear hz3 hy3 hb4
  have hz4 := pcell hS4
  have hy4 := (bcell hS4).2
  go_wp2_with fail
  refine (ISSHAPE_eq sh false hs _).mono ?_
  rintro e w' ⟨rfl, rfl⟩
  go_wp2_with fail
  refine end_snd3 (o0 := .int .i64 0) (o1 := .slice none 0 0) rfl rfl rfl ?_ ?_ ?_
  · rw [hz4 _ (by simp), hcW _ _ (by simp)]; simp [go_sem]
  · rw [hz4 _ (by simp), hcW _ _ (by simp)]; simp [go_sem]
  · exact OutS3.err rfl (set2_below (hbW.trans (hS4.mono (by omega))) (by omega))
set_option maxRecDepth 100000 in
set_option maxHeartbeats 800000 in
theorem CROSS_big (r r' : Int) (A A' : Option Addr) (n n' c c' : Nat) (m sh : Int) (xss yss : List (List Int)) (hc : Hid (both2 r r' xss yss = 0)) (hn : 0 < n) (hn' : 0 < n') (h0 : 0 ≤ m) (h1 : ¬ (len0 xss : Int) < m) (h2 : ¬ (len0 yss : Int) < m) (hs : Hid (shB sh = true)) (hm : len0 xss ≤ 100000) (hm' : len0 yss ≤ 100000) (hL : (100000 : Int) < len0 xss + len0 yss - m) (w : World) (B : Nat) (hB : B ≤ w.heap.size) (hh : Hid (RowsAt w B A n xss)) (hh' : Hid (RowsAt w B A' n' yss)) :
    Calls Try.prog 55 #[.agg #[.int .i64 r, .slice A n c], .agg #[.int .i64 r', .slice A' n' c'], .int .i64 m, .int .i64 sh] w (OutS3 w 0 [] 0 (2)) := by
  have hq : (both2 r r' xss yss != 0) = false := by rw [hc.out]; rfl
  have d1 : decide (m < 0) = false := by simp; omega
  have HW1 := Lib.hid (IntWalk.i64_in ((len0 xss : Int) + (len0 yss : Int)) (by omega))
  have HW2 := Lib.hid (IntWalk.i64_in ((len0 xss : Int) + (len0 yss : Int) - m) (by omega))
  go_enter Try.func55, Try.ntmps55
  go_wp2_with fail
  refine calls_later (w.heap.size + 3) ?_
  intro W hW hsW
  obtain ⟨hcW, hfW⟩ := bcell hW
  simp only [World.size_alloc] at hsW
  have hbW : Below w.heap.size w W := ((((Below.refl _ w).alloc (Nat.le_refl _) _).alloc (by simp) _).alloc (by simp; omega) _).trans (hW.mono (by omega))
  have HRx : Hid (RowsAt W B A n xss) := hh.out.below hbW hB
  have HRy : Hid (RowsAt W B A' n' yss) := hh'.out.below hbW hB
  refine (CHECKBOTH_any r r' A A' n n' c c' xss yss _ B (by omega) (hh.out.below hbW hB) (hh'.out.below hbW hB)).mono ?_
  rintro e w2 ⟨rfl, hb2⟩
  have hS2 : Below (w.heap.size + 3) W w2 := hb2.mono hsW
  have hz2 := pcell hS2
  have hy2 := (bcell hS2).2
  clear hb2
  go_wp2_with fail
  refine (LENGTH_any r A n c xss _ B (by have := hS2.size; omega) (HRx.out.below (hS2.mono (by omega)) (Nat.le_refl _)) hn).mono ?_
  rintro e w3 ⟨rfl, hb3⟩
  have hS3 := Below.next hS2 hsW hb3
  clear hz2 hy2 hb3
  have hz3 := pcell hS3
  have hy3 := (bcell hS3).2
  go_wp2_with fail
  refine (LENGTH_any r' A' n' c' yss _ B (by have := hS3.size; omega) (HRy.out.below (hS3.mono (by omega)) (Nat.le_refl _)) hn').mono ?_
  rintro e w4 ⟨rfl, hb4⟩
  have hS4 := Below.next hS3 hsW hb4
  clear hz3 hy3 hb4
  have hz4 := pcell hS4
  have hy4 := (bcell hS4).2
  go_wp2_with fail
  refine (ISSHAPE_eq sh true hs _).mono ?_
  rintro e w' ⟨rfl, rfl⟩
  go_wp2_with fail
  go_region_held3 (fun w' => Below (w.heap.size + 3) W w' ∧ ∀ z : Addr, z.block < w.heap.size + 3 → w'.cell? z = W.cell? z)
    ((refine (fun h => ⟨h, pcell h⟩) ?_; repeat (first | assumption | exact Below.refl _ _ | (refine Below.drew ?_) | (refine Below.alloc ?_ (by first | omega | (simp; omega) | exact Nat.le_trans hsW (Below.size (by assumption)) | (simp only [World.size_drew, World.size_alloc]; exact Nat.le_trans hsW (Nat.le_succ_of_le (Below.size (by assumption))))) _) | (refine Below.setCell ?_ (by first | omega | (simp; omega) | exact Nat.le_trans hsW (Below.size (by assumption))) _))))
    (first
      | (go_at_call 58; (with_reducible refine (LENGTH_any r A n c xss _ B ?_ ?_ hn).mono ?_); (exact Below.ge ‹Below (w.heap.size + 3) W _ ∧ _› hsW (by omega)); (exact HRx.out.below ((‹Below (w.heap.size + 3) W _ ∧ _›).1.mono (by omega)) (Nat.le_refl _)); rintro e w7 ⟨rfl, hb7⟩; have hbS := Below.next (‹Below (w.heap.size + 3) W _ ∧ _›).1 hsW hb7)
      | (go_at_call 58; (with_reducible refine (LENGTH_any r' A' n' c' yss _ B ?_ ?_ hn').mono ?_); (exact Below.ge ‹Below (w.heap.size + 3) W _ ∧ _› hsW (by omega)); (exact HRy.out.below ((‹Below (w.heap.size + 3) W _ ∧ _›).1.mono (by omega)) (Nat.le_refl _)); rintro e w7 ⟨rfl, hb7⟩; have hbS := Below.next (‹Below (w.heap.size + 3) W _ ∧ _›).1 hsW hb7))
  rw [HW1.out, HW2.out]
  clear hz4 hy4
  have hS9 := hbS
  have hz9 := pcell hS9
  have hy9 := (bcell hS9).2
  go_wp2_with fail
  refine end_snd3 (o0 := .int .i64 0) (o1 := .slice none 0 0) rfl rfl rfl ?_ ?_ ?_
  · rw [hz9 _ (by simp), hcW _ _ (by simp)]; simp [go_sem]
  · rw [hz9 _ (by simp), hcW _ _ (by simp)]; simp [go_sem]
  · exact OutS3.err rfl (set2_below (hbW.trans (hS9.mono (by omega))) (by omega))
set_option maxRecDepth 100000 in
set_option maxHeartbeats 800000 in
theorem RCROSS_both (r r' : Int) (A A' : Option Addr) (n n' c c' : Nat) (m sh : Int) (xss yss : List (List Int)) (hc : both1 r r' xss yss ≠ 0) (w : World) (B : Nat) (hB : B ≤ w.heap.size) (hh : Hid (RowsAt w B A n xss)) (hh' : Hid (RowsAt w B A' n' yss)) :
    Calls Try.prog 56 #[.agg #[.int .i64 r, .slice A n c], .agg #[.int .i64 r', .slice A' n' c'], .int .i64 m, .int .i64 sh] w (OutS3 w 0 [] 0 (both1 r r' xss yss)) := by
  have hq : (both1 r r' xss yss != 0) = true := by simpa using hc
  clear hc
  go_enter Try.func56, Try.ntmps56
  go_wp2_with fail
  refine calls_later (w.heap.size + 3) ?_
  intro W hW hsW
  obtain ⟨hcW, hfW⟩ := bcell hW
  simp only [World.size_alloc] at hsW
  have hbW : Below w.heap.size w W := ((((Below.refl _ w).alloc (Nat.le_refl _) _).alloc (by simp) _).alloc (by simp; omega) _).trans (hW.mono (by omega))
  have HRx : Hid (RowsAt W B A n xss) := hh.out.below hbW hB
  have HRy : Hid (RowsAt W B A' n' yss) := hh'.out.below hbW hB
  refine (RBOTH_any r r' A A' n n' c c' xss yss _ B (by omega) (hh.out.below hbW hB) (hh'.out.below hbW hB)).mono ?_
  rintro e w2 ⟨rfl, hb2⟩
  have hS2 : Below (w.heap.size + 3) W w2 := hb2.mono hsW
  have hz2 := pcell hS2
  have hy2 := (bcell hS2).2
  clear hb2
  go_wp2_with fail
  refine end_snd3 (o0 := .int .i64 0) (o1 := .slice none 0 0) rfl rfl rfl ?_ ?_ ?_
  · rw [hz2 _ (by simp), hcW _ _ (by simp)]; simp [go_sem]
  · rw [hz2 _ (by simp), hcW _ _ (by simp)]; simp [go_sem]
  · exact OutS3.err rfl (set2_below (hbW.trans (hS2.mono (by omega))) (by omega))
set_option maxRecDepth 100000 in
set_option maxHeartbeats 800000 in
theorem RCROSS_alike (r r' : Int) (A A' : Option Addr) (n n' c c' : Nat) (m sh : Int) (xss yss : List (List Int)) (hc : Hid (both1 r r' xss yss = 0)) (hd : alikeB r r' n n' ≠ 0) (w : World) (B : Nat) (hB : B ≤ w.heap.size) (hh : Hid (RowsAt w B A n xss)) (hh' : Hid (RowsAt w B A' n' yss)) :
    Calls Try.prog 56 #[.agg #[.int .i64 r, .slice A n c], .agg #[.int .i64 r', .slice A' n' c'], .int .i64 m, .int .i64 sh] w (OutS3 w 0 [] 0 (alikeB r r' n n')) := by
  have hq : (both1 r r' xss yss != 0) = false := by rw [hc.out]; rfl
  have hq2 : (alikeB r r' n n' != 0) = true := by simpa using hd
  clear hd
  go_enter Try.func56, Try.ntmps56
  go_wp2_with fail
  refine calls_later (w.heap.size + 3) ?_
  intro W hW hsW
  obtain ⟨hcW, hfW⟩ := bcell hW
  simp only [World.size_alloc] at hsW
  have hbW : Below w.heap.size w W := ((((Below.refl _ w).alloc (Nat.le_refl _) _).alloc (by simp) _).alloc (by simp; omega) _).trans (hW.mono (by omega))
  have HRx : Hid (RowsAt W B A n xss) := hh.out.below hbW hB
  have HRy : Hid (RowsAt W B A' n' yss) := hh'.out.below hbW hB
  refine (RBOTH_any r r' A A' n n' c c' xss yss _ B (by omega) (hh.out.below hbW hB) (hh'.out.below hbW hB)).mono ?_
  rintro e w2 ⟨rfl, hb2⟩
  have hS2 : Below (w.heap.size + 3) W w2 := hb2.mono hsW
  have hz2 := pcell hS2
  have hy2 := (bcell hS2).2
  clear hb2
  go_wp2_with fail
  refine (RALIKE_any r r' A A' n n' c c' _).mono ?_
  rintro e w3 ⟨rfl, hb3⟩
  have hS3 := Below.next hS2 hsW hb3
  clear hz2 hy2 hb3
  have hz3 := pcell hS3
  have hy3 := (bcell hS3).2
  go_wp2_with fail
  refine end_snd3 (o0 := .int .i64 0) (o1 := .slice none 0 0) rfl rfl rfl ?_ ?_ ?_
  · rw [hz3 _ (by simp), hcW _ _ (by simp)]; simp [go_sem]
  · rw [hz3 _ (by simp), hcW _ _ (by simp)]; simp [go_sem]
  · exact OutS3.err rfl (set2_below (hbW.trans (hS3.mono (by omega))) (by omega))
set_option maxRecDepth 100000 in
set_option maxHeartbeats 800000 in
theorem RCROSS_neg (r r' : Int) (A A' : Option Addr) (n n' c c' : Nat) (m sh : Int) (xss yss : List (List Int)) (hc : Hid (both1 r r' xss yss = 0)) (hd : Hid (alikeB r r' n n' = 0)) (hn : 0 < n) (hn' : 0 < n') (h0 : m < 0) (w : World) (B : Nat) (hB : B ≤ w.heap.size) (hh : Hid (RowsAt w B A n xss)) (hh' : Hid (RowsAt w B A' n' yss)) :
    Calls Try.prog 56 #[.agg #[.int .i64 r, .slice A n c], .agg #[.int .i64 r', .slice A' n' c'], .int .i64 m, .int .i64 sh] w (OutS3 w 0 [] 0 (1)) := by
  have hq : (both1 r r' xss yss != 0) = false := by rw [hc.out]; rfl
  have hq2 : (alikeB r r' n n' != 0) = false := by rw [hd.out]; rfl
  have d1 : decide (m < 0) = true := by simpa using h0
  clear h0
  go_enter Try.func56, Try.ntmps56
  go_wp2_with fail
  refine calls_later (w.heap.size + 3) ?_
  intro W hW hsW
  obtain ⟨hcW, hfW⟩ := bcell hW
  simp only [World.size_alloc] at hsW
  have hbW : Below w.heap.size w W := ((((Below.refl _ w).alloc (Nat.le_refl _) _).alloc (by simp) _).alloc (by simp; omega) _).trans (hW.mono (by omega))
  have HRx : Hid (RowsAt W B A n xss) := hh.out.below hbW hB
  have HRy : Hid (RowsAt W B A' n' yss) := hh'.out.below hbW hB
  refine (RBOTH_any r r' A A' n n' c c' xss yss _ B (by omega) (hh.out.below hbW hB) (hh'.out.below hbW hB)).mono ?_
  rintro e w2 ⟨rfl, hb2⟩
  have hS2 : Below (w.heap.size + 3) W w2 := hb2.mono hsW
  have hz2 := pcell hS2
  have hy2 := (bcell hS2).2
  clear hb2
  go_wp2_with fail
  refine (RALIKE_any r r' A A' n n' c c' _).mono ?_
  rintro e w3 ⟨rfl, hb3⟩
  have hS3 := Below.next hS2 hsW hb3
  clear hz2 hy2 hb3
  have hz3 := pcell hS3
  have hy3 := (bcell hS3).2
  go_wp2_with fail
  refine end_snd3 (o0 := .int .i64 0) (o1 := .slice none 0 0) rfl rfl rfl ?_ ?_ ?_
  · rw [hz3 _ (by simp), hcW _ _ (by simp)]; simp [go_sem]
  · rw [hz3 _ (by simp), hcW _ _ (by simp)]; simp [go_sem]
  · exact OutS3.err rfl (set2_below (hbW.trans (hS3.mono (by omega))) (by omega))
set_option maxRecDepth 100000 in
set_option maxHeartbeats 800000 in
theorem RCROSS_ra (r r' : Int) (A A' : Option Addr) (n n' c c' : Nat) (m sh : Int) (xss yss : List (List Int)) (hc : Hid (both1 r r' xss yss = 0)) (hd : Hid (alikeB r r' n n' = 0)) (hn : 0 < n) (hn' : 0 < n') (h0 : 0 ≤ m) (h1 : (len0 xss : Int) < m) (w : World) (B : Nat) (hB : B ≤ w.heap.size) (hh : Hid (RowsAt w B A n xss)) (hh' : Hid (RowsAt w B A' n' yss)) :
    Calls Try.prog 56 #[.agg #[.int .i64 r, .slice A n c], .agg #[.int .i64 r', .slice A' n' c'], .int .i64 m, .int .i64 sh] w (OutS3 w 0 [] 0 (1)) := by
  have hq : (both1 r r' xss yss != 0) = false := by rw [hc.out]; rfl
  have hq2 : (alikeB r r' n n' != 0) = false := by rw [hd.out]; rfl
  have d1 : decide (m < 0) = false := by simp; omega
  go_enter Try.func56, Try.ntmps56
  go_wp2_with fail
  refine calls_later (w.heap.size + 3) ?_
  intro W hW hsW
  obtain ⟨hcW, hfW⟩ := bcell hW
  simp only [World.size_alloc] at hsW
  have hbW : Below w.heap.size w W := ((((Below.refl _ w).alloc (Nat.le_refl _) _).alloc (by simp) _).alloc (by simp; omega) _).trans (hW.mono (by omega))
  have HRx : Hid (RowsAt W B A n xss) := hh.out.below hbW hB
  have HRy : Hid (RowsAt W B A' n' yss) := hh'.out.below hbW hB
  refine (RBOTH_any r r' A A' n n' c c' xss yss _ B (by omega) (hh.out.below hbW hB) (hh'.out.below hbW hB)).mono ?_
  rintro e w2 ⟨rfl, hb2⟩
  have hS2 : Below (w.heap.size + 3) W w2 := hb2.mono hsW
  have hz2 := pcell hS2
  have hy2 := (bcell hS2).2
  clear hb2
  go_wp2_with fail
  refine (RALIKE_any r r' A A' n n' c c' _).mono ?_
  rintro e w3 ⟨rfl, hb3⟩
  have hS3 := Below.next hS2 hsW hb3
  clear hz2 hy2 hb3
  have hz3 := pcell hS3
  have hy3 := (bcell hS3).2
  go_wp2_with fail
  refine (RLONG_any r A n c xss _ B (by have := hS3.size; omega) (HRx.out.below (hS3.mono (by omega)) (Nat.le_refl _)) hn).mono ?_
  rintro e w4 ⟨rfl, hb4⟩
  have hS4 := Below.next hS3 hsW hb4
  clear hz3 hy3 hb4
  have hz4 := pcell hS4
  have hy4 := (bcell hS4).2
  go_wp2_with fail
  refine end_snd3 (o0 := .int .i64 0) (o1 := .slice none 0 0) rfl rfl rfl ?_ ?_ ?_
  · rw [hz4 _ (by simp), hcW _ _ (by simp)]; simp [go_sem]
  · rw [hz4 _ (by simp), hcW _ _ (by simp)]; simp [go_sem]
  · exact OutS3.err rfl (set2_below (hbW.trans (hS4.mono (by omega))) (by omega))
set_option maxRecDepth 100000 in
set_option maxHeartbeats 800000 in
theorem RCROSS_rb (r r' : Int) (A A' : Option Addr) (n n' c c' : Nat) (m sh : Int) (xss yss : List (List Int)) (hc : Hid (both1 r r' xss yss = 0)) (hd : Hid (alikeB r r' n n' = 0)) (hn : 0 < n) (hn' : 0 < n') (h0 : 0 ≤ m) (h1 : ¬ (len0 xss : Int) < m) (h2 : (len0 yss : Int) < m) (w : World) (B : Nat) (hB : B ≤ w.heap.size) (hh : Hid (RowsAt w B A n xss)) (hh' : Hid (RowsAt w B A' n' yss)) :
    Calls Try.prog 56 #[.agg #[.int .i64 r, .slice A n c], .agg #[.int .i64 r', .slice A' n' c'], .int .i64 m, .int .i64 sh] w (OutS3 w 0 [] 0 (1)) := by
  have hq : (both1 r r' xss yss != 0) = false := by rw [hc.out]; rfl
  have hq2 : (alikeB r r' n n' != 0) = false := by rw [hd.out]; rfl
  have d1 : decide (m < 0) = false := by simp; omega
  go_enter Try.func56, Try.ntmps56
  go_wp2_with fail
  refine calls_later (w.heap.size + 3) ?_
  intro W hW hsW
  obtain ⟨hcW, hfW⟩ := bcell hW
  simp only [World.size_alloc] at hsW
  have hbW : Below w.heap.size w W := ((((Below.refl _ w).alloc (Nat.le_refl _) _).alloc (by simp) _).alloc (by simp; omega) _).trans (hW.mono (by omega))
  have HRx : Hid (RowsAt W B A n xss) := hh.out.below hbW hB
  have HRy : Hid (RowsAt W B A' n' yss) := hh'.out.below hbW hB
  refine (RBOTH_any r r' A A' n n' c c' xss yss _ B (by omega) (hh.out.below hbW hB) (hh'.out.below hbW hB)).mono ?_
  rintro e w2 ⟨rfl, hb2⟩
  have hS2 : Below (w.heap.size + 3) W w2 := hb2.mono hsW
  have hz2 := pcell hS2
  have hy2 := (bcell hS2).2
  clear hb2
  go_wp2_with fail
  refine (RALIKE_any r r' A A' n n' c c' _).mono ?_
  rintro e w3 ⟨rfl, hb3⟩
  have hS3 := Below.next hS2 hsW hb3
  clear hz2 hy2 hb3
  have hz3 := pcell hS3
  have hy3 := (bcell hS3).2
  go_wp2_with fail
  refine (RLONG_any r A n c xss _ B (by have := hS3.size; omega) (HRx.out.below (hS3.mono (by omega)) (Nat.le_refl _)) hn).mono ?_
  rintro e w4 ⟨rfl, hb4⟩
  have hS4 := Below.next hS3 hsW hb4
  clear hz3 hy3 hb4
  have hz4 := pcell hS4
  have hy4 := (bcell hS4).2
  go_wp2_with fail
  refine (RLONG_any r' A' n' c' yss _ B (by have := hS4.size; omega) (HRy.out.below (hS4.mono (by omega)) (Nat.le_refl _)) hn').mono ?_
  rintro e w5 ⟨rfl, hb5⟩
  have hS5 := Below.next hS4 hsW hb5
  clear hz4 hy4 hb5
  have hz5 := pcell hS5
  have hy5 := (bcell hS5).2
  go_wp2_with fail
  refine end_snd3 (o0 := .int .i64 0) (o1 := .slice none 0 0) rfl rfl rfl ?_ ?_ ?_
  · rw [hz5 _ (by simp), hcW _ _ (by simp)]; simp [go_sem]
  · rw [hz5 _ (by simp), hcW _ _ (by simp)]; simp [go_sem]
  · exact OutS3.err rfl (set2_below (hbW.trans (hS5.mono (by omega))) (by omega))
set_option maxRecDepth 100000 in
set_option maxHeartbeats 800000 in
theorem RCROSS_shape (r r' : Int) (A A' : Option Addr) (n n' c c' : Nat) (m sh : Int) (xss yss : List (List Int)) (hc : Hid (both1 r r' xss yss = 0)) (hd : Hid (alikeB r r' n n' = 0)) (hn : 0 < n) (hn' : 0 < n') (h0 : 0 ≤ m) (h1 : ¬ (len0 xss : Int) < m) (h2 : ¬ (len0 yss : Int) < m) (hs : Hid (shB sh = false)) (w : World) (B : Nat) (hB : B ≤ w.heap.size) (hh : Hid (RowsAt w B A n xss)) (hh' : Hid (RowsAt w B A' n' yss)) :
    Calls Try.prog 56 #[.agg #[.int .i64 r, .slice A n c], .agg #[.int .i64 r', .slice A' n' c'], .int .i64 m, .int .i64 sh] w (OutS3 w 0 [] 0 (4)) := by
  have hq : (both1 r r' xss yss != 0) = false := by rw [hc.out]; rfl
  have hq2 : (alikeB r r' n n' != 0) = false := by rw [hd.out]; rfl
  have d1 : decide (m < 0) = false := by simp; omega
  go_enter Try.func56, Try.ntmps56
  go_wp2_with fail
  refine calls_later (w.heap.size + 3) ?_
  intro W hW hsW
  obtain ⟨hcW, hfW⟩ := bcell hW
  simp only [World.size_alloc] at hsW
  have hbW : Below w.heap.size w W := ((((Below.refl _ w).alloc (Nat.le_refl _) _).alloc (by simp) _).alloc (by simp; omega) _).trans (hW.mono (by omega))
  have HRx : Hid (RowsAt W B A n xss) := hh.out.below hbW hB
  have HRy : Hid (RowsAt W B A' n' yss) := hh'.out.below hbW hB
  refine (RBOTH_any r r' A A' n n' c c' xss yss _ B (by omega) (hh.out.below hbW hB) (hh'.out.below hbW hB)).mono ?_
  rintro e w2 ⟨rfl, hb2⟩
  have hS2 : Below (w.heap.size + 3) W w2 := hb2.mono hsW
  have hz2 := pcell hS2
  have hy2 := (bcell hS2).2
  clear hb2
  go_wp2_with fail
  refine (RALIKE_any r r' A A' n n' c c' _).mono ?_
  rintro e w3 ⟨rfl, hb3⟩
  have hS3 := Below.next hS2 hsW hb3
  clear hz2 hy2 hb3
  have hz3 := pcell hS3
  have hy3 := (bcell hS3).2
  go_wp2_with fail
  refine (RLONG_any r A n c xss _ B (by have := hS3.size; omega) (HRx.out.below (hS3.mono (by omega)) (Nat.le_refl _)) hn).mono ?_
  rintro e w4 ⟨rfl, hb4⟩
  have hS4 := Below.next hS3 hsW hb4
  clear hz3 hy3 hb4
  have hz4 := pcell hS4
  have hy4 := (bcell hS4).2
  go_wp2_with fail
  refine (RLONG_any r' A' n' c' yss _ B (by have := hS4.size; omega) (HRy.out.below (hS4.mono (by omega)) (Nat.le_refl _)) hn').mono ?_
  rintro e w5 ⟨rfl, hb5⟩
  have hS5 := Below.next hS4 hsW hb5
  clear hz4 hy4 hb5
  have hz5 := pcell hS5
  have hy5 := (bcell hS5).2
  go_wp2_with fail
  refine (RISSHAPE_eq sh false hs _).mono ?_
  rintro e w' ⟨rfl, rfl⟩
  go_wp2_with fail
  refine end_snd3 (o0 := .int .i64 0) (o1 := .slice none 0 0) rfl rfl rfl ?_ ?_ ?_
  · rw [hz5 _ (by simp), hcW _ _ (by simp)]; simp [go_sem]
  · rw [hz5 _ (by simp), hcW _ _ (by simp)]; simp [go_sem]
  · exact OutS3.err rfl (set2_below (hbW.trans (hS5.mono (by omega))) (by omega))
set_option maxRecDepth 100000 in
set_option maxHeartbeats 800000 in
theorem RCROSS_big (r r' : Int) (A A' : Option Addr) (n n' c c' : Nat) (m sh : Int) (xss yss : List (List Int)) (hc : Hid (both1 r r' xss yss = 0)) (hd : Hid (alikeB r r' n n' = 0)) (hn : 0 < n) (hn' : 0 < n') (h0 : 0 ≤ m) (h1 : ¬ (len0 xss : Int) < m) (h2 : ¬ (len0 yss : Int) < m) (hs : Hid (shB sh = true)) (hm : len0 xss ≤ 100000) (hm' : len0 yss ≤ 100000) (hL : (100000 : Int) < len0 xss + len0 yss - m) (w : World) (B : Nat) (hB : B ≤ w.heap.size) (hh : Hid (RowsAt w B A n xss)) (hh' : Hid (RowsAt w B A' n' yss)) :
    Calls Try.prog 56 #[.agg #[.int .i64 r, .slice A n c], .agg #[.int .i64 r', .slice A' n' c'], .int .i64 m, .int .i64 sh] w (OutS3 w 0 [] 0 (2)) := by
  have hq : (both1 r r' xss yss != 0) = false := by rw [hc.out]; rfl
  have hq2 : (alikeB r r' n n' != 0) = false := by rw [hd.out]; rfl
  have d1 : decide (m < 0) = false := by simp; omega
  have HW1 := Lib.hid (IntWalk.i64_in ((len0 xss : Int) + (len0 yss : Int)) (by omega))
  have HW2 := Lib.hid (IntWalk.i64_in ((len0 xss : Int) + (len0 yss : Int) - m) (by omega))
  go_enter Try.func56, Try.ntmps56
  go_wp2_with fail
  refine calls_later (w.heap.size + 3) ?_
  intro W hW hsW
  obtain ⟨hcW, hfW⟩ := bcell hW
  simp only [World.size_alloc] at hsW
  have hbW : Below w.heap.size w W := ((((Below.refl _ w).alloc (Nat.le_refl _) _).alloc (by simp) _).alloc (by simp; omega) _).trans (hW.mono (by omega))
  have HRx : Hid (RowsAt W B A n xss) := hh.out.below hbW hB
  have HRy : Hid (RowsAt W B A' n' yss) := hh'.out.below hbW hB
  refine (RBOTH_any r r' A A' n n' c c' xss yss _ B (by omega) (hh.out.below hbW hB) (hh'.out.below hbW hB)).mono ?_
  rintro e w2 ⟨rfl, hb2⟩
  have hS2 : Below (w.heap.size + 3) W w2 := hb2.mono hsW
  have hz2 := pcell hS2
  have hy2 := (bcell hS2).2
  clear hb2
  go_wp2_with fail
  refine (RALIKE_any r r' A A' n n' c c' _).mono ?_
  rintro e w3 ⟨rfl, hb3⟩
  have hS3 := Below.next hS2 hsW hb3
  clear hz2 hy2 hb3
  have hz3 := pcell hS3
  have hy3 := (bcell hS3).2
  go_wp2_with fail
  refine (RLONG_any r A n c xss _ B (by have := hS3.size; omega) (HRx.out.below (hS3.mono (by omega)) (Nat.le_refl _)) hn).mono ?_
  rintro e w4 ⟨rfl, hb4⟩
  have hS4 := Below.next hS3 hsW hb4
  clear hz3 hy3 hb4
  have hz4 := pcell hS4
  have hy4 := (bcell hS4).2
  go_wp2_with fail
  refine (RLONG_any r' A' n' c' yss _ B (by have := hS4.size; omega) (HRy.out.below (hS4.mono (by omega)) (Nat.le_refl _)) hn').mono ?_
  rintro e w5 ⟨rfl, hb5⟩
  have hS5 := Below.next hS4 hsW hb5
  clear hz4 hy4 hb5
  have hz5 := pcell hS5
  have hy5 := (bcell hS5).2
  go_wp2_with fail
  refine (RISSHAPE_eq sh true hs _).mono ?_
  rintro e w' ⟨rfl, rfl⟩
  go_wp2_with fail
  go_region_held3 (fun w' => Below (w.heap.size + 3) W w' ∧ ∀ z : Addr, z.block < w.heap.size + 3 → w'.cell? z = W.cell? z)
    ((refine (fun h => ⟨h, pcell h⟩) ?_; repeat (first | assumption | exact Below.refl _ _ | (refine Below.drew ?_) | (refine Below.alloc ?_ (by first | omega | (simp; omega) | exact Nat.le_trans hsW (Below.size (by assumption)) | (simp only [World.size_drew, World.size_alloc]; exact Nat.le_trans hsW (Nat.le_succ_of_le (Below.size (by assumption))))) _) | (refine Below.setCell ?_ (by first | omega | (simp; omega) | exact Nat.le_trans hsW (Below.size (by assumption))) _))))
    (first
      | (go_at_call 66; (with_reducible refine (RLONG_any r A n c xss _ B ?_ ?_ hn).mono ?_); (exact Below.ge ‹Below (w.heap.size + 3) W _ ∧ _› hsW (by omega)); (exact HRx.out.below ((‹Below (w.heap.size + 3) W _ ∧ _›).1.mono (by omega)) (Nat.le_refl _)); rintro e w7 ⟨rfl, hb7⟩; have hbS := Below.next (‹Below (w.heap.size + 3) W _ ∧ _›).1 hsW hb7)
      | (go_at_call 66; (with_reducible refine (RLONG_any r' A' n' c' yss _ B ?_ ?_ hn').mono ?_); (exact Below.ge ‹Below (w.heap.size + 3) W _ ∧ _› hsW (by omega)); (exact HRy.out.below ((‹Below (w.heap.size + 3) W _ ∧ _›).1.mono (by omega)) (Nat.le_refl _)); rintro e w7 ⟨rfl, hb7⟩; have hbS := Below.next (‹Below (w.heap.size + 3) W _ ∧ _›).1 hsW hb7))
  rw [HW1.out, HW2.out]
  clear hz5 hy5
  have hS9 := hbS
  have hz9 := pcell hS9
  have hy9 := (bcell hS9).2
  go_wp2_with fail
  refine end_snd3 (o0 := .int .i64 0) (o1 := .slice none 0 0) rfl rfl rfl ?_ ?_ ?_
  · rw [hz9 _ (by simp), hcW _ _ (by simp)]; simp [go_sem]
  · rw [hz9 _ (by simp), hcW _ _ (by simp)]; simp [go_sem]
  · exact OutS3.err rfl (set2_below (hbW.trans (hS9.mono (by omega))) (by omega))
end Go.Proofs.Ytpnbkkpbgpcgiaa
