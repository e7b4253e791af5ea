/- Fade on both sides: the ways out. -/
import Derived.Test.YtpnbkkpbgpcgiaaFac
import Derived.Test.YtpnbkkpbgpcgiaaCutF
import Derived.Test.YtpnbkkpbgpcgiaaRCheck
import Derived.Test.YtpnbkkpbgpcgiaaEnds2
set_option linter.unusedSimpArgs false
set_option linter.unusedVariables false
namespace Go.Proofs.Ytpnbkkpbgpcgiaa
open Go.RowKit Go.Dw
set_option maxHeartbeats 800000 in
theorem FADE_chk (r : Int) (A : Option Addr) (n c : Nat) (p q sh : Int) (up : Bool) (xss : List (List Int)) (hc : chkS r xss ≠ 0) (w : World) (B : Nat) (hB : B ≤ w.heap.size) (hh : Hid (RowsAt w B A n xss)) :
    Calls Try.prog 43 #[.agg #[.int .i64 r, .slice A n c], .agg #[.int .i64 p, .int .i64 q], .int .i64 sh, .bool up] w (OutS w 0 [] (chkS r xss)) := by
  have hq : (chkS r xss != 0) = true := by simpa using hc
  clear hc
  go_enter Try.func43, Try.ntmps43
  go_wp2_with fail
  refine calls_later (w.heap.size + 3) ?_
  intro W hW hsW
  obtain ⟨hcW, hfW⟩ := bcell hW
  simp only [World.size_alloc] at hsW
  have hbW : Below w.heap.size w W := ((((Below.refl _ w).alloc (Nat.le_refl _) _).alloc (by simp) _).alloc (by simp; omega) _).trans (hW.mono (by omega))
  refine (CHECK_any r A n c xss _ B (by omega) (hh.out.below hbW hB)).mono ?_
  rintro e w1 ⟨rfl, hb1⟩
  have hS1 : Below (w.heap.size + 3) W w1 := hb1.mono hsW
  have hz1 := pcell hS1
  have hy1 := (bcell hS1).2
  clear hb1
  go_wp2_with fail
  refine end_snd2 (o0 := .int .i64 0) (o1 := .slice none 0 0) rfl rfl rfl ?_ ?_ ?_
  · rw [hz1 _ (by simp), hcW _ _ (by simp)]; simp [go_sem]
  · rw [hz1 _ (by simp), hcW _ _ (by simp)]; simp [go_sem]
  · exact OutS.err rfl (set2_below (hbW.trans (hS1.mono (by omega))) (by omega))
set_option maxHeartbeats 800000 in
theorem FADE_cut (r : Int) (A : Option Addr) (n c : Nat) (p q sh : Int) (up : Bool) (xss : List (List Int)) (hn : 0 < n) (hc : Hid (chkS r xss = 0)) (hd : cutF p q (len0 xss) ≠ 0) (w : World) (B : Nat) (hB : B ≤ w.heap.size) (hh : Hid (RowsAt w B A n xss)) :
    Calls Try.prog 43 #[.agg #[.int .i64 r, .slice A n c], .agg #[.int .i64 p, .int .i64 q], .int .i64 sh, .bool up] w (OutS w 0 [] (cutF p q (len0 xss))) := by
  have hq : (chkS r xss != 0) = false := by rw [hc.out]; rfl
  have hq2 : (cutF p q (len0 xss) != 0) = true := by simpa using hd
  clear hd
  go_enter Try.func43, Try.ntmps43
  go_wp2_with fail
  refine calls_later (w.heap.size + 3) ?_
  intro W hW hsW
  obtain ⟨hcW, hfW⟩ := bcell hW
  simp only [World.size_alloc] at hsW
  have hbW : Below w.heap.size w W := ((((Below.refl _ w).alloc (Nat.le_refl _) _).alloc (by simp) _).alloc (by simp; omega) _).trans (hW.mono (by omega))
  refine (CHECK_any r A n c xss _ B (by omega) (hh.out.below hbW hB)).mono ?_
  rintro e w1 ⟨rfl, hb1⟩
  have hS1 : Below (w.heap.size + 3) W w1 := hb1.mono hsW
  have hz1 := pcell hS1
  have hy1 := (bcell hS1).2
  clear hb1
  go_wp2_with fail
  refine (CHECKCUT_any r A n c p q xss hn _ B (by have := hS1.size; omega) ((hh.out.below hbW hB).below (hS1.mono (by omega)) (Nat.le_refl _))).mono ?_
  rintro e w2 ⟨rfl, hb2⟩
  have hS2 := Below.next hS1 hsW hb2
  clear hz1 hy1 hb2
  have hz2 := pcell hS2
  have hy2 := (bcell hS2).2
  go_wp2_with fail
  refine end_snd2 (o0 := .int .i64 0) (o1 := .slice none 0 0) rfl rfl rfl ?_ ?_ ?_
  · rw [hz2 _ (by simp), hcW _ _ (by simp)]; simp [go_sem]
  · rw [hz2 _ (by simp), hcW _ _ (by simp)]; simp [go_sem]
  · exact OutS.err rfl (set2_below (hbW.trans (hS2.mono (by omega))) (by omega))
set_option maxHeartbeats 800000 in
theorem FADE_shape (r : Int) (A : Option Addr) (n c : Nat) (p q sh : Int) (up : Bool) (xss : List (List Int)) (hn : 0 < n) (hc : Hid (chkS r xss = 0)) (hd : Hid (cutF p q (len0 xss) = 0)) (hs : Hid (shB sh = false)) (w : World) (B : Nat) (hB : B ≤ w.heap.size) (hh : Hid (RowsAt w B A n xss)) :
    Calls Try.prog 43 #[.agg #[.int .i64 r, .slice A n c], .agg #[.int .i64 p, .int .i64 q], .int .i64 sh, .bool up] w (OutS w 0 [] 4) := by
  have hq : (chkS r xss != 0) = false := by rw [hc.out]; rfl
  have hq2 : (cutF p q (len0 xss) != 0) = false := by rw [hd.out]; rfl
  go_enter Try.func43, Try.ntmps43
  go_wp2_with fail
  refine calls_later (w.heap.size + 3) ?_
  intro W hW hsW
  obtain ⟨hcW, hfW⟩ := bcell hW
  simp only [World.size_alloc] at hsW
  have hbW : Below w.heap.size w W := ((((Below.refl _ w).alloc (Nat.le_refl _) _).alloc (by simp) _).alloc (by simp; omega) _).trans (hW.mono (by omega))
  refine (CHECK_any r A n c xss _ B (by omega) (hh.out.below hbW hB)).mono ?_
  rintro e w1 ⟨rfl, hb1⟩
  have hS1 : Below (w.heap.size + 3) W w1 := hb1.mono hsW
  have hz1 := pcell hS1
  have hy1 := (bcell hS1).2
  clear hb1
  go_wp2_with fail
  refine (CHECKCUT_any r A n c p q xss hn _ B (by have := hS1.size; omega) ((hh.out.below hbW hB).below (hS1.mono (by omega)) (Nat.le_refl _))).mono ?_
  rintro e w2 ⟨rfl, hb2⟩
  have hS2 := Below.next hS1 hsW hb2
  clear hz1 hy1 hb2
  have hz2 := pcell hS2
  have hy2 := (bcell hS2).2
  go_wp2_with fail
  refine (ISSHAPE_eq sh false hs _).mono ?_
  rintro e w' ⟨rfl, rfl⟩
  go_wp2_with fail
  refine end_snd2 (o0 := .int .i64 0) (o1 := .slice none 0 0) rfl rfl rfl ?_ ?_ ?_
  · rw [hz2 _ (by simp), hcW _ _ (by simp)]; simp [go_sem]
  · rw [hz2 _ (by simp), hcW _ _ (by simp)]; simp [go_sem]
  · exact OutS.err rfl (set2_below (hbW.trans (hS2.mono (by omega))) (by omega))
set_option maxHeartbeats 800000 in
theorem RFADE_chk (r : Int) (A : Option Addr) (n c : Nat) (p q sh : Int) (up : Bool) (xss : List (List Int)) (hc : chkS r xss ≠ 0) (w : World) (B : Nat) (hB : B ≤ w.heap.size) (hh : Hid (RowsAt w B A n xss)) :
    Calls Try.prog 44 #[.agg #[.int .i64 r, .slice A n c], .agg #[.int .i64 p, .int .i64 q], .int .i64 sh, .bool up] w (OutS w 0 [] (chkS r xss)) := by
  have hq : (chkS r xss != 0) = true := by simpa using hc
  clear hc
  go_enter Try.func44, Try.ntmps44
  go_wp2_with fail
  refine calls_later (w.heap.size + 3) ?_
  intro W hW hsW
  obtain ⟨hcW, hfW⟩ := bcell hW
  simp only [World.size_alloc] at hsW
  have hbW : Below w.heap.size w W := ((((Below.refl _ w).alloc (Nat.le_refl _) _).alloc (by simp) _).alloc (by simp; omega) _).trans (hW.mono (by omega))
  refine (RCHECK_any r A n c xss _ B (by omega) (hh.out.below hbW hB)).mono ?_
  rintro e w1 ⟨rfl, hb1⟩
  have hS1 : Below (w.heap.size + 3) W w1 := hb1.mono hsW
  have hz1 := pcell hS1
  have hy1 := (bcell hS1).2
  clear hb1
  go_wp2_with fail
  refine end_snd2 (o0 := .int .i64 0) (o1 := .slice none 0 0) rfl rfl rfl ?_ ?_ ?_
  · rw [hz1 _ (by simp), hcW _ _ (by simp)]; simp [go_sem]
  · rw [hz1 _ (by simp), hcW _ _ (by simp)]; simp [go_sem]
  · exact OutS.err rfl (set2_below (hbW.trans (hS1.mono (by omega))) (by omega))
set_option maxHeartbeats 800000 in
theorem RFADE_cut (r : Int) (A : Option Addr) (n c : Nat) (p q sh : Int) (up : Bool) (xss : List (List Int)) (hn : 0 < n) (hc : Hid (chkS r xss = 0)) (hd : cutF p q (len0 xss) ≠ 0) (w : World) (B : Nat) (hB : B ≤ w.heap.size) (hh : Hid (RowsAt w B A n xss)) :
    Calls Try.prog 44 #[.agg #[.int .i64 r, .slice A n c], .agg #[.int .i64 p, .int .i64 q], .int .i64 sh, .bool up] w (OutS w 0 [] (cutF p q (len0 xss))) := by
  have hq : (chkS r xss != 0) = false := by rw [hc.out]; rfl
  have hq2 : (cutF p q (len0 xss) != 0) = true := by simpa using hd
  clear hd
  go_enter Try.func44, Try.ntmps44
  go_wp2_with fail
  refine calls_later (w.heap.size + 3) ?_
  intro W hW hsW
  obtain ⟨hcW, hfW⟩ := bcell hW
  simp only [World.size_alloc] at hsW
  have hbW : Below w.heap.size w W := ((((Below.refl _ w).alloc (Nat.le_refl _) _).alloc (by simp) _).alloc (by simp; omega) _).trans (hW.mono (by omega))
  refine (RCHECK_any r A n c xss _ B (by omega) (hh.out.below hbW hB)).mono ?_
  rintro e w1 ⟨rfl, hb1⟩
  have hS1 : Below (w.heap.size + 3) W w1 := hb1.mono hsW
  have hz1 := pcell hS1
  have hy1 := (bcell hS1).2
  clear hb1
  go_wp2_with fail
  refine (RWITHIN_any r A n c p q xss hn _ B (by have := hS1.size; omega) ((hh.out.below hbW hB).below (hS1.mono (by omega)) (Nat.le_refl _))).mono ?_
  rintro e w2 ⟨rfl, hb2⟩
  have hS2 := Below.next hS1 hsW hb2
  clear hz1 hy1 hb2
  have hz2 := pcell hS2
  have hy2 := (bcell hS2).2
  go_wp2_with fail
  refine end_snd2 (o0 := .int .i64 0) (o1 := .slice none 0 0) rfl rfl rfl ?_ ?_ ?_
  · rw [hz2 _ (by simp), hcW _ _ (by simp)]; simp [go_sem]
  · rw [hz2 _ (by simp), hcW _ _ (by simp)]; simp [go_sem]
  · exact OutS.err rfl (set2_below (hbW.trans (hS2.mono (by omega))) (by omega))
set_option maxHeartbeats 800000 in
theorem RFADE_shape (r : Int) (A : Option Addr) (n c : Nat) (p q sh : Int) (up : Bool) (xss : List (List Int)) (hn : 0 < n) (hc : Hid (chkS r xss = 0)) (hd : Hid (cutF p q (len0 xss) = 0)) (hs : Hid (shB sh = false)) (w : World) (B : Nat) (hB : B ≤ w.heap.size) (hh : Hid (RowsAt w B A n xss)) :
    Calls Try.prog 44 #[.agg #[.int .i64 r, .slice A n c], .agg #[.int .i64 p, .int .i64 q], .int .i64 sh, .bool up] w (OutS w 0 [] 4) := by
  have hq : (chkS r xss != 0) = false := by rw [hc.out]; rfl
  have hq2 : (cutF p q (len0 xss) != 0) = false := by rw [hd.out]; rfl
  go_enter Try.func44, Try.ntmps44
  go_wp2_with fail
  refine calls_later (w.heap.size + 3) ?_
  intro W hW hsW
  obtain ⟨hcW, hfW⟩ := bcell hW
  simp only [World.size_alloc] at hsW
  have hbW : Below w.heap.size w W := ((((Below.refl _ w).alloc (Nat.le_refl _) _).alloc (by simp) _).alloc (by simp; omega) _).trans (hW.mono (by omega))
  refine (RCHECK_any r A n c xss _ B (by omega) (hh.out.below hbW hB)).mono ?_
  rintro e w1 ⟨rfl, hb1⟩
  have hS1 : Below (w.heap.size + 3) W w1 := hb1.mono hsW
  have hz1 := pcell hS1
  have hy1 := (bcell hS1).2
  clear hb1
  go_wp2_with fail
  refine (RWITHIN_any r A n c p q xss hn _ B (by have := hS1.size; omega) ((hh.out.below hbW hB).below (hS1.mono (by omega)) (Nat.le_refl _))).mono ?_
  rintro e w2 ⟨rfl, hb2⟩
  have hS2 := Below.next hS1 hsW hb2
  clear hz1 hy1 hb2
  have hz2 := pcell hS2
  have hy2 := (bcell hS2).2
  go_wp2_with fail
  refine (RISSHAPE_eq sh false hs _).mono ?_
  rintro e w' ⟨rfl, rfl⟩
  go_wp2_with fail
  refine end_snd2 (o0 := .int .i64 0) (o1 := .slice none 0 0) rfl rfl rfl ?_ ?_ ?_
  · rw [hz2 _ (by simp), hcW _ _ (by simp)]; simp [go_sem]
  · rw [hz2 _ (by simp), hcW _ _ (by simp)]; simp [go_sem]
  · exact OutS.err rfl (set2_below (hbW.trans (hS2.mono (by omega))) (by omega))
end Go.Proofs.Ytpnbkkpbgpcgiaa
