/- Mix, the sound's: all ways out. -/
import Derived.Test.YtnhmhjhfoonakaaMix2
set_option linter.unusedSimpArgs false
set_option linter.unusedVariables false
namespace Go.Proofs.Ytnhmhjhfoonakaa
open Go.RowKit Go.Dw
theorem both1_zero {r r' : Int} {xss yss : List (List Int)} (h : both1 r r' xss yss = 0) : OkS r xss ∧ OkS r' yss := by
  unfold both1 at h
  split at h
  · contradiction
  · exact ⟨chkS_ok (by omega), chkS_ok h⟩
theorem both2_zero {r r' : Int} {xss yss : List (List Int)} (h : both2 r r' xss yss = 0) : both1 r r' xss yss = 0 ∧ r = r' ∧ xss.length = yss.length := by
  unfold both2 at h
  split at h
  · contradiction
  · unfold alikeB at h
    split at h
    · cases h
    · exact ⟨by omega, by omega, by omega⟩
def mixS (r r' : Int) (xss yss : List (List Int)) : Int × List (List Int) × Int × Int :=
  if both2 r r' xss yss ≠ 0 then (0, [], 0, both2 r r' xss yss) else (r, clipS (mixT xss yss), stS clipU 0 (mixT xss yss), 0)
set_option maxHeartbeats 800000 in
theorem MIX_err (r r' : Int) (A A' : Option Addr) (n n' c c' : Nat) (xss yss : List (List Int)) (hc : both2 r r' xss yss ≠ 0) (w : World) (B : Nat) (hB : B ≤ w.heap.size) (hh : Hid (RowsAt w B A n xss)) (hh' : Hid (RowsAt w B A' n' yss)) : Calls Try.prog 6 #[.agg #[.int .i64 r, .slice A n c], .agg #[.int .i64 r', .slice A' n' c']] w (OutS3 w 0 [] 0 (both2 r r' xss yss)) := by
  have hq : (both2 r r' xss yss != 0) = true := by simpa using hc
  clear hc
  go_enter Try.func6, Try.ntmps6
  go_wp2_with fail
  refine calls_later (w.heap.size + 3) ?_
  intro W hW hsW
  obtain ⟨hcW, hfW⟩ := bcell hW
  simp only [World.size_alloc] at hsW
  have hbW : Below w.heap.size w W := ((((Below.refl _ w).alloc (Nat.le_refl _) _).alloc (by simp) _).alloc (by simp; omega) _).trans (hW.mono (by omega))
  refine (CHECKBOTH_any r r' A A' n n' c c' xss yss _ B (by omega) (hh.out.below hbW hB) (hh'.out.below hbW hB)).mono ?_
  rintro e w2 ⟨rfl, hb2⟩
  have hS2 : Below (w.heap.size + 3) W w2 := hb2.mono hsW
  have hz2 := pcell hS2
  have hy2 := (bcell hS2).2
  clear hb2
  go_wp2_with fail
  refine end_snd3 (o0 := .int .i64 0) (o1 := .slice none 0 0) rfl rfl rfl ?_ ?_ ?_
  · rw [hz2 _ (by simp), hcW _ _ (by simp)]; simp [go_sem]
  · rw [hz2 _ (by simp), hcW _ _ (by simp)]; simp [go_sem]
  · exact OutS3.err rfl (set2_below (hbW.trans (hS2.mono (by omega))) (by omega))
theorem MIX_any (r r' : Int) (A A' : Option Addr) (n n' c c' : Nat) (xss yss : List (List Int)) (w : World) (B : Nat) (hB : B ≤ w.heap.size) (hh : RowsAt w B A n xss) (hh' : RowsAt w B A' n' yss) :
    Calls Try.prog 6 #[.agg #[.int .i64 r, .slice A n c], .agg #[.int .i64 r', .slice A' n' c']] w (OutS3 w (mixS r r' xss yss).1 (mixS r r' xss yss).2.1 (mixS r r' xss yss).2.2.1 (mixS r r' xss yss).2.2.2) := by
  unfold mixS
  by_cases hc : both2 r r' xss yss = 0
  · rw [if_neg (by simp [hc])]
    obtain ⟨h1, rfl, h3⟩ := both2_zero hc
    obtain ⟨hok, hok'⟩ := both1_zero h1
    have hl := hh.1
    have hl' := hh'.1
    have hn : 0 < n := by have := hok.some; omega
    obtain rfl : n = n' := by omega
    obtain ⟨ad, rfl⟩ := hh.addr hn
    obtain ⟨ad', rfl⟩ := hh'.addr hn
    exact MIX_ok r ad ad' n c c' xss yss hc hok hok' w B hB hh hh'
  · rw [if_pos hc]; exact MIX_err r r' A A' n n' c c' xss yss hc w B hB hh hh'
end Go.Proofs.Ytnhmhjhfoonakaa
