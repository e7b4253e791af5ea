/- What is proved: sound.Resample is as specified, with all errors (SoundResamplesMatchSpec), for every sound and every rate; no condition. -/
import Derived.Test.YtpnbkkpbgpcgiaaRes4
import Derived.Test.YtpnbkkpbgpcgiaaSame
import Derived.Test.YtpnbkkpbgpcgiaaPeak
import Derived.Test.YtpnbkkpbgpcgiaaLift
set_option linter.unusedSimpArgs false
set_option linter.unusedVariables false
namespace Go.Proofs.Ytpnbkkpbgpcgiaa
open Go.ChangeShapes Go.WideShapes Go.ChangeAt Go.RowKit Go.Dw

set_option maxHeartbeats 800000 in
theorem lawRes_walk (r : Int) (A : Option Addr) (n c : Nat) (q : Int) (xss : List (List Int)) (w : World) (hh : Hid (RowsAt w w.heap.size A n xss)) :
    Calls Try.prog 5 #[.agg #[.int .i64 r, .slice A n c], .int .i64 q] w fun e w' => e = .returned (.bool true) ∧ Below w.heap.size w w' := by
  go_enter Try.func5, Try.ntmps5
  go_wp2_with fail
  refine calls_later (w.heap.size + 1) ?_
  intro W hW hsW
  obtain ⟨hcW, hfW⟩ := bcell hW
  simp only [World.size_alloc] at hsW
  have hbW : Below w.heap.size w W := ((Below.refl _ w).alloc (Nat.le_refl _) _).trans (hW.mono (by omega))
  refine (RESAMPLE_any r A n c q xss _ w.heap.size (by omega) (hh.out.below hbW (Nat.le_refl _))).mono ?_
  rintro e w1 ⟨v1, rfl, ho1, hb1⟩
  obtain ⟨A1, c1, rfl, _, _⟩ := ho1.form
  have hz1 := pcell (hb1.mono hsW)
  have hs1 := hb1.size
  have hbw1 := hbW.trans (hb1.mono (show w.heap.size ≤ W.heap.size by omega))
  have hlt0 : w.heap.size < w1.heap.size := by omega
  go_wp2_with fail
  refine (RRESAMPLE_any r A n c q xss _ w.heap.size (by simp; omega) ((hh.out.below hbw1 (Nat.le_refl _)).below ((Below.refl _ _).alloc (by omega) _) (Nat.le_refl _))).mono ?_
  rintro e w2 ⟨v2, rfl, ho2, hb2⟩
  obtain ⟨A2, c2, rfl, _, _⟩ := ho2.form
  have hs2 := hb2.size
  simp only [World.size_alloc] at hs2
  have hz2 := pcell hb2
  have hlt2 : w1.heap.size < w2.heap.size := by omega
  have hst : sameS (rsS r xss q).1 (rsS r xss q).2.1 (rsS r xss q).1 (rsS r xss q).2.1 = true := by simp [sameS]
  have hx1 := (ho1.rows.below ((Below.refl _ w1).alloc (Nat.le_refl _) (.cells #[.int .i64 (rsS r xss q).1, .slice A1 (rsS r xss q).2.1.length c1] 24)) (Nat.le_refl _)).below hb2 (by simp)
  have HX := Lib.hid (hx1.mono (show w1.heap.size ≤ w2.heap.size by omega))
  have HY := Lib.hid ho2.rows
  clear hx1
  go_wp2_with fail
  refine (SAME_any _ _ _ _ _ _ _ _ (rsS r xss q).2.1 (rsS r xss q).2.1 _ w2.heap.size (by simp) (HX.out.below ((Below.refl _ _).alloc (Nat.le_refl _) _) (Nat.le_refl _)) (HY.out.below ((Below.refl _ _).alloc (Nat.le_refl _) _) (Nat.le_refl _))).mono ?_
  rintro e w3 ⟨rfl, hb3⟩
  rw [hst]
  go_wp2_with fail
  refine (AWAKE_any _).mono ?_
  rintro e w4 ⟨rfl, hb4⟩
  go_wp2_with fail
  go_ret
  have hs3 := hb3.size
  simp only [World.size_alloc] at hs3
  have hb12 : Below w.heap.size w1 w2 := ((Below.refl _ _).alloc (by omega) _).trans (hb2.mono (by simp; omega))
  have hb23 : Below w.heap.size w2 w3 := ((Below.refl _ _).alloc (by omega) _).trans (hb3.mono (by simp; omega))
  exact ⟨rfl, (hbw1.trans hb12).trans (hb23.trans (hb4.mono (by omega)))⟩

theorem lawRes_rd : ∀ t ∈ Try.f5.params.toList, Try.prog.readableRec t = true ∧ t < Try.prog.types.size := by
  rw [Try.params5]
  intro t ht
  simp only [List.mem_cons, List.not_mem_nil, or_false] at ht
  rcases ht with rfl | rfl
  · exact rd_SND
  · exact rd_INT
set_option maxRecDepth 100000 in
theorem lawRes_lifted (os : Os) (started : os.Started) (H : Type) (enc : TypeId × Value → H) :
    ReturnsInHanded {} Try.checked os 5 .any (Rows.soundResamplesMatchSpecSpec.pre6 enc Try.prog Try.f5 Rows.soundResamplesMatchSpecRow.domain false) (Rows.soundResamplesMatchSpecSpec.post enc Try.prog Try.f5 false true false false) := by
  refine returnsInHanded_of_change (C := Try.checked) own started (by kernel_rfl) Try.func5
    (ChangeSpec.witness6 (enc := enc) (C := Try.checked) false ⟨#[], #[.agg #[.int .i64 0, .slice none 0 0], .int .i64 0], []⟩ 8 (by kernel_rfl) (by kernel_rfl) (by kernel_rfl) (by kernel_rfl)) ?_
  intro W base args ds gs before hval0 hW _ _
  have hval : ∀ (j : Nat) t v, Try.f5.params[j]? = some t → args[j]? = some v → Value.okWide Try.prog W .any base t v := hval0
  have hW' := hW
  obtain ⟨p, q, hA0, hV, rfl, _, _⟩ := hW
  have hA : DataW.TrodAll enc Try.prog W 0 (fun _ => true) true Try.f5.params.toList args.toList ds p := hA0
  rw [Try.params5] at hA hval
  obtain ⟨v0, v1, d0, d1, p0, p1, rfl, rfl, rfl, h0, h1⟩ := trodAll_two hA
  obtain ⟨rfl, rfl⟩ := trodVars_none hV
  obtain ⟨r, A, n, c, xss, rfl, _, _, _, hr⟩ := open_snd (hval 0 24 v0 rfl rfl) h0
  obtain ⟨a, rfl, rfl, rfl, _⟩ := open_int Try.underlying3 (hval 1 3 v1 rfl rfl) h1
  clear hA0 hval0
  refine (lawRes_walk r A n c a xss W hr).mono fun e W' ⟨he, hb⟩ => ?_
  subst he
  exact ⟨_, rfl, law_post rfl (by kernel_rfl) lawRes_rd hW' rfl hb⟩

theorem lawRes_holds : Rows.SoundResamplesMatchSpecSaid :=
  OpenClaim.holds_of_wide 5 Try.f5 rfl rfl rfl rfl rfl rfl rfl ⟨rfl, rfl, rfl, rfl, rfl⟩ rfl rfl rfl rfl rfl (by kernel_rfl) Try.func5 (by kernel_rfl)
    (of_decide_eq_true (by kernel_rfl)) (by unfold Func.isWrapper; first | (rw [if_pos (by decide +kernel)]; kernel_rfl) | (rw [if_neg (by decide +kernel)]; exact ⟨rfl, rfl⟩))
    (fun os started H enc _ => lawRes_lifted os started H enc)
end Go.Proofs.Ytpnbkkpbgpcgiaa
