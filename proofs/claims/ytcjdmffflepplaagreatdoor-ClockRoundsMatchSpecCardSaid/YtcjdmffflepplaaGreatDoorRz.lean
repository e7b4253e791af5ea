/- The document's Rounded. -/
import Derived.Test.YtcjdmffflepplaaGreatDoorRr
import Derived.Test.YtcjdmffflepplaaGreatDoorRo
import Derived.Test.YtcjdmffflepplaaGreatDoorRp
set_option linter.unusedSimpArgs false
set_option linter.unusedVariables false
namespace Go.Proofs.YtcjdmffflepplaaGreatDoor
open Go.RowKit Go.Dw Go.Joins
set_option maxRecDepth 100000 in
set_option maxHeartbeats 1000000 in
theorem RROUNDED_any (s t : ByteArray) (way : Int) (hs : s.size ≤ maxLen) (ht : t.size ≤ maxLen) (w : World) (ht9 : Hid (TabAt w)) :
    Calls Tryz.prog 12 #[.agg #[.string s, .string t], .int .i64 way] w fun e w' => e = .returned (.tuple #[.int .i64 (rndS s t way).1, .int .i64 (rndS s t way).2]) ∧ Below w.heap.size w w' := by
  obtain ⟨W, gx, hW, hgx, HHW, HBW, HSW⟩ := cell_new w 28 #[.string s, .string t]
  have HGX := Lib.hid hgx
  obtain ⟨x0, x1, _, _⟩ := two_cells HHW.out
  have hgw := blk_lt HHW.out
  obtain ⟨k, hk⟩ : ∃ k, chkQ s t = k := ⟨_, rfl⟩
  have HK := Lib.hid hk
  clear hk
  go_enter Tryz.func12, Tryz.ntmps12
  go_upto_region 1 with (fail)
  rw [← hW, ← hgx]
  clear hW hgx
  go_wp2_with fail
  refine (RCHECKRATIO_any s t hs ht _).mono ?_
  rintro e w1 ⟨rfl, hb1⟩
  rw [HK.out]
  obtain ⟨x0, x1⟩ := two_keep (And.intro x0 x1) hb1 (by dsimp only; omega) (by dsimp only; omega)
  have HB1 := Lib.hid (HBW.out.trans (hb1.mono HBW.out.size))
  clear hb1
  by_cases h0 : k = 0
  · subst h0
    have HR := Lib.hid (Rt.of HK.out)
    obtain ⟨q, hq⟩ : ∃ q, valQ s t = q := ⟨_, rfl⟩
    rw [hq] at HR
    clear hq
    obtain ⟨b, hb⟩ : ∃ b, okWay way = b := ⟨_, rfl⟩
    have HY : Hid ((decide (1 ≤ way) && decide (way ≤ 3)) = b) := hb
    have HOW := Lib.hid hb
    clear hb
    cases b with
    | false =>
      have HV : Hid (rndS s t way = (0, 4)) := by show _ = _; unfold rndS; rw [if_pos HK.out, if_pos HOW.out]
      go_wp2_with (go_at_call 33; refine (RWAY_any way _).mono ?_; rintro e w2 ⟨rfl, rfl⟩; rw [HY.out])
      go_ret2
      exact ⟨by rw [HV.out]; rfl, HB1.out⟩
    | true =>
      have HV : Hid (rndS s t way = rndZ (roundQ q way)) := rndS_rt HR.out HOW.out
      go_wp2_with (go_at_call 33; refine (RWAY_any way _).mono ?_; rintro e w2 ⟨rfl, rfl⟩; rw [HY.out])
      refine (ROF_ok HR.out _).mono ?_
      rintro e w3 ⟨neg, A, n, c, A', n', c', rfl, h3, k3, k4, hb3⟩
      have H3 := Lib.hid h3
      have HB3 := Lib.hid (HB1.out.trans (hb3.mono HB1.out.size))
      clear h3 hb3
      go_wp2_with fail
      refine (RROUND_any neg A A' n c n' c' q way 4611686018427387904 (by omega) HOW.out (by omega) (by omega) _ (Lib.hid (ht9.out.below HB3.out)) w3.heap.size (Nat.le_refl _) H3).mono ?_
      rintro e w4 ⟨rfl, hb4⟩
      have HB4 := Lib.hid (HB3.out.trans (hb4.mono HB3.out.size))
      clear hb4
      have HRR : Hid (rndZ (roundQ q way) = if (rndR q way 4611686018427387904).2 = true then ((rndR q way 4611686018427387904).1, 0) else (0, 1)) := by
        show _ = _
        unfold rndZ rndR
        by_cases h : (roundQ q way).natAbs ≤ 4611686018427387904
        · rw [if_pos h, if_pos h]; rfl
        · rw [if_neg h, if_neg h]; rfl
      obtain ⟨⟨z, ok⟩, hz⟩ : ∃ r, rndR q way 4611686018427387904 = r := ⟨_, rfl⟩
      rw [hz] at HRR ⊢
      rw [HRR.out] at HV
      clear hz HRR
      dsimp only at HV ⊢
      cases ok with
      | true =>
        rw [if_pos rfl] at HV
        go_wp2_with fail
        go_ret2
        exact ⟨by rw [HV.out]; rfl, HB4.out⟩
      | false =>
        rw [if_neg (by simp)] at HV
        go_wp2_with fail
        go_ret2
        exact ⟨by rw [HV.out]; rfl, HB4.out⟩
  · have h1 : (k != 0) = true := by simpa using h0
    have HV : Hid (rndS s t way = (0, k)) := by show _ = _; unfold rndS; rw [if_neg (by rw [HK.out]; exact h0), HK.out]
    clear h0
    go_wp2_with fail
    go_ret2
    exact ⟨by rw [HV.out]; rfl, HB1.out⟩
end Go.Proofs.YtcjdmffflepplaaGreatDoor
