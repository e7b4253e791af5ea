/- The document's micros. -/
import Derived.Test.YthjmhdnamhifjaaDoorYq
import Derived.Test.YthjmhdnamhifjaaDoorYq
import Derived.Deep.QuietTactic
set_option linter.unusedSimpArgs false
set_option linter.unusedVariables false
namespace Go.Proofs.YthjmhdnamhifjaaDoor
open Go.RowKit Go.Dw
theorem mom_drop_low {l : List Pr} {t : Int} {k : Nat} (hok : OkP l) (hk : k < l.length) (h : t ≤ (prOf l k).1) : mom t (l.drop k) = 0 := by
  rw [drop_pr hk]; exact mom_low h
set_option maxRecDepth 100000 in
set_option maxHeartbeats 4000000 in
theorem MICROS_any (A A' : Option Addr) (n c n' c' : Nat) (l : List Pr) (t : Int) (ht0 : 0 ≤ t) (ht1 : t ≤ 1000000000) (hok : Hid (OkP l)) (w : World) (B : Nat) (hB : B ≤ w.heap.size) (hh : Hid (PrsAt w B A n l)) :
    Calls Tryd.prog 72 #[.agg #[.slice A n c, .slice A' n' c'], .int .i64 t] w fun e w' => e = .returned (.int .i64 (mom t l)) ∧ Below w.heap.size w w' := by
  have hl := Lib.hid hh.out.1
  have hn200 : n ≤ 200 := by rw [← hl.out]; exact hok.out.few
  have HTOP : Hid (mom t l ≤ 60000000000000000) := (mom_top hok.out ht0 ht1).2
  go_enter Tryd.func72, Tryd.ntmps72
  go_wp2_with fail
  refine wp_later (w.heap.size + 1) ?_
  intro W hW hsW
  obtain ⟨hcW, hfW⟩ := bcell hW
  simp only [World.size_alloc] at hsW
  have hbW : Below w.heap.size w W := ((Below.refl _ w).alloc (Nat.le_refl _) _).trans (hW.mono (by omega))
  have HC0 : Hid (W.cell? ⟨w.heap.size, 0, none⟩ = some (.slice A n c)) := by show _ = _; rw [hcW _ _ (by omega)]; simp [go_sem]
  have HW := Lib.hid hbW
  have HSW := Lib.hid hsW
  obtain ⟨gx, hgx⟩ : ∃ gx, gx = w.heap.size := ⟨_, rfl⟩
  have HGX := Lib.hid hgx
  rw [← hgx] at HC0 ⊢
  clear hW hcW hfW hbW hsW hgx
  go_loopw [5, 6] (fun v i wr => ∃ (k : Nat) (S : Int), k ≤ n ∧ i = .int .i64 k ∧ v = .int .i64 S ∧ 0 ≤ S ∧ S ≤ 60000000000000000 ∧ Hid (mom t l = S + mom t (l.drop k)) ∧ Hid (Below (w.heap.size + 1) W wr)) (fun _ i _ => n - (intOf i).toNat)
  case atStart => exact ⟨0, 0, Nat.zero_le _, rfl, rfl, by omega, by omega, (show _ = _ by rw [List.drop_zero, Int.zero_add]), Below.refl _ _⟩
  case round =>
    obtain ⟨k, S, hk, rfl, rfl, hS0, hS1, HM, hb⟩ := hrel
    have hc0 : wr.cell? ⟨gx, 0, none⟩ = some (.slice A n c) := (hb.out.cell (p := ⟨gx, 0, none⟩) (by rw [HGX.out]; exact Nat.lt_succ_self _)).trans HC0.out
    have hsz : w.heap.size + 1 ≤ wr.heap.size := Nat.le_trans HSW.out hb.out.size
    have hgw : gx < wr.heap.size := by have := HGX.out; omega
    by_cases hlt : k < n
    · obtain ⟨bA, oA, rfl, hbA, k1, k2⟩ := (hh.out.below ((HW.out.mono hB).trans (hb.out.mono (by omega))) (Nat.le_refl _)).2 k hlt
      have hkl : k < l.length := by rw [hl.out]; exact hlt
      have hD := drop_pr hkl
      have HI := Lib.hid (incT_drop k hok.out.inc)
      have hr1 := hok.out.rng _ (pr_mem hkl)
      rw [hD] at HI HM
      have hm1 := incT_head HI.out
      have hbAw : bA < wr.heap.size := by omega
      obtain ⟨p, hp⟩ : ∃ p, prOf l k = p := ⟨_, rfl⟩
      rw [hp] at k1 k2 HI HM hr1 hm1
      obtain ⟨a, m⟩ := p
      dsimp only at k1 k2 hr1 hm1
      obtain ⟨ha0, ha1⟩ := hr1
      obtain ⟨hm0, hm2⟩ := hm1
      have hk0 : (0 : Int) ≤ (k : Int) := by omega
      have hkn : (k : Int) < (n : Int) := by omega
      clear hp hD
      by_cases hk1 : k + 1 < n
      · obtain ⟨bC, oC, e2, hbC, q1, _⟩ := (hh.out.below ((HW.out.mono hB).trans (hb.out.mono (by omega))) (Nat.le_refl _)).2 (k + 1) hk1
        injection e2 with e2
        injection e2 with e3 e4 _
        subst e3 e4
        have hql := hok.out.rng _ (pr_mem (l := l) (k := k + 1) (by rw [hl.out]; exact hk1))
        have HCON := Lib.hid (mom_cons (t := t) (p := (a, m)) (l := l.drop (k + 1)) (by rw [List.length_drop, hl.out]; omega))
        have hq0 : prOf (l.drop (k + 1)) 0 = prOf l (k + 1) := by simp [prOf, List.getD, List.getElem?_drop]
        have HLOW := Lib.hid (fun h => mom_drop_low (t := t) hok.out (k := k + 1) (by rw [hl.out]; exact hk1) h)
        rw [hq0] at HCON
        obtain ⟨q, hq⟩ : ∃ q, (prOf l (k + 1)).1 = q := ⟨_, rfl⟩
        have HIN : Hid (a < q) := by
          show _ < _
          have h := HI.out
          have hdd := drop_pr (l := l) (k := k + 1) (by rw [hl.out]; exact hk1)
          rw [hdd] at h
          have h2 := h.2.1
          rw [hq] at h2
          exact h2
        rw [hq] at q1 hql HCON HLOW
        obtain ⟨hq2, hq3⟩ := hql
        have hkI : (k : Int) + 1 < (n : Int) := by omega
        have hq1' : wr.cell? ⟨bA, oA + (k + 1) * 2, none⟩ = some (.int .i64 q) := q1
        have hN0 := mom_pos (t := t) (incT_tail HI.out)
        dsimp only at HCON
        clear hq hq0 q1
        by_cases htq : q < t
        · have haq : a < q := HIN.out
          have HCV : Hid (mom t ((a, m) :: l.drop (k + 1)) = (q - a) * m + mom t (l.drop (k + 1))) := by
            show _ = _
            rw [HCON.out, if_neg (by omega), show min t q = q by omega]
          have hqa : ¬ q ≤ a := by omega
          clear HCON HIN HLOW
          have hpr := mul_pos_le (a := q - a) (m := m) (by omega) hm0 hm2
          have HX : Hid (mom t l = (S + (q - a) * m) + mom t (l.drop (k + 1))) := by
            show _ = _
            rw [HM.out, HCV.out]; omega
          obtain ⟨P, hP⟩ : ∃ P, (q - a) * m = P := ⟨_, rfl⟩
          rw [hP] at hpr HX
          obtain ⟨hpr0, hpr1⟩ := hpr
          have hS2 : S + P ≤ 60000000000000000 := by
            have h1 := HTOP.out
            rw [HX.out] at h1
            omega
          have hPw : IntKind.i64.wrap P = P := IntWalk.i64_in _ ⟨by omega, by omega⟩
          have hSw : IntKind.i64.wrap (S + P) = S + P := IntWalk.i64_in _ ⟨by omega, by omega⟩
          have hDw : IntKind.i64.wrap (q - a) = q - a := IntWalk.i64_in _ ⟨by omega, by omega⟩
          have HPW := Lib.hid (And.intro hP (And.intro hPw (And.intro hSw hDw)))
          have hS3 : 0 ≤ S + P := by omega
          clear hP hPw hSw hDw
          go_wp2_with fail
          go_quiet (fail)
          have HS2 := Lib.hid (belowN hb.out nq)
          go_wp2_with fail
          go_roundw
          case rel => exact ⟨k + 1, S + P, by omega, by go_num, by rw [HPW.out.2.2.2, HPW.out.1, HPW.out.2.1, HPW.out.2.2.1], hS3, hS2, HX, HS2⟩
          case measure => simp [intOf]; omega
        · by_cases hta : t ≤ a
          · have HX : Hid (mom t l = S + mom t (l.drop (k + 1))) := by
              show _ = _
              rw [HLOW.out (by have := HIN.out; omega), HM.out, HCON.out, if_pos (by omega)]
            clear HCON HIN HLOW
            go_wp2_with fail
            go_roundw
            case rel => exact ⟨k + 1, S, by omega, by go_num, rfl, hS0, hS1, HX, hb⟩
            case measure => simp [intOf]; omega
          · have HCV : Hid (mom t ((a, m) :: l.drop (k + 1)) = (t - a) * m + mom t (l.drop (k + 1))) := by
              show _ = _
              rw [HCON.out, if_neg (by omega), show min t q = t by omega]
            clear HCON HIN HLOW
            have hpr := mul_pos_le (a := t - a) (m := m) (by omega) hm0 hm2
            have HX : Hid (mom t l = (S + (t - a) * m) + mom t (l.drop (k + 1))) := by
              show _ = _
              rw [HM.out, HCV.out]; omega
            obtain ⟨P, hP⟩ : ∃ P, (t - a) * m = P := ⟨_, rfl⟩
            rw [hP] at hpr HX
            obtain ⟨hpr0, hpr1⟩ := hpr
            have hS2 : S + P ≤ 60000000000000000 := by
              have h1 := HTOP.out
              rw [HX.out] at h1
              omega
            have hPw : IntKind.i64.wrap P = P := IntWalk.i64_in _ ⟨by omega, by omega⟩
            have hSw : IntKind.i64.wrap (S + P) = S + P := IntWalk.i64_in _ ⟨by omega, by omega⟩
            have hDw : IntKind.i64.wrap (t - a) = t - a := IntWalk.i64_in _ ⟨by omega, by omega⟩
            have HPW := Lib.hid (And.intro hP (And.intro hPw (And.intro hSw hDw)))
            have hS3 : 0 ≤ S + P := by omega
            clear hP hPw hSw hDw
            go_wp2_with fail
            go_quiet (fail)
            have HS2 := Lib.hid (belowN hb.out nq)
            go_wp2_with fail
            go_roundw
            case rel => exact ⟨k + 1, S + P, by omega, by go_num, by rw [HPW.out.2.2.2, HPW.out.1, HPW.out.2.1, HPW.out.2.2.1], hS3, hS2, HX, HS2⟩
            case measure => simp [intOf]; omega
      · have hkI : ¬ (k : Int) + 1 < (n : Int) := by omega
        have HCON := Lib.hid (mom_last (t := t) (p := (a, m)) (l := l.drop (k + 1)) (by rw [List.length_drop, hl.out]; omega))
        have HNIL : Hid (mom t (l.drop (k + 1)) = 0) := by
          show _ = _
          rw [List.drop_of_length_le (by rw [hl.out]; omega)]; rfl
        have hN0 : 0 ≤ mom t (l.drop (k + 1)) := by rw [HNIL.out]; exact Int.le_refl _
        dsimp only at HCON
        by_cases hta : t ≤ a
        · have HX : Hid (mom t l = S + mom t (l.drop (k + 1))) := by
            show _ = _
            rw [HNIL.out, HM.out, HCON.out, if_pos hta]
          clear HCON
          go_wp2_with fail
          go_roundw
          case rel => exact ⟨k + 1, S, by omega, by go_num, rfl, hS0, hS1, HX, hb⟩
          case measure => simp [intOf]; omega
        · have HCV : Hid (mom t ((a, m) :: l.drop (k + 1)) = (t - a) * m + mom t (l.drop (k + 1))) := by
            show _ = _
            rw [HCON.out, if_neg hta, HNIL.out, Int.add_zero]
          clear HCON
          have hpr := mul_pos_le (a := t - a) (m := m) (by omega) hm0 hm2
          have HX : Hid (mom t l = (S + (t - a) * m) + mom t (l.drop (k + 1))) := by
            show _ = _
            rw [HM.out, HCV.out]; omega
          obtain ⟨P, hP⟩ : ∃ P, (t - a) * m = P := ⟨_, rfl⟩
          rw [hP] at hpr HX
          obtain ⟨hpr0, hpr1⟩ := hpr
          have hS2 : S + P ≤ 60000000000000000 := by
            have h1 := HTOP.out
            rw [HX.out] at h1
            omega
          have hPw : IntKind.i64.wrap P = P := IntWalk.i64_in _ ⟨by omega, by omega⟩
          have hSw : IntKind.i64.wrap (S + P) = S + P := IntWalk.i64_in _ ⟨by omega, by omega⟩
          have hDw : IntKind.i64.wrap (t - a) = t - a := IntWalk.i64_in _ ⟨by omega, by omega⟩
          have HPW := Lib.hid (And.intro hP (And.intro hPw (And.intro hSw hDw)))
          have hS3 : 0 ≤ S + P := by omega
          clear hP hPw hSw hDw
          go_wp2_with fail
          go_quiet (fail)
          have HS2 := Lib.hid (belowN hb.out nq)
          go_wp2_with fail
          go_roundw
          case rel => exact ⟨k + 1, S + P, by omega, by go_num, by rw [HPW.out.2.2.2, HPW.out.1, HPW.out.2.1, HPW.out.2.2.1], hS3, hS2, HX, HS2⟩
          case measure => simp [intOf]; omega
    · obtain rfl : k = n := by omega
      go_wp2_with fail
      go_ret
      refine ⟨?_, HW.out.trans (hb.out.mono (by omega))⟩
      have h := HM.out
      rw [List.drop_of_length_le (by rw [hl.out]; exact Nat.le_refl _)] at h
      rw [h, show mom t [] = 0 from rfl, Int.add_zero]
      rfl
end Go.Proofs.YthjmhdnamhifjaaDoor
