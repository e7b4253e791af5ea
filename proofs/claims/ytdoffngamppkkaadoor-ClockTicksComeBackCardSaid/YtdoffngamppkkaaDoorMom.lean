/- moment, the sound of a map of tempos: what it reckons. -/
import Derived.Test.YtdoffngamppkkaaDoorTickS
import Derived.Test.YtdoffngamppkkaaDoorMem
import Derived.Test.YtdoffngamppkkaaDoorRegion2
import Derived.IntWalk
import Derived.Deep.Cut
import Derived.RegionTactic
import Derived.BigRegion
set_option linter.unusedSimpArgs false
set_option linter.unusedVariables false
namespace Go.Proofs.YtdoffngamppkkaaDoor
open Go.RowKit Go.Dw
def prOf (l : List Pr) (k : Nat) : Pr := l.getD k (0, 0)
/-- a row of pairs of whole numbers that lies below block B -/
def PrsAt (w : World) (B : Nat) (A : Option Addr) (n : Nat) (l : List Pr) : Prop :=
  l.length = n ∧ ∀ k, k < n → ∃ b o, A = some ⟨b, o, none⟩ ∧ b < B ∧ w.cell? ⟨b, o + k * 2, none⟩ = some (.int .i64 (prOf l k).1) ∧ w.cell? ⟨b, o + k * 2 + 1, none⟩ = some (.int .i64 (prOf l k).2)
theorem PrsAt.below {w w' : World} {B B' : Nat} {A : Option Addr} {n : Nat} {l : List Pr} (h : PrsAt w B A n l) (hb : Below B' w w') (hB : B ≤ B') : PrsAt w' B A n l :=
  ⟨h.1, fun k hk => by
    obtain ⟨b, o, e, h1, h2, h3⟩ := h.2 k hk
    exact ⟨b, o, e, h1, (hb.cell (p := ⟨b, o + k * 2, none⟩) (by dsimp only; omega)).trans h2, (hb.cell (p := ⟨b, o + k * 2 + 1, none⟩) (by dsimp only; omega)).trans h3⟩⟩
theorem PrsAt.mono {w : World} {B B' : Nat} {A : Option Addr} {n : Nat} {l : List Pr} (h : PrsAt w B A n l) (hB : B ≤ B') : PrsAt w B' A n l :=
  ⟨h.1, fun k hk => by
    obtain ⟨b, o, e, h1, h2⟩ := h.2 k hk
    exact ⟨b, o, e, by omega, h2⟩⟩
/-- tempos that are right -/
structure OkP (l : List Pr) : Prop where
  inc : incT l
  rng : ∀ p ∈ l, 0 ≤ p.1 ∧ p.1 ≤ 1000000000
  some : 0 < l.length
  few : l.length ≤ 200
  first : (prOf l 0).1 = 0
theorem drop_pr {l : List Pr} {k : Nat} (hk : k < l.length) : l.drop k = prOf l k :: l.drop (k + 1) := by
  rw [List.drop_eq_getElem_cons hk]; simp [prOf, List.getD, List.getElem?_eq_getElem hk]
theorem pr_mem {l : List Pr} {k : Nat} (hk : k < l.length) : prOf l k ∈ l := by
  simp [prOf, List.getD, List.getElem?_eq_getElem hk]
theorem incT_tail : ∀ {l : List Pr} {p : Pr}, incT (p :: l) → incT l
  | [], _, _ => trivial
  | _ :: _, _, h => h.2.2
theorem incT_drop : ∀ {l : List Pr} (k : Nat), incT l → incT (l.drop k)
  | _, 0, h => h
  | [], k + 1, h => h
  | p :: l, k + 1, h => incT_drop k (incT_tail h)
theorem mom_cons {t : Int} {p : Pr} {l : List Pr} (hl : 0 < l.length) : mom t (p :: l) = if min t (prOf l 0).1 ≤ p.1 then 0 else (min t (prOf l 0).1 - p.1) * p.2 + mom t l := by
  cases l with
  | nil => simp at hl
  | cons q r => rfl
theorem mom_last {t : Int} {p : Pr} {l : List Pr} (hl : l.length = 0) : mom t (p :: l) = if t ≤ p.1 then 0 else (t - p.1) * p.2 := by
  cases l with
  | nil => rfl
  | cons q r => simp at hl
theorem incT_head {p : Pr} {l : List Pr} (h : incT (p :: l)) : 1 ≤ p.2 ∧ p.2 ≤ 60000000 := by
  cases l with
  | nil => exact h
  | cons q r => exact h.1
theorem mom_pos {t : Int} : ∀ {l : List Pr}, incT l → 0 ≤ mom t l
  | [], _ => Int.le_refl _
  | p :: l, h => by
    by_cases ht : p.1 ≤ t
    · exact (mom_le h ht).1
    · rw [mom_low (by omega)]; exact Int.le_refl _
set_option maxRecDepth 100000 in
set_option maxHeartbeats 4000000 in
theorem MOMENT_any (A A' : Option Addr) (n c n' c' : Nat) (l : List Pr) (t : Int) (ht0 : 0 ≤ t) (ht1 : t ≤ 1000000000) (hok : Hid (OkP l)) (w : World) (B : Nat) (hB : B ≤ w.heap.size) (hh : Hid (PrsAt w B A n l)) :
    Calls Tryd.prog 29 #[.agg #[.slice A n c, .slice A' n' c'], .int .i64 t] w fun e w' => e = .returned (.int .i64 (mom t l)) ∧ Below w.heap.size w w' := by
  have hl := Lib.hid hh.out.1
  have hn200 : n ≤ 200 := by rw [← hl.out]; exact hok.out.few
  have HTOP : Hid (mom t l ≤ 60000000000000000) := by
    show _ ≤ _
    have h1 := hok.out.some
    have h2 := hok.out.first
    obtain ⟨p, r, e⟩ : ∃ p r, l = p :: r := by cases l with | nil => simp at h1 | cons p r => exact ⟨p, r, rfl⟩
    have h3 : p.1 = 0 := by rw [e] at h2; exact h2
    have hi := hok.out.inc
    rw [e] at hi ⊢
    have := (mom_le hi (t := t) (by omega)).2
    rw [h3] at this
    omega
  go_enter Tryd.func29, Tryd.ntmps29
  go_wp2_with fail
  refine wp_later (w.heap.size + 1) ?_
  intro W hW hsW
  obtain ⟨hcW, hfW⟩ := bcell hW
  simp only [World.size_alloc] at hsW
  have hbW : Below w.heap.size w W := ((Below.refl _ w).alloc (Nat.le_refl _) _).trans (hW.mono (by omega))
  have HC0 : Hid (W.cell? ⟨w.heap.size, 0, none⟩ = some (.slice A n c)) := by show _ = _; rw [hcW _ _ (by omega)]; simp [go_sem]
  have HW := Lib.hid hbW
  have HSW := Lib.hid hsW
  obtain ⟨gx, hgx⟩ : ∃ gx, gx = w.heap.size := ⟨_, rfl⟩
  have HGX := Lib.hid hgx
  rw [← hgx] at HC0 ⊢
  clear hW hcW hfW hbW hsW hgx
  go_loopw [5, 12] (fun v i wr => ∃ (k : Nat) (S : Int), k ≤ n ∧ i = .int .i64 k ∧ v = .int .i64 S ∧ 0 ≤ S ∧ S ≤ 60000000000000000 ∧ Hid (mom t l = S + mom t (l.drop k)) ∧ Hid (Below (w.heap.size + 1) W wr)) (fun _ i _ => n - (intOf i).toNat)
  case atStart => exact ⟨0, 0, Nat.zero_le _, rfl, rfl, by omega, by omega, (show _ = _ by rw [List.drop_zero, Int.zero_add]), Below.refl _ _⟩
  case round =>
    obtain ⟨k, S, hk, rfl, rfl, hS0, hS1, HM, hb⟩ := hrel
    have hc0 : wr.cell? ⟨gx, 0, none⟩ = some (.slice A n c) := (hb.out.cell (p := ⟨gx, 0, none⟩) (by rw [HGX.out]; exact Nat.lt_succ_self _)).trans HC0.out
    have hsz : w.heap.size + 1 ≤ wr.heap.size := Nat.le_trans HSW.out hb.out.size
    have hgw : gx < wr.heap.size := by have := HGX.out; omega
    by_cases hlt : k < n
    · obtain ⟨bA, oA, rfl, hbA, k1, k2⟩ := (hh.out.below ((HW.out.mono hB).trans (hb.out.mono (by omega))) (Nat.le_refl _)).2 k hlt
      have hkl : k < l.length := by rw [hl.out]; exact hlt
      have hD := drop_pr hkl
      have HI := Lib.hid (incT_drop k hok.out.inc)
      have hr1 := hok.out.rng _ (pr_mem hkl)
      rw [hD] at HI HM
      have hm1 := incT_head HI.out
      have hbAw : bA < wr.heap.size := by omega
      obtain ⟨p, hp⟩ : ∃ p, prOf l k = p := ⟨_, rfl⟩
      rw [hp] at k1 k2 HI HM hr1 hm1
      obtain ⟨a, m⟩ := p
      dsimp only at k1 k2 hr1 hm1
      obtain ⟨ha0, ha1⟩ := hr1
      obtain ⟨hm0, hm2⟩ := hm1
      have hk0 : (0 : Int) ≤ (k : Int) := by omega
      have hkn : (k : Int) < (n : Int) := by omega
      clear hp hD
      by_cases hk1 : k + 1 < n
      · obtain ⟨bC, oC, e2, hbC, q1, _⟩ := (hh.out.below ((HW.out.mono hB).trans (hb.out.mono (by omega))) (Nat.le_refl _)).2 (k + 1) hk1
        injection e2 with e2
        injection e2 with e3 e4 _
        subst e3 e4
        have hql := hok.out.rng _ (pr_mem (l := l) (k := k + 1) (by rw [hl.out]; exact hk1))
        have HCON := Lib.hid (mom_cons (t := t) (p := (a, m)) (l := l.drop (k + 1)) (by rw [List.length_drop, hl.out]; omega))
        have hq0 : prOf (l.drop (k + 1)) 0 = prOf l (k + 1) := by simp [prOf, List.getD, List.getElem?_drop]
        rw [hq0] at HCON
        obtain ⟨q, hq⟩ : ∃ q, (prOf l (k + 1)).1 = q := ⟨_, rfl⟩
        have HIN : Hid (a < q) := by
          show _ < _
          have h := HI.out
          have hdd := drop_pr (l := l) (k := k + 1) (by rw [hl.out]; exact hk1)
          rw [hdd] at h
          have h2 := h.2.1
          rw [hq] at h2
          exact h2
        rw [hq] at q1 hql HCON
        obtain ⟨hq2, hq3⟩ := hql
        have hkI : (k : Int) + 1 < (n : Int) := by omega
        have hq1' : wr.cell? ⟨bA, oA + (k + 1) * 2, none⟩ = some (.int .i64 q) := q1
        have hN0 := mom_pos (t := t) (incT_tail HI.out)
        dsimp only at HCON
        clear hq hq0 q1
        by_cases htq : q < t
        · have haq : a < q := HIN.out
          have HCV : Hid (mom t ((a, m) :: l.drop (k + 1)) = (q - a) * m + mom t (l.drop (k + 1))) := by
            show _ = _
            rw [HCON.out, if_neg (by omega), show min t q = q by omega]
          have hqa : ¬ q ≤ a := by omega
          clear HCON HIN
          have hpr := mul_pos_le (a := q - a) (m := m) (by omega) hm0 hm2
          have HX : Hid (mom t l = (S + (q - a) * m) + mom t (l.drop (k + 1))) := by
            show _ = _
            rw [HM.out, HCV.out]; omega
          obtain ⟨P, hP⟩ : ∃ P, (q - a) * m = P := ⟨_, rfl⟩
          rw [hP] at hpr HX
          obtain ⟨hpr0, hpr1⟩ := hpr
          have hS2 : S + P ≤ 60000000000000000 := by
            have h1 := HTOP.out
            rw [HX.out] at h1
            omega
          have hPw : wrap64 P = P := IntWalk.wrap64_in _ ⟨by omega, by omega⟩
          have hSw : wrap64 (S + P) = S + P := IntWalk.wrap64_in _ ⟨by omega, by omega⟩
          have HPW := Lib.hid (And.intro hP (And.intro hPw hSw))
          have hS3 : 0 ≤ S + P := by omega
          clear hP hPw hSw
          go_wp2_with fail
          go_roundw
          case rel => exact ⟨k + 1, S + P, by omega, by go_num, by rw [HPW.out.1, HPW.out.2.1, HPW.out.2.2], hS3, hS2, HX, Lib.hid (hb.out.alloc hsz _)⟩
          case measure => simp [intOf]; omega
        · by_cases hta : t ≤ a
          · have HCV : Hid (mom t ((a, m) :: l.drop (k + 1)) = 0) := by
              show _ = _
              rw [HCON.out, if_pos (by omega)]
            clear HCON HIN
            go_wp2_with fail
            go_ret
            refine ⟨?_, HW.out.trans ((hb.out.alloc hsz _).mono (by omega))⟩
            rw [HM.out, HCV.out, Int.add_zero]
            rfl
          · have HCV : Hid (mom t ((a, m) :: l.drop (k + 1)) = (t - a) * m + mom t (l.drop (k + 1))) := by
              show _ = _
              rw [HCON.out, if_neg (by omega), show min t q = t by omega]
            clear HCON HIN
            have hpr := mul_pos_le (a := t - a) (m := m) (by omega) hm0 hm2
            have HX : Hid (mom t l = (S + (t - a) * m) + mom t (l.drop (k + 1))) := by
              show _ = _
              rw [HM.out, HCV.out]; omega
            obtain ⟨P, hP⟩ : ∃ P, (t - a) * m = P := ⟨_, rfl⟩
            rw [hP] at hpr HX
            obtain ⟨hpr0, hpr1⟩ := hpr
            have hS2 : S + P ≤ 60000000000000000 := by
              have h1 := HTOP.out
              rw [HX.out] at h1
              omega
            have hPw : wrap64 P = P := IntWalk.wrap64_in _ ⟨by omega, by omega⟩
            have hSw : wrap64 (S + P) = S + P := IntWalk.wrap64_in _ ⟨by omega, by omega⟩
            have HPW := Lib.hid (And.intro hP (And.intro hPw hSw))
            have hS3 : 0 ≤ S + P := by omega
            clear hP hPw hSw
            go_wp2_with fail
            go_roundw
            case rel => exact ⟨k + 1, S + P, by omega, by go_num, by rw [HPW.out.1, HPW.out.2.1, HPW.out.2.2], hS3, hS2, HX, Lib.hid (hb.out.alloc hsz _)⟩
            case measure => simp [intOf]; omega
      · have hkI : ¬ (k : Int) + 1 < (n : Int) := by omega
        have HCON := Lib.hid (mom_last (t := t) (p := (a, m)) (l := l.drop (k + 1)) (by rw [List.length_drop, hl.out]; omega))
        have HNIL : Hid (mom t (l.drop (k + 1)) = 0) := by
          show _ = _
          rw [List.drop_of_length_le (by rw [hl.out]; omega)]; rfl
        have hN0 : 0 ≤ mom t (l.drop (k + 1)) := by rw [HNIL.out]; exact Int.le_refl _
        dsimp only at HCON
        by_cases hta : t ≤ a
        · have HCV : Hid (mom t ((a, m) :: l.drop (k + 1)) = 0) := by
            show _ = _
            rw [HCON.out, if_pos hta]
          clear HCON
          go_wp2_with fail
          go_ret
          refine ⟨?_, HW.out.trans ((hb.out.alloc hsz _).mono (by omega))⟩
          rw [HM.out, HCV.out, Int.add_zero]
          rfl
        · have HCV : Hid (mom t ((a, m) :: l.drop (k + 1)) = (t - a) * m + mom t (l.drop (k + 1))) := by
            show _ = _
            rw [HCON.out, if_neg hta, HNIL.out, Int.add_zero]
          clear HCON
          have hpr := mul_pos_le (a := t - a) (m := m) (by omega) hm0 hm2
          have HX : Hid (mom t l = (S + (t - a) * m) + mom t (l.drop (k + 1))) := by
            show _ = _
            rw [HM.out, HCV.out]; omega
          obtain ⟨P, hP⟩ : ∃ P, (t - a) * m = P := ⟨_, rfl⟩
          rw [hP] at hpr HX
          obtain ⟨hpr0, hpr1⟩ := hpr
          have hS2 : S + P ≤ 60000000000000000 := by
            have h1 := HTOP.out
            rw [HX.out] at h1
            omega
          have hPw : wrap64 P = P := IntWalk.wrap64_in _ ⟨by omega, by omega⟩
          have hSw : wrap64 (S + P) = S + P := IntWalk.wrap64_in _ ⟨by omega, by omega⟩
          have HPW := Lib.hid (And.intro hP (And.intro hPw hSw))
          have hS3 : 0 ≤ S + P := by omega
          clear hP hPw hSw
          go_wp2_with fail
          go_roundw
          case rel => exact ⟨k + 1, S + P, by omega, by go_num, by rw [HPW.out.1, HPW.out.2.1, HPW.out.2.2], hS3, hS2, HX, Lib.hid (hb.out.alloc hsz _)⟩
          case measure => simp [intOf]; omega
    · obtain rfl : k = n := by omega
      go_wp2_with fail
      go_ret
      refine ⟨?_, HW.out.trans (hb.out.mono (by omega))⟩
      have h := HM.out
      rw [List.drop_of_length_le (by rw [hl.out]; exact Nat.le_refl _)] at h
      rw [h, show mom t [] = 0 from rfl, Int.add_zero]
      rfl
end Go.Proofs.YtdoffngamppkkaaDoor
