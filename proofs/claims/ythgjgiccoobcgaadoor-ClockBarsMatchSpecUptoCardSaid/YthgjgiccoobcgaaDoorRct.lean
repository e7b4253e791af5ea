/- The document's CheckTempo. -/
import Derived.Test.YthgjgiccoobcgaaDoorYq
import Derived.BigQuiet
set_option linter.unusedSimpArgs false
set_option linter.unusedVariables false
namespace Go.Proofs.YthgjgiccoobcgaaDoor
open Go.RowKit Go.Dw
theorem rowF_at {M : Int} {l : List Pr} {n k : Nat} {x m : Int} (hk : k < n) (hp : prOf l k = (x, m)) (h : rowF (tAt l) (tOk M l) n 0 = rowF (tAt l) (tOk M l) (n - k) k) :
    rowF (tAt l) (tOk M l) n 0 = if x < 0 ∨ 1000000000 < x ∨ m < 1 ∨ M < m then 1 else if (k = 0 ∧ x ≠ 0) ∨ (0 < k ∧ x ≤ (prOf l (k - 1)).1) then 8 else rowF (tAt l) (tOk M l) (n - (k + 1)) (k + 1) := by
  rw [h, show n - k = (n - (k + 1)) + 1 by omega]
  show (if tAt l k < 0 ∨ 1000000000 < tAt l k ∨ tOk M l k = false then 1 else if (k = 0 ∧ tAt l k ≠ 0) ∨ (0 < k ∧ tAt l k ≤ tAt l (k - 1)) then 8 else _) = _
  have e1 : tAt l k = x := by unfold tAt; rw [hp]
  have e2 : (tOk M l k = false) = (m < 1 ∨ M < m) := by
    unfold tOk; rw [hp]; simp; omega
  simp only [e1, e2]
  rfl
theorem chkT_1 {l ms : List Pr} {n : Nat} {v : Int} (hl : l.length = n) (h0 : 0 < n) (h2 : n ≤ 200) (hv : v ≠ 0) (h : rowF (tAt l) (tOk 60000000 l) n 0 = v) : chkT l ms = v := by
  have e : chkL 60000000 l = v := by unfold chkL chkRow; rw [hl, if_neg (by omega), if_neg (by omega), h]
  unfold chkT; rw [e, if_pos hv]
theorem chkT_2 {l ms : List Pr} {n : Nat} (hl : l.length = n) (h0 : 0 < n) (h2 : n ≤ 200) (h : rowF (tAt l) (tOk 60000000 l) n 0 = 0) : chkT l ms = chkL 32 ms := by
  have e : chkL 60000000 l = 0 := by unfold chkL chkRow; rw [hl, if_neg (by omega), if_neg (by omega), h]
  unfold chkT; rw [e, if_neg (by simp)]
set_option maxRecDepth 100000 in
set_option maxHeartbeats 8000000 in
theorem RCHECKTEMPO_any (A A' : Option Addr) (n c n' c' : Nat) (l ms : List Pr) (w : World) (B : Nat) (hB : B ≤ w.heap.size) (hh : Hid (PrsAt w B A n l)) (hh' : Hid (PrsAt w B A' n' ms)) :
    Calls Tryd.prog 23 #[.agg #[.slice A n c, .slice A' n' c']] w fun e w' => e = .returned (.int .i64 (chkT l ms)) ∧ Below w.heap.size w w' := by
  have hl := Lib.hid hh.out.1
  have hl' := Lib.hid hh'.out.1
  obtain ⟨W, gx, hW, hgx, HHW, HB0, HSW⟩ := cell_new0 w 25 #[.slice A n c, .slice A' n' c']
  have HGX := Lib.hid hgx
  have hgw := blk_lt HHW.out
  have hc0 := own_cell1 HHW.out 0
  have hc1 := own_cell1 HHW.out 1
  simp only [List.getElem?_toArray, List.getElem?_cons_zero, List.getElem?_cons_succ] at hc0 hc1
  have HC0 := Lib.hid hc0
  have HC1 := Lib.hid hc1
  have HPL : Hid (PrsAt W (gx + 1) A n l) := (hh.out.below HB0.out hB).mono (by have := HGX.out; omega)
  have HPM : Hid (PrsAt W (gx + 1) A' n' ms) := (hh'.out.below HB0.out hB).mono (by have := HGX.out; omega)
  go_enter Tryd.func23, Tryd.ntmps23
  go_upto_region 1 with (fail)
  rw [← hW, ← hgx]
  clear hW hgx
  by_cases h0 : n = 0
  · have HV : Hid (chkT l ms = 9) := by show _ = _; unfold chkT chkL chkRow; rw [hl.out, if_pos h0]; rfl
    subst h0
    go_wp2_with fail
    go_ret
    exact ⟨by rw [HV.out]; rfl, HB0.out⟩
  by_cases h2 : 200 < n
  · have HV : Hid (chkT l ms = 2) := by show _ = _; unfold chkT chkL chkRow; rw [hl.out, if_neg h0, if_pos h2]; rfl
    have d1 : ((n : Int) == 0) = false := by simp; omega
    have d2 : decide ((200 : Int) < (n : Int)) = true := by simp; omega
    clear h0 h2
    go_wp2_with fail
    go_ret
    exact ⟨by rw [HV.out]; rfl, HB0.out⟩
  have d1 : ((n : Int) == 0) = false := by simp; omega
  have d2 : decide ((200 : Int) < (n : Int)) = false := by simp; omega
  have HF1 := Lib.hid (fun (v : Int) (hv : v ≠ 0) h => chkT_1 (ms := ms) hl.out (by omega) (by omega) hv h)
  have HF2 := Lib.hid (fun h => chkT_2 (ms := ms) hl.out (by omega) (by omega) h)
  have hn200 : n ≤ 200 := by omega
  clear h0 h2
  go_wp2_with fail
  go_loopw [3] (fun i wr => ∃ k : Nat, k ≤ n ∧ i = .int .i64 k ∧ Hid (rowF (tAt l) (tOk 60000000 l) n 0 = rowF (tAt l) (tOk 60000000 l) (n - k) k) ∧ Hid (Below (gx + 1) W wr)) (fun i _ => n - (intOf i).toNat)
  case atStart => exact ⟨0, Nat.zero_le _, rfl, (show _ = _ by rw [Nat.sub_zero]), Below.refl _ _⟩
  case round =>
    obtain ⟨k, hk, rfl, hR, hb⟩ := hrel
    have hsz : gx + 1 ≤ wr.heap.size := by have := hb.out.size; omega
    have hgr : gx < wr.heap.size := by omega
    have hc0 : wr.cell? ⟨gx, 0, none⟩ = some (.slice A n c) := (hb.out.cell (p := ⟨gx, 0, none⟩) (by dsimp only; omega)).trans HC0.out
    by_cases hlt : k < n
    · skip
      obtain ⟨bA, oA, rfl, hbA, k1, k2⟩ := (HPL.out.below hb.out (Nat.le_refl _)).2 k hlt
      have hbAw : bA < wr.heap.size := by omega
      obtain ⟨p, hp⟩ : ∃ p, prOf l k = p := ⟨_, rfl⟩
      obtain ⟨x, m⟩ := p
      have HSTEP := Lib.hid (rowF_at hlt hp hR.out)
      rw [hp] at k1 k2
      dsimp only at k1 k2
      clear hp
      have hk0 : (0 : Int) ≤ (k : Int) := by omega
      have hkn : (k : Int) < (n : Int) := by omega
      by_cases hbad : x < 0 ∨ 1000000000 < x ∨ m < 1 ∨ 60000000 < m
      · have HE : Hid (rowF (tAt l) (tOk 60000000 l) n 0 = 1) := by show _ = _; rw [HSTEP.out, if_pos hbad]
        clear HSTEP
        by_cases g1 : x < 0
        · clear hbad
          go_wp2_with fail
          go_ret
          exact ⟨by rw [HF1.out _ (by decide) HE.out]; rfl, HB0.out.trans ((hb.out.alloc hsz _).mono (by rw [HGX.out]; omega))⟩
        · by_cases g2 : 1000000000 < x
          · clear hbad
            go_wp2_with fail
            go_ret
            exact ⟨by rw [HF1.out _ (by decide) HE.out]; rfl, HB0.out.trans ((hb.out.alloc hsz _).mono (by rw [HGX.out]; omega))⟩
          · by_cases g3 : m < 1
            · clear hbad
              go_wp2_with fail
              go_ret
              exact ⟨by rw [HF1.out _ (by decide) HE.out]; rfl, HB0.out.trans ((hb.out.alloc hsz _).mono (by rw [HGX.out]; omega))⟩
            · have g4 : 60000000 < m := by omega
              clear hbad
              go_wp2_with fail
              go_ret
              exact ⟨by rw [HF1.out _ (by decide) HE.out]; rfl, HB0.out.trans ((hb.out.alloc hsz _).mono (by rw [HGX.out]; omega))⟩
      have g1 : ¬ x < 0 := by omega
      have g2 : ¬ 1000000000 < x := by omega
      have g3 : ¬ m < 1 := by omega
      have g4 : ¬ 60000000 < m := by omega
      rw [if_neg hbad] at HSTEP
      clear hbad
      by_cases hz : k = 0
      · subst hz
        rw [Nat.zero_mul, Nat.add_zero] at k1
        rw [Nat.zero_mul, Nat.add_zero] at k2
        have hkz : ((((0 : Nat) : Int)) == 0) = true := rfl
        have hkp : decide ((0 : Int) < ((0 : Nat) : Int)) = false := rfl
        by_cases hx0 : x = 0
        · subst hx0
          have HN : Hid (rowF (tAt l) (tOk 60000000 l) n 0 = rowF (tAt l) (tOk 60000000 l) (n - (0 + 1)) (0 + 1)) := by show _ = _; rw [HSTEP.out, if_neg (by rintro (⟨_, h⟩ | ⟨h, _⟩); exact h rfl; omega)]
          clear HSTEP
          go_wp2_with fail
          go_quiet (fail)
          go_wp2_with fail
          go_roundw
          case rel => exact ⟨0 + 1, by omega, by go_num, HN, belowN (hb.out.alloc hsz _) nq⟩
          case measure => simp [intOf]; omega
        · have HE : Hid (rowF (tAt l) (tOk 60000000 l) n 0 = 8) := by show _ = _; rw [HSTEP.out, if_pos (.inl ⟨rfl, hx0⟩)]
          have hne : (x != 0) = true := by simpa using hx0
          clear HSTEP
          go_wp2_with fail
          go_quiet (fail)
          go_wp2_with fail
          go_ret
          exact ⟨by rw [HF1.out _ (by decide) HE.out]; rfl, HB0.out.trans ((belowN (hb.out.alloc hsz _) nq).mono (by rw [HGX.out]; omega))⟩
      · obtain ⟨j, rfl⟩ : ∃ j, k = j + 1 := ⟨k - 1, by omega⟩
        obtain ⟨b5, o5, e5, _, k5, _⟩ := (HPL.out.below hb.out (Nat.le_refl _)).2 j (by omega)
        injection e5 with e5
        injection e5 with e6 e7 _
        subst e6 e7
        rw [show j + 1 - 1 = j by omega] at HSTEP
        obtain ⟨z, hzz⟩ : ∃ z, (prOf l j).1 = z := ⟨_, rfl⟩
        rw [hzz] at HSTEP k5
        have hkz : (((j : Int) + 1) == 0) = false := by rw [beq_eq_false_iff_ne]; omega
        have hkp : decide ((0 : Int) < (j : Int) + 1) = true := by rw [decide_eq_true_eq]; omega
        have hjj : (j : Int) + 1 - 1 = (j : Int) := by omega
        have hk0' : (0 : Int) ≤ (j : Int) + 1 := by omega
        have hkn' : (j : Int) + 1 < (n : Int) := by omega
        have hjw : IntKind.i64.wrap (j : Int) = (j : Int) := IntWalk.i64_in _ (by omega)
        have hj0 : (0 : Int) ≤ (j : Int) := by omega
        have hjn : (j : Int) < (n : Int) := by omega
        clear hzz hz
        by_cases hle : x ≤ z
        · have HE : Hid (rowF (tAt l) (tOk 60000000 l) n 0 = 8) := by show _ = _; rw [HSTEP.out, if_pos (.inr ⟨by omega, hle⟩)]
          clear HSTEP
          go_wp2_with fail
          go_quiet (fail)
          go_wp2_with fail
          go_ret
          exact ⟨by rw [HF1.out _ (by decide) HE.out]; rfl, HB0.out.trans ((belowN (hb.out.alloc hsz _) nq).mono (by rw [HGX.out]; omega))⟩
        · have HN : Hid (rowF (tAt l) (tOk 60000000 l) n 0 = rowF (tAt l) (tOk 60000000 l) (n - (j + 1 + 1)) (j + 1 + 1)) := by show _ = _; rw [HSTEP.out, if_neg (by rintro (⟨h, _⟩ | ⟨_, h⟩); omega; exact hle h)]
          have hlf : decide (x ≤ z) = false := decide_eq_false hle
          clear HSTEP hle
          go_wp2_with fail
          go_quiet (fail)
          go_wp2_with fail
          go_roundw
          case rel => exact ⟨j + 1 + 1, by omega, by go_num, HN, belowN (hb.out.alloc hsz _) nq⟩
          case measure => simp [intOf]; omega
    · obtain rfl : k = n := by omega
      have HV : Hid (chkT l ms = chkL 32 ms) := HF2.out (by rw [hR.out, Nat.sub_self]; rfl)
      have hc1 : wr.cell? ⟨gx, 1, none⟩ = some (.slice A' n' c') := (hb.out.cell (p := ⟨gx, 1, none⟩) (by dsimp only; omega)).trans HC1.out
      have HB9 : Hid (Below w.heap.size w wr) := HB0.out.trans (hb.out.mono (by rw [HGX.out]; omega))
      have HPM' : Hid (PrsAt wr (gx + 1) A' n' ms) := HPM.out.below hb.out (Nat.le_refl _)
      have HC1' := Lib.hid hc1
      clear HF1 HF2 hR hb HPL HPM HC0 HC1 HB0 HHW HSW hgw
      by_cases h0 : n' = 0
      · replace HV : Hid (chkT l ms = 9) := by show _ = _; rw [HV.out]; unfold chkL chkRow; rw [hl'.out, if_pos h0]
        subst h0
        go_wp2_with fail
        go_ret
        exact ⟨by rw [HV.out]; rfl, HB9.out⟩
      by_cases h2 : 200 < n'
      · replace HV : Hid (chkT l ms = 2) := by show _ = _; rw [HV.out]; unfold chkL chkRow; rw [hl'.out, if_neg h0, if_pos h2]
        have d3 : ((n' : Int) == 0) = false := by simp; omega
        have d4 : decide ((200 : Int) < (n' : Int)) = true := by simp; omega
        clear h0 h2
        go_wp2_with fail
        go_ret
        exact ⟨by rw [HV.out]; rfl, HB9.out⟩
      have d3 : ((n' : Int) == 0) = false := by simp; omega
      have d4 : decide ((200 : Int) < (n' : Int)) = false := by simp; omega
      have HG : Hid (chkT l ms = rowF (tAt ms) (tOk 32 ms) n' 0) := by show _ = _; rw [HV.out]; unfold chkL chkRow; rw [hl'.out, if_neg h0, if_neg h2]
      have hn200' : n' ≤ 200 := by omega
      clear h0 h2 HV
      go_wp2_with fail
      clear hc0 hc1 d1 d2
      obtain ⟨W2, rfl⟩ : ∃ Wx : World, Wx = wr := ⟨_, rfl⟩
      go_loopw [5] (fun i wr => ∃ k : Nat, k ≤ n' ∧ i = .int .i64 k ∧ Hid (rowF (tAt ms) (tOk 32 ms) n' 0 = rowF (tAt ms) (tOk 32 ms) (n' - k) k) ∧ Hid (Below (gx + 1) W2 wr)) (fun i _ => n' - (intOf i).toNat)
      case atStart => exact ⟨0, Nat.zero_le _, rfl, (show _ = _ by rw [Nat.sub_zero]), Below.refl _ _⟩
      case round =>
        obtain ⟨j9, hk9, rfl, hR, hb⟩ := hrel
        obtain ⟨HB0, _⟩ : ∃ h : Hid (Below w.heap.size w W2), True := ⟨HB9, trivial⟩
        clear HB9
        have hsz' : gx + 1 ≤ wr.heap.size := by have := hb.out.size; omega
        have hsz := hsz'
        have hgr : gx < wr.heap.size := by omega
        have hc1 : wr.cell? ⟨gx, 1, none⟩ = some (.slice A' n' c') := (hb.out.cell (p := ⟨gx, 1, none⟩) (by dsimp only; omega)).trans HC1'.out
        obtain ⟨k, rfl⟩ : ∃ k, k = j9 := ⟨_, rfl⟩
        by_cases hlt : k < n'
        · skip
          obtain ⟨bA, oA, rfl, hbA, k1, k2⟩ := (HPM'.out.below hb.out (Nat.le_refl _)).2 k hlt
          have hbAw : bA < wr.heap.size := by omega
          obtain ⟨p, hp⟩ : ∃ p, prOf ms k = p := ⟨_, rfl⟩
          obtain ⟨x, m⟩ := p
          have HSTEP := Lib.hid (rowF_at hlt hp hR.out)
          rw [hp] at k1 k2
          dsimp only at k1 k2
          clear hp
          have hk0 : (0 : Int) ≤ (k : Int) := by omega
          have hkn : (k : Int) < (n' : Int) := by omega
          by_cases hbad : x < 0 ∨ 1000000000 < x ∨ m < 1 ∨ 32 < m
          · have HE : Hid (rowF (tAt ms) (tOk 32 ms) n' 0 = 1) := by show _ = _; rw [HSTEP.out, if_pos hbad]
            clear HSTEP
            by_cases g1 : x < 0
            · clear hbad
              go_wp2_with fail
              go_ret
              exact ⟨by rw [HG.out.trans HE.out]; rfl, HB0.out.trans ((hb.out.alloc hsz _).mono (by rw [HGX.out]; omega))⟩
            · by_cases g2 : 1000000000 < x
              · clear hbad
                go_wp2_with fail
                go_ret
                exact ⟨by rw [HG.out.trans HE.out]; rfl, HB0.out.trans ((hb.out.alloc hsz _).mono (by rw [HGX.out]; omega))⟩
              · by_cases g3 : m < 1
                · clear hbad
                  go_wp2_with fail
                  go_ret
                  exact ⟨by rw [HG.out.trans HE.out]; rfl, HB0.out.trans ((hb.out.alloc hsz _).mono (by rw [HGX.out]; omega))⟩
                · have g4 : 32 < m := by omega
                  clear hbad
                  go_wp2_with fail
                  go_ret
                  exact ⟨by rw [HG.out.trans HE.out]; rfl, HB0.out.trans ((hb.out.alloc hsz _).mono (by rw [HGX.out]; omega))⟩
          have g1 : ¬ x < 0 := by omega
          have g2 : ¬ 1000000000 < x := by omega
          have g3 : ¬ m < 1 := by omega
          have g4 : ¬ 32 < m := by omega
          rw [if_neg hbad] at HSTEP
          clear hbad
          by_cases hz : k = 0
          · subst hz
            rw [Nat.zero_mul, Nat.add_zero] at k1
            rw [Nat.zero_mul, Nat.add_zero] at k2
            have hkz : ((((0 : Nat) : Int)) == 0) = true := rfl
            have hkp : decide ((0 : Int) < ((0 : Nat) : Int)) = false := rfl
            by_cases hx0 : x = 0
            · subst hx0
              have HN : Hid (rowF (tAt ms) (tOk 32 ms) n' 0 = rowF (tAt ms) (tOk 32 ms) (n' - (0 + 1)) (0 + 1)) := by show _ = _; rw [HSTEP.out, if_neg (by rintro (⟨_, h⟩ | ⟨h, _⟩); exact h rfl; omega)]
              clear HSTEP
              go_wp2_with fail
              go_quiet (fail)
              go_wp2_with fail
              go_roundw
              case rel => exact ⟨0 + 1, by omega, by go_num, HN, belowN (hb.out.alloc hsz _) nq⟩
              case measure => simp [intOf]; omega
            · have HE : Hid (rowF (tAt ms) (tOk 32 ms) n' 0 = 8) := by show _ = _; rw [HSTEP.out, if_pos (.inl ⟨rfl, hx0⟩)]
              have hne : (x != 0) = true := by simpa using hx0
              clear HSTEP
              go_wp2_with fail
              go_quiet (fail)
              go_wp2_with fail
              go_ret
              exact ⟨by rw [HG.out.trans HE.out]; rfl, HB0.out.trans ((belowN (hb.out.alloc hsz _) nq).mono (by rw [HGX.out]; omega))⟩
          · obtain ⟨j, rfl⟩ : ∃ j, k = j + 1 := ⟨k - 1, by omega⟩
            obtain ⟨b5, o5, e5, _, k5, _⟩ := (HPM'.out.below hb.out (Nat.le_refl _)).2 j (by omega)
            injection e5 with e5
            injection e5 with e6 e7 _
            subst e6 e7
            rw [show j + 1 - 1 = j by omega] at HSTEP
            obtain ⟨z, hzz⟩ : ∃ z, (prOf ms j).1 = z := ⟨_, rfl⟩
            rw [hzz] at HSTEP k5
            have hkz : (((j : Int) + 1) == 0) = false := by rw [beq_eq_false_iff_ne]; omega
            have hkp : decide ((0 : Int) < (j : Int) + 1) = true := by rw [decide_eq_true_eq]; omega
            have hjj : (j : Int) + 1 - 1 = (j : Int) := by omega
            have hk0' : (0 : Int) ≤ (j : Int) + 1 := by omega
            have hkn' : (j : Int) + 1 < (n' : Int) := by omega
            have hjw : IntKind.i64.wrap (j : Int) = (j : Int) := IntWalk.i64_in _ (by omega)
            have hj0 : (0 : Int) ≤ (j : Int) := by omega
            have hjn : (j : Int) < (n' : Int) := by omega
            clear hzz hz
            by_cases hle : x ≤ z
            · have HE : Hid (rowF (tAt ms) (tOk 32 ms) n' 0 = 8) := by show _ = _; rw [HSTEP.out, if_pos (.inr ⟨by omega, hle⟩)]
              clear HSTEP
              go_wp2_with fail
              go_quiet (fail)
              go_wp2_with fail
              go_ret
              exact ⟨by rw [HG.out.trans HE.out]; rfl, HB0.out.trans ((belowN (hb.out.alloc hsz _) nq).mono (by rw [HGX.out]; omega))⟩
            · have HN : Hid (rowF (tAt ms) (tOk 32 ms) n' 0 = rowF (tAt ms) (tOk 32 ms) (n' - (j + 1 + 1)) (j + 1 + 1)) := by show _ = _; rw [HSTEP.out, if_neg (by rintro (⟨h, _⟩ | ⟨_, h⟩); omega; exact hle h)]
              have hlf : decide (x ≤ z) = false := decide_eq_false hle
              clear HSTEP hle
              go_wp2_with fail
              go_quiet (fail)
              go_wp2_with fail
              go_roundw
              case rel => exact ⟨j + 1 + 1, by omega, by go_num, HN, belowN (hb.out.alloc hsz _) nq⟩
              case measure => simp [intOf]; omega
        · obtain rfl : k = n' := by omega
          go_wp2_with fail
          go_ret
          exact ⟨by rw [HG.out, hR.out, Nat.sub_self]; rfl, HB0.out.trans (hb.out.mono (by rw [HGX.out]; omega))⟩
end Go.Proofs.YthgjgiccoobcgaaDoor
