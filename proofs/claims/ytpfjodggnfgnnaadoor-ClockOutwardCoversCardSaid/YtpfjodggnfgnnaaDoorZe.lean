/- Sweep of Meet. -/
import Derived.Test.YtpfjodggnfgnnaaDoorSwp
set_option linter.unusedSimpArgs false
set_option linter.unusedVariables false
namespace Go.Proofs.YtpfjodggnfgnnaaDoor
open Go.RowKit Go.Dw
set_option maxRecDepth 100000 in
set_option maxHeartbeats 8000000 in
theorem SWEEP_and (A A' : Option Addr) (n c m0 d : Nat) (a b : List Pr) (w : World) (B : Nat) (hB : B ≤ w.heap.size) (hn : n ≤ 1000) (hm : m0 ≤ 1000) (HCA : Hid (Canon a)) (HCB : Hid (Canon b)) (ha : Hid (PrsAt w B A n a)) (hb : Hid (PrsAt w B A' m0 b)) :
    Calls Tryd.prog 72 #[.slice A n c, .slice A' m0 d, .func (.func 39) #[] #[]] w fun e w' => ∃ v, e = .returned v ∧ OwnPrs 29 w' w.heap.size v (sweepS (fun x y => and x y) a b) ∧ Below w.heap.size w w' := by
  have hla := Lib.hid ha.out.1
  have hlb := Lib.hid hb.out.1
  obtain ⟨W0, G, hW0, hG, HG, HBW0, HSW0⟩ := cell_new0 w 22 #[.slice A n c, .slice A' m0 d]
  have haW : Hid (PrsAt W0 B A n a) := ha.out.below HBW0.out hB
  have hbW : Hid (PrsAt W0 B A' m0 b) := hb.out.below HBW0.out hB
  have hBW : B ≤ W0.heap.size := by have := HBW0.out.size; omega
  have hGlt := blk_lt HG.out
  obtain ⟨r0, r1, _, _⟩ := pr_cells HG.out
  have HR := Lib.hid (And.intro r0 r1)
  go_enter Tryd.func72, Tryd.ntmps72
  go_upto_block 0 with (fail)
  rw [← hW0, ← hG]
  clear hW0 hG r0 r1
  go_cut [7] (fun v7 wx => Hid (OwnI wx W0.heap.size v7 (flatE a ++ flatE b)) ∧ Hid (Below W0.heap.size W0 wx))
  case rest =>
    obtain ⟨hO, hbw⟩ := hcut
    obtain ⟨W1, rfl⟩ : ∃ x : World, x = wc := ⟨_, rfl⟩
    obtain ⟨AE, cE, rfl, _, _⟩ := hO.out.len
    have hs1 := hbw.out.size
    have hzl : (flatE a ++ flatE b).length ≤ 1000000 := by have e1 := hla.out; have e2 := hlb.out; simp only [List.length_append, flatE_len]; omega
    obtain ⟨L, hL⟩ : ∃ L, flatE a ++ flatE b = L := ⟨_, rfl⟩
    have HES : Hid (Lib.compact (L.mergeSort leI) = endsS a b) := by show _ = _; rw [ends_sorted, ← hL]; rfl
    rw [hL] at hO hzl
    rw [hL]
    obtain ⟨z, hz⟩ : ∃ z, L.length = z := ⟨_, rfl⟩
    rw [hz] at hO ⊢
    have HZ := Lib.hid hz
    clear hL hz HR HG HSW0
    go_upto_region 12 with (go_at_call 98; refine (SORT_own AE z cE L _ W0.heap.size hs1 hzl hO).mono ?_; rintro e w2 ⟨rfl, hO2, hb2⟩)
    have HB2 := Lib.hid (hbw.out.trans hb2)
    have HO2 := Lib.hid hO2
    have hs2 := HB2.out.size
    have hzl2 : (L.mergeSort leI).length ≤ 1000000 := by rw [List.length_mergeSort]; exact hzl
    clear hO2 hb2
    go_upto_region 13 with (go_at_call 99; refine (COMPACT_own AE z cE _ _ W0.heap.size hs2 hzl2 HO2).mono ?_; rintro e w3 ⟨vE, rfl, hO3, hb3⟩)
    obtain ⟨W, rfl⟩ : ∃ x : World, x = w3 := ⟨_, rfl⟩
    have HB3 := Lib.hid (HB2.out.trans hb3)
    rw [HES.out] at hO3
    have HO3 := Lib.hid hO3
    clear hO3 hb3 HO2 hO hbw HES hzl hzl2 HZ
    have haX : Hid (PrsAt W B A n a) := haW.out.below (HB3.out.mono hBW) (Nat.le_refl _)
    have hbX : Hid (PrsAt W B A' m0 b) := hbW.out.below (HB3.out.mono hBW) (Nat.le_refl _)
    have hs3 := HB3.out.size
    have hBX : B ≤ W.heap.size := by omega
    have HEI0 := Lib.hid (endsL_lt (flatE a ++ flatE b))
    have HSW0 := Lib.hid (sweep_def (fun x y => and x y) a b)
    have hEl := ends_len a b
    rw [hla.out, hlb.out] at hEl
    obtain ⟨E, HEE⟩ : ∃ E, Hid (E = endsS a b) := ⟨_, rfl⟩
    rw [← HEE.out] at hEl HO3 HSW0
    have HEI : Hid (E.Pairwise (· < ·)) := by show E.Pairwise _; rw [HEE.out]; exact HEI0.out
    clear HEI0
    obtain ⟨AE2, cE2, rfl, hcE, hcE2⟩ := HO3.out.len
    obtain ⟨q9, hq9⟩ : ∃ q, E.length = q := ⟨_, rfl⟩
    rw [hq9] at HO3 hcE hEl ⊢
    have HQ9 := Lib.hid hq9
    have HBW9 := Lib.hid ((HBW0.out.trans (HB3.out.mono HBW0.out.size)))
    have hWs : w.heap.size ≤ W.heap.size := HBW9.out.size
    clear hq9 HB2 hs1 hs2 HB3 HBW0 haW hbW hBW
    go_wp2_with fail
    go_loopw [12, 13, 14, 15] (fun v s13 s14 s15 wr => ∃ (k i j : Nat) (acc : List Pr), k ≤ q9 ∧ i ≤ n ∧ j ≤ m0 ∧ s13 = .int .i64 i ∧ s14 = .int .i64 j ∧ s15 = .int .i64 k ∧ Hid (swp (swF (fun x y => and x y) a b) (E.drop k) acc = sweepS (fun x y => and x y) a b) ∧ Hid (acc.length ≤ k) ∧ Hid (∀ t, t < i → k < E.length → (prOf a t).2 ≤ intAt E k) ∧ Hid (∀ t, t < j → k < E.length → (prOf b t).2 ≤ intAt E k) ∧ Hid (OwnPrs 29 wr W.heap.size v acc) ∧ Hid (Below W.heap.size W wr)) (fun _ _ _ s15 _ => q9 - (intOf s15).toNat)
    case atStart => exact ⟨0, 0, 0, [], by omega, by omega, by omega, rfl, rfl, rfl, HSW0, Nat.le_refl _, (fun t ht => by omega), (fun t ht => by omega), OwnPrs.nil _ _ _, Below.refl _ _⟩
    case round =>
      obtain ⟨k, i, j, acc, hk, hi, hj, rfl, rfl, rfl, HK, HN, HI, HJ, hO, hbw⟩ := hrel
      have hsz : W.heap.size ≤ wr.heap.size := hbw.out.size
      obtain ⟨A5, c5, rfl, hc5, hc6⟩ := hO.out.len
      obtain ⟨qa, hqa⟩ : ∃ q, acc.length = q := ⟨_, rfl⟩
      have HQA := Lib.hid hqa
      have hqk : qa ≤ k := by rw [← hqa]; exact HN.out
      rw [hqa] at hO hc5 ⊢
      clear hqa
      have hk0 : (0 : Int) ≤ (k : Int) := by omega
      have hi0 : (0 : Int) ≤ (i : Int) := by omega
      have hj0 : (0 : Int) ≤ (j : Int) := by omega
      by_cases hkq : k + 1 < q9
      · obtain ⟨gE, capE, hv, _, hgE, _, _, hcl⟩ := HO3.out.slot (by have := HQ9.out; omega)
        injection hv with e1 e2 e3
        subst e1 e3
        obtain ⟨s1, _⟩ := hcl k (by have := HQ9.out; omega)
        obtain ⟨s2, _⟩ := hcl (k + 1) (by have := HQ9.out; omega)
        replace s1 := (hbw.out.cell (p := ⟨gE, k, none⟩) hgE).trans s1
        replace s2 := (hbw.out.cell (p := ⟨gE, k + 1, none⟩) hgE).trans s2
        have hxy := int_lt HEI.out (show k < k + 1 by omega) (by have := HQ9.out; omega)
        have hkE : k + 1 < E.length := by have := HQ9.out; omega
        have HI1 : Hid (∀ t, t < i → (prOf a t).2 ≤ intAt E k) := fun t ht => HI.out t ht (by omega)
        have HJ1 : Hid (∀ t, t < j → (prOf b t).2 ≤ intAt E k) := fun t ht => HJ.out t ht (by omega)
        obtain ⟨x, hx⟩ : ∃ x, intAt E k = x := ⟨_, rfl⟩
        obtain ⟨y, hy⟩ : ∃ y, intAt E (k + 1) = y := ⟨_, rfl⟩
        rw [hx] at s1 hxy HI1 HJ1
        rw [hy] at s2 hxy
        have HX := Lib.hid hx
        have HY := Lib.hid hy
        have HKE := Lib.hid hkE
        have hkn : (k : Int) + 1 < (q9 : Int) := by omega
        have hkn2 : (k : Int) < (q9 : Int) := by omega
        clear hx hy hcl hkE e2 HI HJ
        have kw1 : IntKind.i64.wrap ((k : Int) + 1) = (k : Int) + 1 := IntWalk.i64_in _ (by omega)
        have kw2 : (0 : Int) ≤ (k : Int) + 1 := by omega
        have kw3 : ((k : Int) + 1).toNat = k + 1 := by omega
        go_upto_region 18 with (fail)
        go_quiet (fail)
        clear kw1 kw2 kw3 s1 s2
        obtain ⟨X, hX⟩ : ∃ X : World, X = wr.drewN nq := ⟨_, rfl⟩
        rw [← hX]
        replace hbw : Hid (Below W.heap.size W X) := by show Below _ _ _; rw [hX]; exact belowN hbw.out nq
        replace hO : Hid (OwnPrs 29 X W.heap.size (.slice A5 qa c5) acc) := by show OwnPrs _ _ _ _ _; rw [hX]; exact hO.out.below (belowN (Below.refl _ wr) nq)
        clear hX hsz
        have haw9 : Hid (PrsAt X B A n a) := haX.out.below (hbw.out.mono hBX) (Nat.le_refl _)
        have hbw9 : Hid (PrsAt X B A' m0 b) := hbX.out.below (hbw.out.mono hBX) (Nat.le_refl _)
        have hsz := hbw.out.size
        go_upto_block 6 with (fail)
        go_cut [13] (fun v wx => ∃ i2 : Nat, i2 ≤ n ∧ v = .int .i64 i2 ∧ wx = X ∧ Hid (∀ t, t < i2 → (prOf a t).2 ≤ x) ∧ Hid (i2 < n → x < (prOf a i2).2))
        case first =>
          go_wp2_with fail
          go_loop [13] (fun v => ∃ i2 : Nat, i2 ≤ n ∧ v = .int .i64 i2 ∧ Hid (∀ t, t < i2 → (prOf a t).2 ≤ x)) (fun v => n - (intOf v).toNat)
          case atStart => exact ⟨i, by omega, rfl, HI1⟩
          case round =>
            obtain ⟨i2, hi2, rfl, HI2⟩ := hrel
            have hi20 : (0 : Int) ≤ (i2 : Int) := by omega
            by_cases hlt : i2 < n
            · obtain ⟨bA, oA, rfl, hbA, k1, k2⟩ := haw9.out.2 i2 hlt
              obtain ⟨p, hp⟩ : ∃ p, prOf a i2 = p := ⟨_, rfl⟩
              obtain ⟨x1, x2⟩ := p
              have HPP := Lib.hid hp
              rw [hp] at k1 k2
              dsimp only at k1 k2
              have hin : (i2 : Int) < (n : Int) := by omega
              clear hp
              by_cases hle : x2 ≤ x
              · have HI3 : Hid (∀ t, t < i2 + 1 → (prOf a t).2 ≤ x) := fun t ht => by
                  by_cases e : t = i2
                  · rw [e, HPP.out]; exact hle
                  · exact HI2.out t (by omega)
                go_wp2_with fail
                go_round
                case rel => exact ⟨i2 + 1, by omega, by go_num, HI3⟩
                case measure => simp [intOf]; omega
              · have HI4 : Hid (i2 < n → x < (prOf a i2).2) := fun _ => by rw [HPP.out]; dsimp only; omega
                have hlf : decide (x2 ≤ x) = false := decide_eq_false hle
                clear hle
                go_wp2_with fail
                go_meet
                exact ⟨i2, by omega, rfl, rfl, HI2, HI4⟩
            · have hin : decide ((i2 : Int) < (n : Int)) = false := by simp; omega
              have hin2 : decide (i2 < n) = false := by simp; omega
              have HI4 : Hid (i2 < n → x < (prOf a i2).2) := fun h => absurd h hlt
              clear hlt
              go_wp2_with fail
              go_meet
              exact ⟨i2, by omega, rfl, rfl, HI2, HI4⟩
        case rest =>
        obtain ⟨i2, hi2, rfl, rfl, HI2, HI4⟩ := hcut
        obtain ⟨X, rfl⟩ : ∃ x : World, x = wc := ⟨_, rfl⟩
        obtain ⟨iA, hiA⟩ : ∃ q : Nat, q = i2 := ⟨_, rfl⟩
        rw [← hiA] at hi2 HI2 HI4 ⊢
        have hA1 := hi2
        have HIA := HI2
        have HSA := HI4
        clear hiA HI2 HI4 hi2
        go_upto_block 8 with (fail)
        go_cut [14] (fun v wx => ∃ i2 : Nat, i2 ≤ m0 ∧ v = .int .i64 i2 ∧ wx = X ∧ Hid (∀ t, t < i2 → (prOf b t).2 ≤ x) ∧ Hid (i2 < m0 → x < (prOf b i2).2))
        case first =>
          go_wp2_with fail
          go_loop [14] (fun v => ∃ i2 : Nat, i2 ≤ m0 ∧ v = .int .i64 i2 ∧ Hid (∀ t, t < i2 → (prOf b t).2 ≤ x)) (fun v => m0 - (intOf v).toNat)
          case atStart => exact ⟨j, by omega, rfl, HJ1⟩
          case round =>
            obtain ⟨i2, hi2, rfl, HI2⟩ := hrel
            have hi20 : (0 : Int) ≤ (i2 : Int) := by omega
            by_cases hlt : i2 < m0
            · obtain ⟨bA, oA, rfl, hbA, k1, k2⟩ := hbw9.out.2 i2 hlt
              obtain ⟨p, hp⟩ : ∃ p, prOf b i2 = p := ⟨_, rfl⟩
              obtain ⟨x1, x2⟩ := p
              have HPP := Lib.hid hp
              rw [hp] at k1 k2
              dsimp only at k1 k2
              have hin : (i2 : Int) < (m0 : Int) := by omega
              clear hp
              by_cases hle : x2 ≤ x
              · have HI3 : Hid (∀ t, t < i2 + 1 → (prOf b t).2 ≤ x) := fun t ht => by
                  by_cases e : t = i2
                  · rw [e, HPP.out]; exact hle
                  · exact HI2.out t (by omega)
                go_wp2_with fail
                go_round
                case rel => exact ⟨i2 + 1, by omega, by go_num, HI3⟩
                case measure => simp [intOf]; omega
              · have HI4 : Hid (i2 < m0 → x < (prOf b i2).2) := fun _ => by rw [HPP.out]; dsimp only; omega
                have hlf : decide (x2 ≤ x) = false := decide_eq_false hle
                clear hle
                go_wp2_with fail
                go_meet
                exact ⟨i2, by omega, rfl, rfl, HI2, HI4⟩
            · have hin : decide ((i2 : Int) < (m0 : Int)) = false := by simp; omega
              have hin2 : decide (i2 < m0) = false := by simp; omega
              have HI4 : Hid (i2 < m0 → x < (prOf b i2).2) := fun h => absurd h hlt
              clear hlt
              go_wp2_with fail
              go_meet
              exact ⟨i2, by omega, rfl, rfl, HI2, HI4⟩
        case rest =>
        obtain ⟨i2, hi2, rfl, rfl, HI2, HI4⟩ := hcut
        obtain ⟨X, rfl⟩ : ∃ x : World, x = wc := ⟨_, rfl⟩
        have HIA8 : Hid (inS a x = (decide (iA < n) && decide ((prOf a iA).1 ≤ x))) := by
          have h := in_at (x := x) HCA.out (i := iA) (by rw [hla.out]; exact hA1) HIA.out (fun h => HSA.out (by rw [hla.out] at h; exact h))
          rw [hla.out] at h
          exact h
        have HIB8 : Hid (inS b x = (decide (i2 < m0) && decide ((prOf b i2).1 ≤ x))) := by
          have h := in_at (x := x) HCB.out (i := i2) (by rw [hlb.out]; exact hi2) HI2.out (fun h => HI4.out (by rw [hlb.out] at h; exact h))
          rw [hlb.out] at h
          exact h
        obtain ⟨fx, hfx⟩ : ∃ f, swF (fun x y => and x y) a b x = f := ⟨_, rfl⟩
        have HFX := Lib.hid hfx
        have hiA0 : (0 : Int) ≤ (iA : Int) := by omega
        have hi20 : (0 : Int) ≤ (i2 : Int) := by omega
        clear hfx
        go_upto_region 23 with (fail)
        go_cut [118] (fun v wx => ∃ q : Nat, v = .bool fx ∧ wx = X.drewN q)
        case first =>
          by_cases hA9 : iA < n
          · obtain ⟨bA, oA, rfl, hbA, k1, k2⟩ := haw9.out.2 iA hA9
            have HIA9 : Hid (inS a x = (decide (iA < n) && decide ((prOf a iA).1 ≤ x))) := HIA8.out
            obtain ⟨p, hp⟩ : ∃ p, prOf a iA = p := ⟨_, rfl⟩
            obtain ⟨x1, x2⟩ := p
            rw [hp] at k1 k2 HIA9
            dsimp only at k1 k2 HIA9
            have hin : (iA : Int) < (n : Int) := by omega
            clear hp
            by_cases hx1 : x1 ≤ x
            · skip
              by_cases hB9 : i2 < m0
              · obtain ⟨bB, oB, rfl, hbB, m1, m2⟩ := hbw9.out.2 i2 hB9
                have HIB9 : Hid (inS b x = (decide (i2 < m0) && decide ((prOf b i2).1 ≤ x))) := HIB8.out
                obtain ⟨p, hp⟩ : ∃ p, prOf b i2 = p := ⟨_, rfl⟩
                obtain ⟨y1, y2⟩ := p
                rw [hp] at m1 m2 HIB9
                dsimp only at m1 m2 HIB9
                have hjn : (i2 : Int) < (m0 : Int) := by omega
                clear hp
                by_cases hy1 : y1 ≤ x
                · skip
                  have HPA : Hid (inS a x = true) := by show _ = _; rw [HIA9.out, decide_eq_true hA9, decide_eq_true hx1, Bool.and_self]
                  have HPB : Hid (inS b x = true) := by show _ = _; rw [HIB9.out, decide_eq_true hB9, decide_eq_true hy1, Bool.and_self]
                  have HK9 : Hid (∀ z : Nat, Calls Tryd.prog 39 #[.bool true, .bool true] (X.drewN z) fun e w' => e = .returned (.bool fx) ∧ ∃ m, w' = (X.drewN z).drewN m) := fun z => (KMEET_any true true _).mono fun e w' h => ⟨h.1.trans (by rw [← HFX.out, swF_at HPA.out HPB.out]), 0, h.2.symm⟩
                  go_quiet ((go_at_call 39; (with_reducible refine Calls.quiet_of (HK9.out _))))
                  go_wp2_with fail
                  go_meet
                  exact ⟨nq, rfl, rfl⟩
                · have hyf : decide (y1 ≤ x) = false := decide_eq_false hy1
                  clear hy1
                  have HPA : Hid (inS a x = true) := by show _ = _; rw [HIA9.out, decide_eq_true hA9, decide_eq_true hx1, Bool.and_self]
                  have HPB : Hid (inS b x = false) := by show _ = _; rw [HIB9.out, hyf, Bool.and_false]
                  have HK9 : Hid (∀ z : Nat, Calls Tryd.prog 39 #[.bool true, .bool false] (X.drewN z) fun e w' => e = .returned (.bool fx) ∧ ∃ m, w' = (X.drewN z).drewN m) := fun z => (KMEET_any true false _).mono fun e w' h => ⟨h.1.trans (by rw [← HFX.out, swF_at HPA.out HPB.out]), 0, h.2.symm⟩
                  go_quiet ((go_at_call 39; (with_reducible refine Calls.quiet_of (HK9.out _))))
                  go_wp2_with fail
                  go_meet
                  exact ⟨nq, rfl, rfl⟩
              · have HIB9 : Hid (inS b x = (decide (i2 < m0) && decide ((prOf b i2).1 ≤ x))) := HIB8.out
                have hjf : decide ((i2 : Int) < (m0 : Int)) = false := by simp; omega
                have hjf2 : decide (i2 < m0) = false := by simp; omega
                clear hB9
                have HPA : Hid (inS a x = true) := by show _ = _; rw [HIA9.out, decide_eq_true hA9, decide_eq_true hx1, Bool.and_self]
                have HPB : Hid (inS b x = false) := by show _ = _; rw [HIB9.out, hjf2, Bool.false_and]
                have HK9 : Hid (∀ z : Nat, Calls Tryd.prog 39 #[.bool true, .bool false] (X.drewN z) fun e w' => e = .returned (.bool fx) ∧ ∃ m, w' = (X.drewN z).drewN m) := fun z => (KMEET_any true false _).mono fun e w' h => ⟨h.1.trans (by rw [← HFX.out, swF_at HPA.out HPB.out]), 0, h.2.symm⟩
                go_quiet ((go_at_call 39; (with_reducible refine Calls.quiet_of (HK9.out _))))
                go_wp2_with fail
                go_meet
                exact ⟨nq, rfl, rfl⟩
            · have hxf : decide (x1 ≤ x) = false := decide_eq_false hx1
              clear hx1
              by_cases hB9 : i2 < m0
              · obtain ⟨bB, oB, rfl, hbB, m1, m2⟩ := hbw9.out.2 i2 hB9
                have HIB9 : Hid (inS b x = (decide (i2 < m0) && decide ((prOf b i2).1 ≤ x))) := HIB8.out
                obtain ⟨p, hp⟩ : ∃ p, prOf b i2 = p := ⟨_, rfl⟩
                obtain ⟨y1, y2⟩ := p
                rw [hp] at m1 m2 HIB9
                dsimp only at m1 m2 HIB9
                have hjn : (i2 : Int) < (m0 : Int) := by omega
                clear hp
                by_cases hy1 : y1 ≤ x
                · skip
                  have HPA : Hid (inS a x = false) := by show _ = _; rw [HIA9.out, hxf, Bool.and_false]
                  have HPB : Hid (inS b x = true) := by show _ = _; rw [HIB9.out, decide_eq_true hB9, decide_eq_true hy1, Bool.and_self]
                  have HK9 : Hid (∀ z : Nat, Calls Tryd.prog 39 #[.bool false, .bool true] (X.drewN z) fun e w' => e = .returned (.bool fx) ∧ ∃ m, w' = (X.drewN z).drewN m) := fun z => (KMEET_any false true _).mono fun e w' h => ⟨h.1.trans (by rw [← HFX.out, swF_at HPA.out HPB.out]), 0, h.2.symm⟩
                  go_quiet ((go_at_call 39; (with_reducible refine Calls.quiet_of (HK9.out _))))
                  go_wp2_with fail
                  go_meet
                  exact ⟨nq, rfl, rfl⟩
                · have hyf : decide (y1 ≤ x) = false := decide_eq_false hy1
                  clear hy1
                  have HPA : Hid (inS a x = false) := by show _ = _; rw [HIA9.out, hxf, Bool.and_false]
                  have HPB : Hid (inS b x = false) := by show _ = _; rw [HIB9.out, hyf, Bool.and_false]
                  have HK9 : Hid (∀ z : Nat, Calls Tryd.prog 39 #[.bool false, .bool false] (X.drewN z) fun e w' => e = .returned (.bool fx) ∧ ∃ m, w' = (X.drewN z).drewN m) := fun z => (KMEET_any false false _).mono fun e w' h => ⟨h.1.trans (by rw [← HFX.out, swF_at HPA.out HPB.out]), 0, h.2.symm⟩
                  go_quiet ((go_at_call 39; (with_reducible refine Calls.quiet_of (HK9.out _))))
                  go_wp2_with fail
                  go_meet
                  exact ⟨nq, rfl, rfl⟩
              · have HIB9 : Hid (inS b x = (decide (i2 < m0) && decide ((prOf b i2).1 ≤ x))) := HIB8.out
                have hjf : decide ((i2 : Int) < (m0 : Int)) = false := by simp; omega
                have hjf2 : decide (i2 < m0) = false := by simp; omega
                clear hB9
                have HPA : Hid (inS a x = false) := by show _ = _; rw [HIA9.out, hxf, Bool.and_false]
                have HPB : Hid (inS b x = false) := by show _ = _; rw [HIB9.out, hjf2, Bool.false_and]
                have HK9 : Hid (∀ z : Nat, Calls Tryd.prog 39 #[.bool false, .bool false] (X.drewN z) fun e w' => e = .returned (.bool fx) ∧ ∃ m, w' = (X.drewN z).drewN m) := fun z => (KMEET_any false false _).mono fun e w' h => ⟨h.1.trans (by rw [← HFX.out, swF_at HPA.out HPB.out]), 0, h.2.symm⟩
                go_quiet ((go_at_call 39; (with_reducible refine Calls.quiet_of (HK9.out _))))
                go_wp2_with fail
                go_meet
                exact ⟨nq, rfl, rfl⟩
          · have HIA9 : Hid (inS a x = (decide (iA < n) && decide ((prOf a iA).1 ≤ x))) := HIA8.out
            have hif : decide ((iA : Int) < (n : Int)) = false := by simp; omega
            have hif2 : decide (iA < n) = false := by simp; omega
            clear hA9
            by_cases hB9 : i2 < m0
            · obtain ⟨bB, oB, rfl, hbB, m1, m2⟩ := hbw9.out.2 i2 hB9
              have HIB9 : Hid (inS b x = (decide (i2 < m0) && decide ((prOf b i2).1 ≤ x))) := HIB8.out
              obtain ⟨p, hp⟩ : ∃ p, prOf b i2 = p := ⟨_, rfl⟩
              obtain ⟨y1, y2⟩ := p
              rw [hp] at m1 m2 HIB9
              dsimp only at m1 m2 HIB9
              have hjn : (i2 : Int) < (m0 : Int) := by omega
              clear hp
              by_cases hy1 : y1 ≤ x
              · skip
                have HPA : Hid (inS a x = false) := by show _ = _; rw [HIA9.out, hif2, Bool.false_and]
                have HPB : Hid (inS b x = true) := by show _ = _; rw [HIB9.out, decide_eq_true hB9, decide_eq_true hy1, Bool.and_self]
                have HK9 : Hid (∀ z : Nat, Calls Tryd.prog 39 #[.bool false, .bool true] (X.drewN z) fun e w' => e = .returned (.bool fx) ∧ ∃ m, w' = (X.drewN z).drewN m) := fun z => (KMEET_any false true _).mono fun e w' h => ⟨h.1.trans (by rw [← HFX.out, swF_at HPA.out HPB.out]), 0, h.2.symm⟩
                go_quiet ((go_at_call 39; (with_reducible refine Calls.quiet_of (HK9.out _))))
                go_wp2_with fail
                go_meet
                exact ⟨nq, rfl, rfl⟩
              · have hyf : decide (y1 ≤ x) = false := decide_eq_false hy1
                clear hy1
                have HPA : Hid (inS a x = false) := by show _ = _; rw [HIA9.out, hif2, Bool.false_and]
                have HPB : Hid (inS b x = false) := by show _ = _; rw [HIB9.out, hyf, Bool.and_false]
                have HK9 : Hid (∀ z : Nat, Calls Tryd.prog 39 #[.bool false, .bool false] (X.drewN z) fun e w' => e = .returned (.bool fx) ∧ ∃ m, w' = (X.drewN z).drewN m) := fun z => (KMEET_any false false _).mono fun e w' h => ⟨h.1.trans (by rw [← HFX.out, swF_at HPA.out HPB.out]), 0, h.2.symm⟩
                go_quiet ((go_at_call 39; (with_reducible refine Calls.quiet_of (HK9.out _))))
                go_wp2_with fail
                go_meet
                exact ⟨nq, rfl, rfl⟩
            · have HIB9 : Hid (inS b x = (decide (i2 < m0) && decide ((prOf b i2).1 ≤ x))) := HIB8.out
              have hjf : decide ((i2 : Int) < (m0 : Int)) = false := by simp; omega
              have hjf2 : decide (i2 < m0) = false := by simp; omega
              clear hB9
              have HPA : Hid (inS a x = false) := by show _ = _; rw [HIA9.out, hif2, Bool.false_and]
              have HPB : Hid (inS b x = false) := by show _ = _; rw [HIB9.out, hjf2, Bool.false_and]
              have HK9 : Hid (∀ z : Nat, Calls Tryd.prog 39 #[.bool false, .bool false] (X.drewN z) fun e w' => e = .returned (.bool fx) ∧ ∃ m, w' = (X.drewN z).drewN m) := fun z => (KMEET_any false false _).mono fun e w' h => ⟨h.1.trans (by rw [← HFX.out, swF_at HPA.out HPB.out]), 0, h.2.symm⟩
              go_quiet ((go_at_call 39; (with_reducible refine Calls.quiet_of (HK9.out _))))
              go_wp2_with fail
              go_meet
              exact ⟨nq, rfl, rfl⟩
        case rest =>
        obtain ⟨nq, rfl, rfl⟩ := hcut
        obtain ⟨Y, hY⟩ : ∃ Y : World, Y = X.drewN nq := ⟨_, rfl⟩
        rw [← hY]
        replace hbw : Hid (Below W.heap.size W Y) := by show Below _ _ _; rw [hY]; exact belowN hbw.out nq
        replace hO : Hid (OwnPrs 29 Y W.heap.size (.slice A5 qa c5) acc) := by show OwnPrs _ _ _ _ _; rw [hY]; exact hO.out.below (belowN (Below.refl _ X) nq)
        have hsY := hbw.out.size
        have HI5 : Hid (∀ t, t < iA → k + 1 < E.length → (prOf a t).2 ≤ intAt E (k + 1)) := fun t ht _ => by have := HIA.out t ht; rw [HY.out]; omega
        have HJ5 : Hid (∀ t, t < i2 → k + 1 < E.length → (prOf b t).2 ≤ intAt E (k + 1)) := fun t ht _ => by have := HI2.out t ht; rw [HY.out]; omega
        clear hY haw9 hbw9 HIA HI2 HSA HI4 HIA8 HIB8 HI1 HJ1
        cases fx with
        | true =>
          have HK2 := Lib.hid (swp_kept HKE.out HK.out HX.out HY.out HFX.out)
          have HN2 : Hid ((appS acc (x, y)).length ≤ k + 1) := by show _ ≤ _; have := appS_len acc (x, y); have := HN.out; omega
          go_wp2_with (go_at_call 71; refine (SAPPEND_own A5 qa c5 acc x y _ W.heap.size hsY (by omega) hO).mono ?_; rintro e w5 ⟨v5, rfl, ho5, hb5⟩)
          have HO5 := Lib.hid ho5
          have HB5 := Lib.hid (hbw.out.trans hb5)
          clear ho5 hb5
          go_roundw
          case rel => exact ⟨k + 1, iA, i2, _, by omega, by omega, by omega, rfl, rfl, by go_num, HK2, HN2, HI5, HJ5, HO5, HB5⟩
          case measure => simp [intOf]; omega
        | false =>
          have HK2 := Lib.hid (swp_left HKE.out HK.out HX.out HFX.out)
          have HN2 : Hid (acc.length ≤ k + 1) := by show _ ≤ _; have := HN.out; omega
          go_wp2_with fail
          go_roundw
          case rel => exact ⟨k + 1, iA, i2, _, by omega, by omega, by omega, rfl, rfl, by go_num, HK2, HN2, HI5, HJ5, hO, hbw⟩
          case measure => simp [intOf]; omega
      · have hkf : decide ((k : Int) + 1 < (q9 : Int)) = false := by simp; omega
        have HV0 : Hid (acc = sweepS (fun x y => and x y) a b) := by
          have h := HK.out
          rw [swp_end _ (by have := HQ9.out; omega)] at h
          exact h
        go_wp2_with fail
        go_ret
        exact ⟨_, rfl, by rw [← HV0.out]; exact hO.out.base hWs, HBW9.out.trans (hbw.out.mono hWs)⟩
  case first =>
  go_wp2_with fail
  go_loopw [7, 22] (fun v s22 wr => (s22 = .int .i64 0 ∧ Hid (OwnI wr W0.heap.size v []) ∧ Hid (Below W0.heap.size W0 wr)) ∨ (s22 = .int .i64 1 ∧ Hid (OwnI wr W0.heap.size v (flatE a)) ∧ Hid (Below W0.heap.size W0 wr)) ∨ (s22 = .int .i64 2 ∧ Hid (OwnI wr W0.heap.size v (flatE a ++ flatE b)) ∧ Hid (Below W0.heap.size W0 wr))) (fun _ s22 _ => 2 - (intOf s22).toNat)
  case atStart => exact .inl ⟨rfl, OwnI.nil _ _, Below.refl _ _⟩
  case round =>
    rcases hrel with ⟨rfl, hO, hbw⟩ | ⟨rfl, hO, hbw⟩ | ⟨rfl, hO, hbw⟩
    · have r0 := (hbw.out.cell (p := ⟨G, 0, none⟩) hGlt).trans HR.out.1
      obtain ⟨A5, c5, rfl, hc5, hc6⟩ := hO.out.len
      obtain ⟨W1, rfl⟩ : ∃ x : World, x = wr := ⟨_, rfl⟩
      go_wp2_with fail
      go_loopw [7, 28] (fun v s28 wy => ∃ q : Nat, q ≤ n ∧ s28 = .int .i64 q ∧ Hid (OwnI wy W0.heap.size v ([] ++ flatE (a.take q))) ∧ Hid (Below W0.heap.size W0 wy)) (fun _ s28 _ => n - (intOf s28).toNat)
      case atStart => exact ⟨0, Nat.zero_le _, rfl, (by show OwnI _ _ _ _; rw [List.take_zero, show flatE ([] : List Pr) = [] from rfl, List.append_nil]; exact hO.out), hbw⟩
      case round =>
        clear hO hbw
        obtain ⟨q, hq, rfl, hO, hbw⟩ := hrel
        have hsz := hbw.out.size
        obtain ⟨A5, c5, rfl, hc5, hc6⟩ := hO.out.len
        obtain ⟨z, hz⟩ : ∃ z, ([] ++ flatE (a.take q)).length = z := ⟨_, rfl⟩
        have hz9 : z ≤ 1000000 := by have e1 := hla.out; have e2 := hlb.out; rw [← hz]; simp only [List.length_append, flatE_len, List.length_take, List.length_nil]; omega
        rw [hz] at hO hc5 ⊢
        clear hz
        by_cases hlt : q < n
        · obtain ⟨bA, oA, rfl, hbA, k1, k2⟩ := (haW.out.below (hbw.out.mono hBW) (Nat.le_refl _)).2 q hlt
          have hbAw : bA < wr.heap.size := by omega
          have hST : Hid (([] ++ flatE (a.take q)) ++ [(prOf a q).1, (prOf a q).2] = [] ++ flatE (a.take (q + 1))) := by show _ = _; rw [take_pr (by rw [hla.out]; exact hlt), flatE_app, flatE_one, List.append_assoc]
          obtain ⟨p, hp⟩ : ∃ p, prOf a q = p := ⟨_, rfl⟩
          obtain ⟨x1, x2⟩ := p
          rw [hp] at k1 k2 hST
          dsimp only at k1 k2 hST
          have hq0 : (0 : Int) ≤ (q : Int) := by omega
          have hqn : (q : Int) < (n : Int) := by omega
          obtain ⟨acc, hacc⟩ : ∃ acc, [] ++ flatE (a.take q) = acc := ⟨_, rfl⟩
          rw [hacc] at hO hST
          have hOa : Hid (OwnI (wr.alloc (.cells #[.int .i64 x1, .int .i64 x2] 29)) W0.heap.size (.slice A5 z c5) acc) := hO.out.below ((Below.refl _ _).alloc (Nat.le_refl _) _)
          have hsb2 : W0.heap.size ≤ (wr.alloc (.cells #[.int .i64 x1, .int .i64 x2] 29)).heap.size := by simp; omega
          have hgs : (wr.alloc (.cells #[.int .i64 x1, .int .i64 x2] 29)).heap.size = wr.heap.size + 1 := by simp
          have hz99 : z ≤ 5864062014634 := by omega
          clear hp hacc
          go_wp2_with (with_reducible refine wpList_push_two rfl (.tmp 32) (.tmp 37) rfl W0.heap.size A5 z c5 acc x1 x2 (wr.heap.size + 1) hgs rfl rfl hOa.out hz99 hsb2 ?_; intro g5 cap5 w5 hown5 hb5)
          have HB5 := Lib.hid ((hbw.out.alloc hsz (.cells #[.int .i64 x1, .int .i64 x2] 29)).trans hb5)
          rw [hST.out] at hown5
          have HO5 := Lib.hid hown5
          clear hown5 hb5
          go_roundw
          case rel => exact ⟨q + 1, by omega, by go_num, HO5, HB5⟩
          case measure => simp [intOf]; omega
        · obtain rfl : q = n := by omega
          rw [List.take_of_length_le (by rw [hla.out]; exact Nat.le_refl _)] at hO
          go_wp2_with fail
          go_roundw
          case rel => exact .inr (.inl ⟨rfl, (by have h := hO; exact h), hbw⟩)
          case measure => simp [intOf]
    · have r1 := (hbw.out.cell (p := ⟨G, 1, none⟩) hGlt).trans HR.out.2
      obtain ⟨A5, c5, rfl, hc5, hc6⟩ := hO.out.len
      obtain ⟨W1, rfl⟩ : ∃ x : World, x = wr := ⟨_, rfl⟩
      go_wp2_with fail
      go_loopw [7, 28] (fun v s28 wy => ∃ q : Nat, q ≤ m0 ∧ s28 = .int .i64 q ∧ Hid (OwnI wy W0.heap.size v (flatE a ++ flatE (b.take q))) ∧ Hid (Below W0.heap.size W0 wy)) (fun _ s28 _ => m0 - (intOf s28).toNat)
      case atStart => exact ⟨0, Nat.zero_le _, rfl, (by show OwnI _ _ _ _; rw [List.take_zero, show flatE ([] : List Pr) = [] from rfl, List.append_nil]; exact hO.out), hbw⟩
      case round =>
        clear hO hbw
        obtain ⟨q, hq, rfl, hO, hbw⟩ := hrel
        have hsz := hbw.out.size
        obtain ⟨A5, c5, rfl, hc5, hc6⟩ := hO.out.len
        obtain ⟨z, hz⟩ : ∃ z, (flatE a ++ flatE (b.take q)).length = z := ⟨_, rfl⟩
        have hz9 : z ≤ 1000000 := by have e1 := hla.out; have e2 := hlb.out; rw [← hz]; simp only [List.length_append, flatE_len, List.length_take, List.length_nil]; omega
        rw [hz] at hO hc5 ⊢
        clear hz
        by_cases hlt : q < m0
        · obtain ⟨bA, oA, rfl, hbA, k1, k2⟩ := (hbW.out.below (hbw.out.mono hBW) (Nat.le_refl _)).2 q hlt
          have hbAw : bA < wr.heap.size := by omega
          have hST : Hid ((flatE a ++ flatE (b.take q)) ++ [(prOf b q).1, (prOf b q).2] = flatE a ++ flatE (b.take (q + 1))) := by show _ = _; rw [take_pr (by rw [hlb.out]; exact hlt), flatE_app, flatE_one, List.append_assoc]
          obtain ⟨p, hp⟩ : ∃ p, prOf b q = p := ⟨_, rfl⟩
          obtain ⟨x1, x2⟩ := p
          rw [hp] at k1 k2 hST
          dsimp only at k1 k2 hST
          have hq0 : (0 : Int) ≤ (q : Int) := by omega
          have hqn : (q : Int) < (m0 : Int) := by omega
          obtain ⟨acc, hacc⟩ : ∃ acc, flatE a ++ flatE (b.take q) = acc := ⟨_, rfl⟩
          rw [hacc] at hO hST
          have hOa : Hid (OwnI (wr.alloc (.cells #[.int .i64 x1, .int .i64 x2] 29)) W0.heap.size (.slice A5 z c5) acc) := hO.out.below ((Below.refl _ _).alloc (Nat.le_refl _) _)
          have hsb2 : W0.heap.size ≤ (wr.alloc (.cells #[.int .i64 x1, .int .i64 x2] 29)).heap.size := by simp; omega
          have hgs : (wr.alloc (.cells #[.int .i64 x1, .int .i64 x2] 29)).heap.size = wr.heap.size + 1 := by simp
          have hz99 : z ≤ 5864062014634 := by omega
          clear hp hacc
          go_wp2_with (with_reducible refine wpList_push_two rfl (.tmp 32) (.tmp 37) rfl W0.heap.size A5 z c5 acc x1 x2 (wr.heap.size + 1) hgs rfl rfl hOa.out hz99 hsb2 ?_; intro g5 cap5 w5 hown5 hb5)
          have HB5 := Lib.hid ((hbw.out.alloc hsz (.cells #[.int .i64 x1, .int .i64 x2] 29)).trans hb5)
          rw [hST.out] at hown5
          have HO5 := Lib.hid hown5
          clear hown5 hb5
          go_roundw
          case rel => exact ⟨q + 1, by omega, by go_num, HO5, HB5⟩
          case measure => simp [intOf]; omega
        · obtain rfl : q = m0 := by omega
          rw [List.take_of_length_le (by rw [hlb.out]; exact Nat.le_refl _)] at hO
          go_wp2_with fail
          go_roundw
          case rel => exact .inr (.inr ⟨rfl, (by have h := hO; exact h), hbw⟩)
          case measure => simp [intOf]
    · go_wp2_with fail
      go_meet
      exact ⟨hO, hbw⟩
end Go.Proofs.YtpfjodggnfgnnaaDoor

/- Sweep of Without. -/
set_option linter.unusedSimpArgs false
set_option linter.unusedVariables false
namespace Go.Proofs.YtpfjodggnfgnnaaDoor
open Go.RowKit Go.Dw
set_option maxRecDepth 100000 in
set_option maxHeartbeats 8000000 in
theorem SWEEP_minus (A A' : Option Addr) (n c m0 d : Nat) (a b : List Pr) (w : World) (B : Nat) (hB : B ≤ w.heap.size) (hn : n ≤ 1000) (hm : m0 ≤ 1000) (HCA : Hid (Canon a)) (HCB : Hid (Canon b)) (ha : Hid (PrsAt w B A n a)) (hb : Hid (PrsAt w B A' m0 b)) :
    Calls Tryd.prog 72 #[.slice A n c, .slice A' m0 d, .func (.func 40) #[] #[]] w fun e w' => ∃ v, e = .returned v ∧ OwnPrs 29 w' w.heap.size v (sweepS (fun x y => and x (not y)) a b) ∧ Below w.heap.size w w' := by
  have hla := Lib.hid ha.out.1
  have hlb := Lib.hid hb.out.1
  obtain ⟨W0, G, hW0, hG, HG, HBW0, HSW0⟩ := cell_new0 w 22 #[.slice A n c, .slice A' m0 d]
  have haW : Hid (PrsAt W0 B A n a) := ha.out.below HBW0.out hB
  have hbW : Hid (PrsAt W0 B A' m0 b) := hb.out.below HBW0.out hB
  have hBW : B ≤ W0.heap.size := by have := HBW0.out.size; omega
  have hGlt := blk_lt HG.out
  obtain ⟨r0, r1, _, _⟩ := pr_cells HG.out
  have HR := Lib.hid (And.intro r0 r1)
  go_enter Tryd.func72, Tryd.ntmps72
  go_upto_block 0 with (fail)
  rw [← hW0, ← hG]
  clear hW0 hG r0 r1
  go_cut [7] (fun v7 wx => Hid (OwnI wx W0.heap.size v7 (flatE a ++ flatE b)) ∧ Hid (Below W0.heap.size W0 wx))
  case rest =>
    obtain ⟨hO, hbw⟩ := hcut
    obtain ⟨W1, rfl⟩ : ∃ x : World, x = wc := ⟨_, rfl⟩
    obtain ⟨AE, cE, rfl, _, _⟩ := hO.out.len
    have hs1 := hbw.out.size
    have hzl : (flatE a ++ flatE b).length ≤ 1000000 := by have e1 := hla.out; have e2 := hlb.out; simp only [List.length_append, flatE_len]; omega
    obtain ⟨L, hL⟩ : ∃ L, flatE a ++ flatE b = L := ⟨_, rfl⟩
    have HES : Hid (Lib.compact (L.mergeSort leI) = endsS a b) := by show _ = _; rw [ends_sorted, ← hL]; rfl
    rw [hL] at hO hzl
    rw [hL]
    obtain ⟨z, hz⟩ : ∃ z, L.length = z := ⟨_, rfl⟩
    rw [hz] at hO ⊢
    have HZ := Lib.hid hz
    clear hL hz HR HG HSW0
    go_upto_region 12 with (go_at_call 98; refine (SORT_own AE z cE L _ W0.heap.size hs1 hzl hO).mono ?_; rintro e w2 ⟨rfl, hO2, hb2⟩)
    have HB2 := Lib.hid (hbw.out.trans hb2)
    have HO2 := Lib.hid hO2
    have hs2 := HB2.out.size
    have hzl2 : (L.mergeSort leI).length ≤ 1000000 := by rw [List.length_mergeSort]; exact hzl
    clear hO2 hb2
    go_upto_region 13 with (go_at_call 99; refine (COMPACT_own AE z cE _ _ W0.heap.size hs2 hzl2 HO2).mono ?_; rintro e w3 ⟨vE, rfl, hO3, hb3⟩)
    obtain ⟨W, rfl⟩ : ∃ x : World, x = w3 := ⟨_, rfl⟩
    have HB3 := Lib.hid (HB2.out.trans hb3)
    rw [HES.out] at hO3
    have HO3 := Lib.hid hO3
    clear hO3 hb3 HO2 hO hbw HES hzl hzl2 HZ
    have haX : Hid (PrsAt W B A n a) := haW.out.below (HB3.out.mono hBW) (Nat.le_refl _)
    have hbX : Hid (PrsAt W B A' m0 b) := hbW.out.below (HB3.out.mono hBW) (Nat.le_refl _)
    have hs3 := HB3.out.size
    have hBX : B ≤ W.heap.size := by omega
    have HEI0 := Lib.hid (endsL_lt (flatE a ++ flatE b))
    have HSW0 := Lib.hid (sweep_def (fun x y => and x (not y)) a b)
    have hEl := ends_len a b
    rw [hla.out, hlb.out] at hEl
    obtain ⟨E, HEE⟩ : ∃ E, Hid (E = endsS a b) := ⟨_, rfl⟩
    rw [← HEE.out] at hEl HO3 HSW0
    have HEI : Hid (E.Pairwise (· < ·)) := by show E.Pairwise _; rw [HEE.out]; exact HEI0.out
    clear HEI0
    obtain ⟨AE2, cE2, rfl, hcE, hcE2⟩ := HO3.out.len
    obtain ⟨q9, hq9⟩ : ∃ q, E.length = q := ⟨_, rfl⟩
    rw [hq9] at HO3 hcE hEl ⊢
    have HQ9 := Lib.hid hq9
    have HBW9 := Lib.hid ((HBW0.out.trans (HB3.out.mono HBW0.out.size)))
    have hWs : w.heap.size ≤ W.heap.size := HBW9.out.size
    clear hq9 HB2 hs1 hs2 HB3 HBW0 haW hbW hBW
    go_wp2_with fail
    go_loopw [12, 13, 14, 15] (fun v s13 s14 s15 wr => ∃ (k i j : Nat) (acc : List Pr), k ≤ q9 ∧ i ≤ n ∧ j ≤ m0 ∧ s13 = .int .i64 i ∧ s14 = .int .i64 j ∧ s15 = .int .i64 k ∧ Hid (swp (swF (fun x y => and x (not y)) a b) (E.drop k) acc = sweepS (fun x y => and x (not y)) a b) ∧ Hid (acc.length ≤ k) ∧ Hid (∀ t, t < i → k < E.length → (prOf a t).2 ≤ intAt E k) ∧ Hid (∀ t, t < j → k < E.length → (prOf b t).2 ≤ intAt E k) ∧ Hid (OwnPrs 29 wr W.heap.size v acc) ∧ Hid (Below W.heap.size W wr)) (fun _ _ _ s15 _ => q9 - (intOf s15).toNat)
    case atStart => exact ⟨0, 0, 0, [], by omega, by omega, by omega, rfl, rfl, rfl, HSW0, Nat.le_refl _, (fun t ht => by omega), (fun t ht => by omega), OwnPrs.nil _ _ _, Below.refl _ _⟩
    case round =>
      obtain ⟨k, i, j, acc, hk, hi, hj, rfl, rfl, rfl, HK, HN, HI, HJ, hO, hbw⟩ := hrel
      have hsz : W.heap.size ≤ wr.heap.size := hbw.out.size
      obtain ⟨A5, c5, rfl, hc5, hc6⟩ := hO.out.len
      obtain ⟨qa, hqa⟩ : ∃ q, acc.length = q := ⟨_, rfl⟩
      have HQA := Lib.hid hqa
      have hqk : qa ≤ k := by rw [← hqa]; exact HN.out
      rw [hqa] at hO hc5 ⊢
      clear hqa
      have hk0 : (0 : Int) ≤ (k : Int) := by omega
      have hi0 : (0 : Int) ≤ (i : Int) := by omega
      have hj0 : (0 : Int) ≤ (j : Int) := by omega
      by_cases hkq : k + 1 < q9
      · obtain ⟨gE, capE, hv, _, hgE, _, _, hcl⟩ := HO3.out.slot (by have := HQ9.out; omega)
        injection hv with e1 e2 e3
        subst e1 e3
        obtain ⟨s1, _⟩ := hcl k (by have := HQ9.out; omega)
        obtain ⟨s2, _⟩ := hcl (k + 1) (by have := HQ9.out; omega)
        replace s1 := (hbw.out.cell (p := ⟨gE, k, none⟩) hgE).trans s1
        replace s2 := (hbw.out.cell (p := ⟨gE, k + 1, none⟩) hgE).trans s2
        have hxy := int_lt HEI.out (show k < k + 1 by omega) (by have := HQ9.out; omega)
        have hkE : k + 1 < E.length := by have := HQ9.out; omega
        have HI1 : Hid (∀ t, t < i → (prOf a t).2 ≤ intAt E k) := fun t ht => HI.out t ht (by omega)
        have HJ1 : Hid (∀ t, t < j → (prOf b t).2 ≤ intAt E k) := fun t ht => HJ.out t ht (by omega)
        obtain ⟨x, hx⟩ : ∃ x, intAt E k = x := ⟨_, rfl⟩
        obtain ⟨y, hy⟩ : ∃ y, intAt E (k + 1) = y := ⟨_, rfl⟩
        rw [hx] at s1 hxy HI1 HJ1
        rw [hy] at s2 hxy
        have HX := Lib.hid hx
        have HY := Lib.hid hy
        have HKE := Lib.hid hkE
        have hkn : (k : Int) + 1 < (q9 : Int) := by omega
        have hkn2 : (k : Int) < (q9 : Int) := by omega
        clear hx hy hcl hkE e2 HI HJ
        have kw1 : IntKind.i64.wrap ((k : Int) + 1) = (k : Int) + 1 := IntWalk.i64_in _ (by omega)
        have kw2 : (0 : Int) ≤ (k : Int) + 1 := by omega
        have kw3 : ((k : Int) + 1).toNat = k + 1 := by omega
        go_upto_region 18 with (fail)
        go_quiet (fail)
        clear kw1 kw2 kw3 s1 s2
        obtain ⟨X, hX⟩ : ∃ X : World, X = wr.drewN nq := ⟨_, rfl⟩
        rw [← hX]
        replace hbw : Hid (Below W.heap.size W X) := by show Below _ _ _; rw [hX]; exact belowN hbw.out nq
        replace hO : Hid (OwnPrs 29 X W.heap.size (.slice A5 qa c5) acc) := by show OwnPrs _ _ _ _ _; rw [hX]; exact hO.out.below (belowN (Below.refl _ wr) nq)
        clear hX hsz
        have haw9 : Hid (PrsAt X B A n a) := haX.out.below (hbw.out.mono hBX) (Nat.le_refl _)
        have hbw9 : Hid (PrsAt X B A' m0 b) := hbX.out.below (hbw.out.mono hBX) (Nat.le_refl _)
        have hsz := hbw.out.size
        go_upto_block 6 with (fail)
        go_cut [13] (fun v wx => ∃ i2 : Nat, i2 ≤ n ∧ v = .int .i64 i2 ∧ wx = X ∧ Hid (∀ t, t < i2 → (prOf a t).2 ≤ x) ∧ Hid (i2 < n → x < (prOf a i2).2))
        case first =>
          go_wp2_with fail
          go_loop [13] (fun v => ∃ i2 : Nat, i2 ≤ n ∧ v = .int .i64 i2 ∧ Hid (∀ t, t < i2 → (prOf a t).2 ≤ x)) (fun v => n - (intOf v).toNat)
          case atStart => exact ⟨i, by omega, rfl, HI1⟩
          case round =>
            obtain ⟨i2, hi2, rfl, HI2⟩ := hrel
            have hi20 : (0 : Int) ≤ (i2 : Int) := by omega
            by_cases hlt : i2 < n
            · obtain ⟨bA, oA, rfl, hbA, k1, k2⟩ := haw9.out.2 i2 hlt
              obtain ⟨p, hp⟩ : ∃ p, prOf a i2 = p := ⟨_, rfl⟩
              obtain ⟨x1, x2⟩ := p
              have HPP := Lib.hid hp
              rw [hp] at k1 k2
              dsimp only at k1 k2
              have hin : (i2 : Int) < (n : Int) := by omega
              clear hp
              by_cases hle : x2 ≤ x
              · have HI3 : Hid (∀ t, t < i2 + 1 → (prOf a t).2 ≤ x) := fun t ht => by
                  by_cases e : t = i2
                  · rw [e, HPP.out]; exact hle
                  · exact HI2.out t (by omega)
                go_wp2_with fail
                go_round
                case rel => exact ⟨i2 + 1, by omega, by go_num, HI3⟩
                case measure => simp [intOf]; omega
              · have HI4 : Hid (i2 < n → x < (prOf a i2).2) := fun _ => by rw [HPP.out]; dsimp only; omega
                have hlf : decide (x2 ≤ x) = false := decide_eq_false hle
                clear hle
                go_wp2_with fail
                go_meet
                exact ⟨i2, by omega, rfl, rfl, HI2, HI4⟩
            · have hin : decide ((i2 : Int) < (n : Int)) = false := by simp; omega
              have hin2 : decide (i2 < n) = false := by simp; omega
              have HI4 : Hid (i2 < n → x < (prOf a i2).2) := fun h => absurd h hlt
              clear hlt
              go_wp2_with fail
              go_meet
              exact ⟨i2, by omega, rfl, rfl, HI2, HI4⟩
        case rest =>
        obtain ⟨i2, hi2, rfl, rfl, HI2, HI4⟩ := hcut
        obtain ⟨X, rfl⟩ : ∃ x : World, x = wc := ⟨_, rfl⟩
        obtain ⟨iA, hiA⟩ : ∃ q : Nat, q = i2 := ⟨_, rfl⟩
        rw [← hiA] at hi2 HI2 HI4 ⊢
        have hA1 := hi2
        have HIA := HI2
        have HSA := HI4
        clear hiA HI2 HI4 hi2
        go_upto_block 8 with (fail)
        go_cut [14] (fun v wx => ∃ i2 : Nat, i2 ≤ m0 ∧ v = .int .i64 i2 ∧ wx = X ∧ Hid (∀ t, t < i2 → (prOf b t).2 ≤ x) ∧ Hid (i2 < m0 → x < (prOf b i2).2))
        case first =>
          go_wp2_with fail
          go_loop [14] (fun v => ∃ i2 : Nat, i2 ≤ m0 ∧ v = .int .i64 i2 ∧ Hid (∀ t, t < i2 → (prOf b t).2 ≤ x)) (fun v => m0 - (intOf v).toNat)
          case atStart => exact ⟨j, by omega, rfl, HJ1⟩
          case round =>
            obtain ⟨i2, hi2, rfl, HI2⟩ := hrel
            have hi20 : (0 : Int) ≤ (i2 : Int) := by omega
            by_cases hlt : i2 < m0
            · obtain ⟨bA, oA, rfl, hbA, k1, k2⟩ := hbw9.out.2 i2 hlt
              obtain ⟨p, hp⟩ : ∃ p, prOf b i2 = p := ⟨_, rfl⟩
              obtain ⟨x1, x2⟩ := p
              have HPP := Lib.hid hp
              rw [hp] at k1 k2
              dsimp only at k1 k2
              have hin : (i2 : Int) < (m0 : Int) := by omega
              clear hp
              by_cases hle : x2 ≤ x
              · have HI3 : Hid (∀ t, t < i2 + 1 → (prOf b t).2 ≤ x) := fun t ht => by
                  by_cases e : t = i2
                  · rw [e, HPP.out]; exact hle
                  · exact HI2.out t (by omega)
                go_wp2_with fail
                go_round
                case rel => exact ⟨i2 + 1, by omega, by go_num, HI3⟩
                case measure => simp [intOf]; omega
              · have HI4 : Hid (i2 < m0 → x < (prOf b i2).2) := fun _ => by rw [HPP.out]; dsimp only; omega
                have hlf : decide (x2 ≤ x) = false := decide_eq_false hle
                clear hle
                go_wp2_with fail
                go_meet
                exact ⟨i2, by omega, rfl, rfl, HI2, HI4⟩
            · have hin : decide ((i2 : Int) < (m0 : Int)) = false := by simp; omega
              have hin2 : decide (i2 < m0) = false := by simp; omega
              have HI4 : Hid (i2 < m0 → x < (prOf b i2).2) := fun h => absurd h hlt
              clear hlt
              go_wp2_with fail
              go_meet
              exact ⟨i2, by omega, rfl, rfl, HI2, HI4⟩
        case rest =>
        obtain ⟨i2, hi2, rfl, rfl, HI2, HI4⟩ := hcut
        obtain ⟨X, rfl⟩ : ∃ x : World, x = wc := ⟨_, rfl⟩
        have HIA8 : Hid (inS a x = (decide (iA < n) && decide ((prOf a iA).1 ≤ x))) := by
          have h := in_at (x := x) HCA.out (i := iA) (by rw [hla.out]; exact hA1) HIA.out (fun h => HSA.out (by rw [hla.out] at h; exact h))
          rw [hla.out] at h
          exact h
        have HIB8 : Hid (inS b x = (decide (i2 < m0) && decide ((prOf b i2).1 ≤ x))) := by
          have h := in_at (x := x) HCB.out (i := i2) (by rw [hlb.out]; exact hi2) HI2.out (fun h => HI4.out (by rw [hlb.out] at h; exact h))
          rw [hlb.out] at h
          exact h
        obtain ⟨fx, hfx⟩ : ∃ f, swF (fun x y => and x (not y)) a b x = f := ⟨_, rfl⟩
        have HFX := Lib.hid hfx
        have hiA0 : (0 : Int) ≤ (iA : Int) := by omega
        have hi20 : (0 : Int) ≤ (i2 : Int) := by omega
        clear hfx
        go_upto_region 23 with (fail)
        go_cut [118] (fun v wx => ∃ q : Nat, v = .bool fx ∧ wx = X.drewN q)
        case first =>
          by_cases hA9 : iA < n
          · obtain ⟨bA, oA, rfl, hbA, k1, k2⟩ := haw9.out.2 iA hA9
            have HIA9 : Hid (inS a x = (decide (iA < n) && decide ((prOf a iA).1 ≤ x))) := HIA8.out
            obtain ⟨p, hp⟩ : ∃ p, prOf a iA = p := ⟨_, rfl⟩
            obtain ⟨x1, x2⟩ := p
            rw [hp] at k1 k2 HIA9
            dsimp only at k1 k2 HIA9
            have hin : (iA : Int) < (n : Int) := by omega
            clear hp
            by_cases hx1 : x1 ≤ x
            · skip
              by_cases hB9 : i2 < m0
              · obtain ⟨bB, oB, rfl, hbB, m1, m2⟩ := hbw9.out.2 i2 hB9
                have HIB9 : Hid (inS b x = (decide (i2 < m0) && decide ((prOf b i2).1 ≤ x))) := HIB8.out
                obtain ⟨p, hp⟩ : ∃ p, prOf b i2 = p := ⟨_, rfl⟩
                obtain ⟨y1, y2⟩ := p
                rw [hp] at m1 m2 HIB9
                dsimp only at m1 m2 HIB9
                have hjn : (i2 : Int) < (m0 : Int) := by omega
                clear hp
                by_cases hy1 : y1 ≤ x
                · skip
                  have HPA : Hid (inS a x = true) := by show _ = _; rw [HIA9.out, decide_eq_true hA9, decide_eq_true hx1, Bool.and_self]
                  have HPB : Hid (inS b x = true) := by show _ = _; rw [HIB9.out, decide_eq_true hB9, decide_eq_true hy1, Bool.and_self]
                  have HK9 : Hid (∀ z : Nat, Calls Tryd.prog 40 #[.bool true, .bool true] (X.drewN z) fun e w' => e = .returned (.bool fx) ∧ ∃ m, w' = (X.drewN z).drewN m) := fun z => (KWITHOUT_any true true _).mono fun e w' h => ⟨h.1.trans (by rw [← HFX.out, swF_at HPA.out HPB.out]), 0, h.2.symm⟩
                  go_quiet ((go_at_call 40; (with_reducible refine Calls.quiet_of (HK9.out _))))
                  go_wp2_with fail
                  go_meet
                  exact ⟨nq, rfl, rfl⟩
                · have hyf : decide (y1 ≤ x) = false := decide_eq_false hy1
                  clear hy1
                  have HPA : Hid (inS a x = true) := by show _ = _; rw [HIA9.out, decide_eq_true hA9, decide_eq_true hx1, Bool.and_self]
                  have HPB : Hid (inS b x = false) := by show _ = _; rw [HIB9.out, hyf, Bool.and_false]
                  have HK9 : Hid (∀ z : Nat, Calls Tryd.prog 40 #[.bool true, .bool false] (X.drewN z) fun e w' => e = .returned (.bool fx) ∧ ∃ m, w' = (X.drewN z).drewN m) := fun z => (KWITHOUT_any true false _).mono fun e w' h => ⟨h.1.trans (by rw [← HFX.out, swF_at HPA.out HPB.out]), 0, h.2.symm⟩
                  go_quiet ((go_at_call 40; (with_reducible refine Calls.quiet_of (HK9.out _))))
                  go_wp2_with fail
                  go_meet
                  exact ⟨nq, rfl, rfl⟩
              · have HIB9 : Hid (inS b x = (decide (i2 < m0) && decide ((prOf b i2).1 ≤ x))) := HIB8.out
                have hjf : decide ((i2 : Int) < (m0 : Int)) = false := by simp; omega
                have hjf2 : decide (i2 < m0) = false := by simp; omega
                clear hB9
                have HPA : Hid (inS a x = true) := by show _ = _; rw [HIA9.out, decide_eq_true hA9, decide_eq_true hx1, Bool.and_self]
                have HPB : Hid (inS b x = false) := by show _ = _; rw [HIB9.out, hjf2, Bool.false_and]
                have HK9 : Hid (∀ z : Nat, Calls Tryd.prog 40 #[.bool true, .bool false] (X.drewN z) fun e w' => e = .returned (.bool fx) ∧ ∃ m, w' = (X.drewN z).drewN m) := fun z => (KWITHOUT_any true false _).mono fun e w' h => ⟨h.1.trans (by rw [← HFX.out, swF_at HPA.out HPB.out]), 0, h.2.symm⟩
                go_quiet ((go_at_call 40; (with_reducible refine Calls.quiet_of (HK9.out _))))
                go_wp2_with fail
                go_meet
                exact ⟨nq, rfl, rfl⟩
            · have hxf : decide (x1 ≤ x) = false := decide_eq_false hx1
              clear hx1
              by_cases hB9 : i2 < m0
              · obtain ⟨bB, oB, rfl, hbB, m1, m2⟩ := hbw9.out.2 i2 hB9
                have HIB9 : Hid (inS b x = (decide (i2 < m0) && decide ((prOf b i2).1 ≤ x))) := HIB8.out
                obtain ⟨p, hp⟩ : ∃ p, prOf b i2 = p := ⟨_, rfl⟩
                obtain ⟨y1, y2⟩ := p
                rw [hp] at m1 m2 HIB9
                dsimp only at m1 m2 HIB9
                have hjn : (i2 : Int) < (m0 : Int) := by omega
                clear hp
                by_cases hy1 : y1 ≤ x
                · skip
                  have HPA : Hid (inS a x = false) := by show _ = _; rw [HIA9.out, hxf, Bool.and_false]
                  have HPB : Hid (inS b x = true) := by show _ = _; rw [HIB9.out, decide_eq_true hB9, decide_eq_true hy1, Bool.and_self]
                  have HK9 : Hid (∀ z : Nat, Calls Tryd.prog 40 #[.bool false, .bool true] (X.drewN z) fun e w' => e = .returned (.bool fx) ∧ ∃ m, w' = (X.drewN z).drewN m) := fun z => (KWITHOUT_any false true _).mono fun e w' h => ⟨h.1.trans (by rw [← HFX.out, swF_at HPA.out HPB.out]), 0, h.2.symm⟩
                  go_quiet ((go_at_call 40; (with_reducible refine Calls.quiet_of (HK9.out _))))
                  go_wp2_with fail
                  go_meet
                  exact ⟨nq, rfl, rfl⟩
                · have hyf : decide (y1 ≤ x) = false := decide_eq_false hy1
                  clear hy1
                  have HPA : Hid (inS a x = false) := by show _ = _; rw [HIA9.out, hxf, Bool.and_false]
                  have HPB : Hid (inS b x = false) := by show _ = _; rw [HIB9.out, hyf, Bool.and_false]
                  have HK9 : Hid (∀ z : Nat, Calls Tryd.prog 40 #[.bool false, .bool false] (X.drewN z) fun e w' => e = .returned (.bool fx) ∧ ∃ m, w' = (X.drewN z).drewN m) := fun z => (KWITHOUT_any false false _).mono fun e w' h => ⟨h.1.trans (by rw [← HFX.out, swF_at HPA.out HPB.out]), 0, h.2.symm⟩
                  go_quiet ((go_at_call 40; (with_reducible refine Calls.quiet_of (HK9.out _))))
                  go_wp2_with fail
                  go_meet
                  exact ⟨nq, rfl, rfl⟩
              · have HIB9 : Hid (inS b x = (decide (i2 < m0) && decide ((prOf b i2).1 ≤ x))) := HIB8.out
                have hjf : decide ((i2 : Int) < (m0 : Int)) = false := by simp; omega
                have hjf2 : decide (i2 < m0) = false := by simp; omega
                clear hB9
                have HPA : Hid (inS a x = false) := by show _ = _; rw [HIA9.out, hxf, Bool.and_false]
                have HPB : Hid (inS b x = false) := by show _ = _; rw [HIB9.out, hjf2, Bool.false_and]
                have HK9 : Hid (∀ z : Nat, Calls Tryd.prog 40 #[.bool false, .bool false] (X.drewN z) fun e w' => e = .returned (.bool fx) ∧ ∃ m, w' = (X.drewN z).drewN m) := fun z => (KWITHOUT_any false false _).mono fun e w' h => ⟨h.1.trans (by rw [← HFX.out, swF_at HPA.out HPB.out]), 0, h.2.symm⟩
                go_quiet ((go_at_call 40; (with_reducible refine Calls.quiet_of (HK9.out _))))
                go_wp2_with fail
                go_meet
                exact ⟨nq, rfl, rfl⟩
          · have HIA9 : Hid (inS a x = (decide (iA < n) && decide ((prOf a iA).1 ≤ x))) := HIA8.out
            have hif : decide ((iA : Int) < (n : Int)) = false := by simp; omega
            have hif2 : decide (iA < n) = false := by simp; omega
            clear hA9
            by_cases hB9 : i2 < m0
            · obtain ⟨bB, oB, rfl, hbB, m1, m2⟩ := hbw9.out.2 i2 hB9
              have HIB9 : Hid (inS b x = (decide (i2 < m0) && decide ((prOf b i2).1 ≤ x))) := HIB8.out
              obtain ⟨p, hp⟩ : ∃ p, prOf b i2 = p := ⟨_, rfl⟩
              obtain ⟨y1, y2⟩ := p
              rw [hp] at m1 m2 HIB9
              dsimp only at m1 m2 HIB9
              have hjn : (i2 : Int) < (m0 : Int) := by omega
              clear hp
              by_cases hy1 : y1 ≤ x
              · skip
                have HPA : Hid (inS a x = false) := by show _ = _; rw [HIA9.out, hif2, Bool.false_and]
                have HPB : Hid (inS b x = true) := by show _ = _; rw [HIB9.out, decide_eq_true hB9, decide_eq_true hy1, Bool.and_self]
                have HK9 : Hid (∀ z : Nat, Calls Tryd.prog 40 #[.bool false, .bool true] (X.drewN z) fun e w' => e = .returned (.bool fx) ∧ ∃ m, w' = (X.drewN z).drewN m) := fun z => (KWITHOUT_any false true _).mono fun e w' h => ⟨h.1.trans (by rw [← HFX.out, swF_at HPA.out HPB.out]), 0, h.2.symm⟩
                go_quiet ((go_at_call 40; (with_reducible refine Calls.quiet_of (HK9.out _))))
                go_wp2_with fail
                go_meet
                exact ⟨nq, rfl, rfl⟩
              · have hyf : decide (y1 ≤ x) = false := decide_eq_false hy1
                clear hy1
                have HPA : Hid (inS a x = false) := by show _ = _; rw [HIA9.out, hif2, Bool.false_and]
                have HPB : Hid (inS b x = false) := by show _ = _; rw [HIB9.out, hyf, Bool.and_false]
                have HK9 : Hid (∀ z : Nat, Calls Tryd.prog 40 #[.bool false, .bool false] (X.drewN z) fun e w' => e = .returned (.bool fx) ∧ ∃ m, w' = (X.drewN z).drewN m) := fun z => (KWITHOUT_any false false _).mono fun e w' h => ⟨h.1.trans (by rw [← HFX.out, swF_at HPA.out HPB.out]), 0, h.2.symm⟩
                go_quiet ((go_at_call 40; (with_reducible refine Calls.quiet_of (HK9.out _))))
                go_wp2_with fail
                go_meet
                exact ⟨nq, rfl, rfl⟩
            · have HIB9 : Hid (inS b x = (decide (i2 < m0) && decide ((prOf b i2).1 ≤ x))) := HIB8.out
              have hjf : decide ((i2 : Int) < (m0 : Int)) = false := by simp; omega
              have hjf2 : decide (i2 < m0) = false := by simp; omega
              clear hB9
              have HPA : Hid (inS a x = false) := by show _ = _; rw [HIA9.out, hif2, Bool.false_and]
              have HPB : Hid (inS b x = false) := by show _ = _; rw [HIB9.out, hjf2, Bool.false_and]
              have HK9 : Hid (∀ z : Nat, Calls Tryd.prog 40 #[.bool false, .bool false] (X.drewN z) fun e w' => e = .returned (.bool fx) ∧ ∃ m, w' = (X.drewN z).drewN m) := fun z => (KWITHOUT_any false false _).mono fun e w' h => ⟨h.1.trans (by rw [← HFX.out, swF_at HPA.out HPB.out]), 0, h.2.symm⟩
              go_quiet ((go_at_call 40; (with_reducible refine Calls.quiet_of (HK9.out _))))
              go_wp2_with fail
              go_meet
              exact ⟨nq, rfl, rfl⟩
        case rest =>
        obtain ⟨nq, rfl, rfl⟩ := hcut
        obtain ⟨Y, hY⟩ : ∃ Y : World, Y = X.drewN nq := ⟨_, rfl⟩
        rw [← hY]
        replace hbw : Hid (Below W.heap.size W Y) := by show Below _ _ _; rw [hY]; exact belowN hbw.out nq
        replace hO : Hid (OwnPrs 29 Y W.heap.size (.slice A5 qa c5) acc) := by show OwnPrs _ _ _ _ _; rw [hY]; exact hO.out.below (belowN (Below.refl _ X) nq)
        have hsY := hbw.out.size
        have HI5 : Hid (∀ t, t < iA → k + 1 < E.length → (prOf a t).2 ≤ intAt E (k + 1)) := fun t ht _ => by have := HIA.out t ht; rw [HY.out]; omega
        have HJ5 : Hid (∀ t, t < i2 → k + 1 < E.length → (prOf b t).2 ≤ intAt E (k + 1)) := fun t ht _ => by have := HI2.out t ht; rw [HY.out]; omega
        clear hY haw9 hbw9 HIA HI2 HSA HI4 HIA8 HIB8 HI1 HJ1
        cases fx with
        | true =>
          have HK2 := Lib.hid (swp_kept HKE.out HK.out HX.out HY.out HFX.out)
          have HN2 : Hid ((appS acc (x, y)).length ≤ k + 1) := by show _ ≤ _; have := appS_len acc (x, y); have := HN.out; omega
          go_wp2_with (go_at_call 71; refine (SAPPEND_own A5 qa c5 acc x y _ W.heap.size hsY (by omega) hO).mono ?_; rintro e w5 ⟨v5, rfl, ho5, hb5⟩)
          have HO5 := Lib.hid ho5
          have HB5 := Lib.hid (hbw.out.trans hb5)
          clear ho5 hb5
          go_roundw
          case rel => exact ⟨k + 1, iA, i2, _, by omega, by omega, by omega, rfl, rfl, by go_num, HK2, HN2, HI5, HJ5, HO5, HB5⟩
          case measure => simp [intOf]; omega
        | false =>
          have HK2 := Lib.hid (swp_left HKE.out HK.out HX.out HFX.out)
          have HN2 : Hid (acc.length ≤ k + 1) := by show _ ≤ _; have := HN.out; omega
          go_wp2_with fail
          go_roundw
          case rel => exact ⟨k + 1, iA, i2, _, by omega, by omega, by omega, rfl, rfl, by go_num, HK2, HN2, HI5, HJ5, hO, hbw⟩
          case measure => simp [intOf]; omega
      · have hkf : decide ((k : Int) + 1 < (q9 : Int)) = false := by simp; omega
        have HV0 : Hid (acc = sweepS (fun x y => and x (not y)) a b) := by
          have h := HK.out
          rw [swp_end _ (by have := HQ9.out; omega)] at h
          exact h
        go_wp2_with fail
        go_ret
        exact ⟨_, rfl, by rw [← HV0.out]; exact hO.out.base hWs, HBW9.out.trans (hbw.out.mono hWs)⟩
  case first =>
  go_wp2_with fail
  go_loopw [7, 22] (fun v s22 wr => (s22 = .int .i64 0 ∧ Hid (OwnI wr W0.heap.size v []) ∧ Hid (Below W0.heap.size W0 wr)) ∨ (s22 = .int .i64 1 ∧ Hid (OwnI wr W0.heap.size v (flatE a)) ∧ Hid (Below W0.heap.size W0 wr)) ∨ (s22 = .int .i64 2 ∧ Hid (OwnI wr W0.heap.size v (flatE a ++ flatE b)) ∧ Hid (Below W0.heap.size W0 wr))) (fun _ s22 _ => 2 - (intOf s22).toNat)
  case atStart => exact .inl ⟨rfl, OwnI.nil _ _, Below.refl _ _⟩
  case round =>
    rcases hrel with ⟨rfl, hO, hbw⟩ | ⟨rfl, hO, hbw⟩ | ⟨rfl, hO, hbw⟩
    · have r0 := (hbw.out.cell (p := ⟨G, 0, none⟩) hGlt).trans HR.out.1
      obtain ⟨A5, c5, rfl, hc5, hc6⟩ := hO.out.len
      obtain ⟨W1, rfl⟩ : ∃ x : World, x = wr := ⟨_, rfl⟩
      go_wp2_with fail
      go_loopw [7, 28] (fun v s28 wy => ∃ q : Nat, q ≤ n ∧ s28 = .int .i64 q ∧ Hid (OwnI wy W0.heap.size v ([] ++ flatE (a.take q))) ∧ Hid (Below W0.heap.size W0 wy)) (fun _ s28 _ => n - (intOf s28).toNat)
      case atStart => exact ⟨0, Nat.zero_le _, rfl, (by show OwnI _ _ _ _; rw [List.take_zero, show flatE ([] : List Pr) = [] from rfl, List.append_nil]; exact hO.out), hbw⟩
      case round =>
        clear hO hbw
        obtain ⟨q, hq, rfl, hO, hbw⟩ := hrel
        have hsz := hbw.out.size
        obtain ⟨A5, c5, rfl, hc5, hc6⟩ := hO.out.len
        obtain ⟨z, hz⟩ : ∃ z, ([] ++ flatE (a.take q)).length = z := ⟨_, rfl⟩
        have hz9 : z ≤ 1000000 := by have e1 := hla.out; have e2 := hlb.out; rw [← hz]; simp only [List.length_append, flatE_len, List.length_take, List.length_nil]; omega
        rw [hz] at hO hc5 ⊢
        clear hz
        by_cases hlt : q < n
        · obtain ⟨bA, oA, rfl, hbA, k1, k2⟩ := (haW.out.below (hbw.out.mono hBW) (Nat.le_refl _)).2 q hlt
          have hbAw : bA < wr.heap.size := by omega
          have hST : Hid (([] ++ flatE (a.take q)) ++ [(prOf a q).1, (prOf a q).2] = [] ++ flatE (a.take (q + 1))) := by show _ = _; rw [take_pr (by rw [hla.out]; exact hlt), flatE_app, flatE_one, List.append_assoc]
          obtain ⟨p, hp⟩ : ∃ p, prOf a q = p := ⟨_, rfl⟩
          obtain ⟨x1, x2⟩ := p
          rw [hp] at k1 k2 hST
          dsimp only at k1 k2 hST
          have hq0 : (0 : Int) ≤ (q : Int) := by omega
          have hqn : (q : Int) < (n : Int) := by omega
          obtain ⟨acc, hacc⟩ : ∃ acc, [] ++ flatE (a.take q) = acc := ⟨_, rfl⟩
          rw [hacc] at hO hST
          have hOa : Hid (OwnI (wr.alloc (.cells #[.int .i64 x1, .int .i64 x2] 29)) W0.heap.size (.slice A5 z c5) acc) := hO.out.below ((Below.refl _ _).alloc (Nat.le_refl _) _)
          have hsb2 : W0.heap.size ≤ (wr.alloc (.cells #[.int .i64 x1, .int .i64 x2] 29)).heap.size := by simp; omega
          have hgs : (wr.alloc (.cells #[.int .i64 x1, .int .i64 x2] 29)).heap.size = wr.heap.size + 1 := by simp
          have hz99 : z ≤ 5864062014634 := by omega
          clear hp hacc
          go_wp2_with (with_reducible refine wpList_push_two rfl (.tmp 32) (.tmp 37) rfl W0.heap.size A5 z c5 acc x1 x2 (wr.heap.size + 1) hgs rfl rfl hOa.out hz99 hsb2 ?_; intro g5 cap5 w5 hown5 hb5)
          have HB5 := Lib.hid ((hbw.out.alloc hsz (.cells #[.int .i64 x1, .int .i64 x2] 29)).trans hb5)
          rw [hST.out] at hown5
          have HO5 := Lib.hid hown5
          clear hown5 hb5
          go_roundw
          case rel => exact ⟨q + 1, by omega, by go_num, HO5, HB5⟩
          case measure => simp [intOf]; omega
        · obtain rfl : q = n := by omega
          rw [List.take_of_length_le (by rw [hla.out]; exact Nat.le_refl _)] at hO
          go_wp2_with fail
          go_roundw
          case rel => exact .inr (.inl ⟨rfl, (by have h := hO; exact h), hbw⟩)
          case measure => simp [intOf]
    · have r1 := (hbw.out.cell (p := ⟨G, 1, none⟩) hGlt).trans HR.out.2
      obtain ⟨A5, c5, rfl, hc5, hc6⟩ := hO.out.len
      obtain ⟨W1, rfl⟩ : ∃ x : World, x = wr := ⟨_, rfl⟩
      go_wp2_with fail
      go_loopw [7, 28] (fun v s28 wy => ∃ q : Nat, q ≤ m0 ∧ s28 = .int .i64 q ∧ Hid (OwnI wy W0.heap.size v (flatE a ++ flatE (b.take q))) ∧ Hid (Below W0.heap.size W0 wy)) (fun _ s28 _ => m0 - (intOf s28).toNat)
      case atStart => exact ⟨0, Nat.zero_le _, rfl, (by show OwnI _ _ _ _; rw [List.take_zero, show flatE ([] : List Pr) = [] from rfl, List.append_nil]; exact hO.out), hbw⟩
      case round =>
        clear hO hbw
        obtain ⟨q, hq, rfl, hO, hbw⟩ := hrel
        have hsz := hbw.out.size
        obtain ⟨A5, c5, rfl, hc5, hc6⟩ := hO.out.len
        obtain ⟨z, hz⟩ : ∃ z, (flatE a ++ flatE (b.take q)).length = z := ⟨_, rfl⟩
        have hz9 : z ≤ 1000000 := by have e1 := hla.out; have e2 := hlb.out; rw [← hz]; simp only [List.length_append, flatE_len, List.length_take, List.length_nil]; omega
        rw [hz] at hO hc5 ⊢
        clear hz
        by_cases hlt : q < m0
        · obtain ⟨bA, oA, rfl, hbA, k1, k2⟩ := (hbW.out.below (hbw.out.mono hBW) (Nat.le_refl _)).2 q hlt
          have hbAw : bA < wr.heap.size := by omega
          have hST : Hid ((flatE a ++ flatE (b.take q)) ++ [(prOf b q).1, (prOf b q).2] = flatE a ++ flatE (b.take (q + 1))) := by show _ = _; rw [take_pr (by rw [hlb.out]; exact hlt), flatE_app, flatE_one, List.append_assoc]
          obtain ⟨p, hp⟩ : ∃ p, prOf b q = p := ⟨_, rfl⟩
          obtain ⟨x1, x2⟩ := p
          rw [hp] at k1 k2 hST
          dsimp only at k1 k2 hST
          have hq0 : (0 : Int) ≤ (q : Int) := by omega
          have hqn : (q : Int) < (m0 : Int) := by omega
          obtain ⟨acc, hacc⟩ : ∃ acc, flatE a ++ flatE (b.take q) = acc := ⟨_, rfl⟩
          rw [hacc] at hO hST
          have hOa : Hid (OwnI (wr.alloc (.cells #[.int .i64 x1, .int .i64 x2] 29)) W0.heap.size (.slice A5 z c5) acc) := hO.out.below ((Below.refl _ _).alloc (Nat.le_refl _) _)
          have hsb2 : W0.heap.size ≤ (wr.alloc (.cells #[.int .i64 x1, .int .i64 x2] 29)).heap.size := by simp; omega
          have hgs : (wr.alloc (.cells #[.int .i64 x1, .int .i64 x2] 29)).heap.size = wr.heap.size + 1 := by simp
          have hz99 : z ≤ 5864062014634 := by omega
          clear hp hacc
          go_wp2_with (with_reducible refine wpList_push_two rfl (.tmp 32) (.tmp 37) rfl W0.heap.size A5 z c5 acc x1 x2 (wr.heap.size + 1) hgs rfl rfl hOa.out hz99 hsb2 ?_; intro g5 cap5 w5 hown5 hb5)
          have HB5 := Lib.hid ((hbw.out.alloc hsz (.cells #[.int .i64 x1, .int .i64 x2] 29)).trans hb5)
          rw [hST.out] at hown5
          have HO5 := Lib.hid hown5
          clear hown5 hb5
          go_roundw
          case rel => exact ⟨q + 1, by omega, by go_num, HO5, HB5⟩
          case measure => simp [intOf]; omega
        · obtain rfl : q = m0 := by omega
          rw [List.take_of_length_le (by rw [hlb.out]; exact Nat.le_refl _)] at hO
          go_wp2_with fail
          go_roundw
          case rel => exact .inr (.inr ⟨rfl, (by have h := hO; exact h), hbw⟩)
          case measure => simp [intOf]
    · go_wp2_with fail
      go_meet
      exact ⟨hO, hbw⟩
end Go.Proofs.YtpfjodggnfgnnaaDoor
