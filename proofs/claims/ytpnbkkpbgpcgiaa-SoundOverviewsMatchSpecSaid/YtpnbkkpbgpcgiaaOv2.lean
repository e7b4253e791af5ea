/- Overview, the reference's. -/
import Derived.Test.YtpnbkkpbgpcgiaaOv1
import Derived.RegionTactic
import Derived.BigRegion
set_option linter.unusedSimpArgs false
set_option linter.unusedVariables false
namespace Go.Proofs.Ytpnbkkpbgpcgiaa
open Go.RowKit Go.Dw
theorem OwnBns.drew {w : World} {base : Nat} {v : Value} {bs : List Bn} (h : OwnBns w base v bs) : OwnBns w.drew base v bs := h
set_option maxRecDepth 100000 in
set_option maxHeartbeats 4000000 in
theorem ROVERVIEW_ok (r : Int) (ad : Addr) (n c t b : Nat) (xss : List (List Int)) (hc : Hid (chkS r xss = 0)) (hok : Hid (OkS r xss)) (ht : t < n) (hb1 : 1 ≤ b) (hb2 : b ≤ 100000) (w : World) (B : Nat) (hB : B ≤ w.heap.size) (hh : Hid (RowsAt w B (some ad) n xss)) :
    Calls Try.prog 29 #[.agg #[.int .i64 r, .slice (some ad) n c], .int .i64 t, .int .i64 b] w fun e w' => ∃ v, e = .returned (.tuple #[v, .int .i64 0]) ∧ OwnBns w' w.heap.size v (ovK b (rowOf xss t) (len0 xss)) ∧ Below w.heap.size w w' := by
  have hl := Lib.hid hh.out.1
  have hn16 : n ≤ 16 := by have := hok.out.few; have := hl.out; omega
  have hn : 0 < n := by omega
  have hm := hok.out.long
  have hq : (chkS r xss != 0) = false := by rw [hc.out]; rfl
  have d1 : decide ((t : Int) < 0) = false := by simp
  have d2 : decide (n ≤ t) = false := by simp; omega
  have d3 : decide ((b : Int) < 1) = false := by simp; omega
  have d4 : decide (100000 < (b : Int)) = false := by simp; omega
  have hkx : Hid (t < xss.length) := by show _ < _; have := hl.out; omega
  go_enter Try.func29, Try.ntmps29
  go_wp2_with fail
  refine calls_later (w.heap.size + 1) ?_
  intro W hW hsW
  obtain ⟨hcW, hfW⟩ := bcell hW
  simp only [World.size_alloc] at hsW
  have hbW : Below w.heap.size w W := ((Below.refl _ w).alloc (Nat.le_refl _) _).trans (hW.mono (by omega))
  have HRx : Hid (RowsAt W B (some ad) n xss) := hh.out.below hbW hB
  refine (RCHECK_any r (some ad) n c xss _ B (by omega) (hh.out.below hbW hB)).mono ?_
  rintro e w1 ⟨rfl, hb1'⟩
  have hS1 : Below (w.heap.size + 1) W w1 := hb1'.mono hsW
  have hz1 := pcell hS1
  obtain ⟨A', n', c', hadB, hcell, hn', hc', hi⟩ := hh.out.row ht
  obtain rfl : n' = len0 xss := hi.1.symm.trans (hok.out.row hkx.out).1
  have hi' := Lib.hid hi
  have ht0 : (0 : Int) ≤ (t : Int) := by omega
  have htn : (t : Int) < (n : Int) := by omega
  unfold maxLen at hc'
  clear hb1' hi
  go_wp2_with fail
  have HS1 := Lib.hid hS1
  have HCL := Lib.hid hcell
  clear hz1 hS1 hcell
  have HROW : Hid (∀ i, i < (rowOf xss t).length → -8388608 ≤ elOf (rowOf xss t) i ∧ elOf (rowOf xss t) i ≤ 8388607) := fun i hi => hok.out.el hkx.out (by rw [(hok.out.row hkx.out).1] at hi; exact hi)
  have HRL := Lib.hid (hok.out.row hkx.out).1
  have hb0 : ¬ (b : Int) = 0 := by omega
  go_loopw [9, 10] (fun v i wr => ∃ j : Nat, j ≤ len0 xss ∧ i = .int .i64 j ∧ Hid (Below (w.heap.size + 1) W wr) ∧ Hid (OwnBns wr (w.heap.size + 1) v (ovK b (rowOf xss t) j))) (fun _ i _ => len0 xss - (intOf i).toNat)
  case atStart => exact ⟨0, Nat.zero_le _, rfl, HS1.out, World.ownsRow_nil _ _ _ _⟩
  case round =>
    obtain ⟨j, hj, rfl, hS, ho⟩ := hrel
    obtain ⟨A5, c5, rfl, hcc1, hcc2⟩ := own_form ho.out
    have hz := pcell hS.out
    go_wp2_with fail
    refine (RLONG_any r (some ad) n c xss _ B (by have := hS.out.size; omega) (HRx.out.below (hS.out.mono (by omega)) (Nat.le_refl _)) hn).mono ?_
    rintro e w4 ⟨rfl, hb4⟩
    have HS4 := Lib.hid (Below.next hS.out hsW hb4)
    have HO4 := Lib.hid (ho.out.below hb4)
    clear hz hb4 hS ho
    have hz := pcell HS4.out
    by_cases hjl : j < len0 xss
    · obtain ⟨ad', rfl⟩ := hi'.out.addr (by omega)
      have hbr : Below B w w4 := (hbW.mono hB).trans (HS4.out.mono (by omega))
      have hca := (hbr.cell (p := ad.add t) (by rw [block_of_add]; omega)).trans HCL.out
      have hcx := ((hi'.out.below hbr (Nat.le_refl _)).at_ hjl).2
      obtain ⟨x1, x2⟩ := HROW.out j (by rw [HRL.out]; exact hjl)
      obtain ⟨s1, s2⟩ := sq_smp x1 x2
      have HOK := Lib.hid (ovK_ok (b := b) HROW.out (i := j) (by rw [HRL.out]; omega))
      have hle := ovK_le (b := b) (row := rowOf xss t) (i := j)
      have HST : Hid (ovK b (rowOf xss t) (j + 1) = ovStep b (ovK b (rowOf xss t) j) j (elOf (rowOf xss t) j)) := rfl
      obtain ⟨x, hx⟩ : ∃ x, elOf (rowOf xss t) j = x := ⟨_, rfl⟩
      rw [hx] at hcx x1 x2 s1 s2 HST
      have hw2 := IntWalk.i64_in (x * x) (by omega)
      have hj0 : (0 : Int) ≤ (j : Int) := by omega
      have hjn : (j : Int) < (len0 xss : Int) := by omega
      have hsb : w.heap.size + 1 ≤ w4.heap.size := Nat.le_trans hsW HS4.out.size
      obtain ⟨acc, hacc⟩ : ∃ acc, ovK b (rowOf xss t) j = acc := ⟨_, rfl⟩
      have HPOS : Hid (0 < j → 0 < acc.length) := fun h => by rw [← hacc]; exact ovK_some h
      rw [hacc] at HO4 HOK hle HST hcc1 ⊢
      have hle2 : acc.length ≤ 5864062014634 := by omega
      clear hx hbr hacc
      by_cases hmod : j % b = 0
      · have hmI : ((j : Int) % (b : Int) == 0) = true := by simp; omega
        have HST2 : Hid (ovK b (rowOf xss t) (j + 1) = (acc ++ [(x, x, (0 : Int))]).set ((acc ++ [(x, x, (0 : Int))]).length - 1) (jnB (bnOf (acc ++ [(x, x, (0 : Int))]) ((acc ++ [(x, x, (0 : Int))]).length - 1)) (x, x, x * x))) := by
          show _ = _; rw [HST.out]; unfold ovStep; rw [if_pos hmod]
          simp [bnOf, jnB, List.getD]
        have hL1 : (acc ++ [(x, x, (0 : Int))]).length = acc.length + 1 := by simp
        go_upto_region 13 with (with_reducible refine wpList_push_bin rfl (.tmp 53) (.tmp 57) rfl (w.heap.size + 1) A5 acc.length c5 acc x x 0 w4.heap.size rfl rfl rfl HO4.out hle2 hsb ?_; intro g5 cap5 w5 hown5 hb5; have HS5 := Lib.hid (HS4.out.trans hb5); have HO5 := Lib.hid hown5; rw [← hL1] at HO5; rw [← hL1]; obtain ⟨acc2, ha2⟩ : ∃ a, acc ++ [(x, x, (0 : Int))] = a := ⟨_, rfl⟩; have HA2 := Lib.hid ha2; rw [ha2] at HO5 HST2 hL1 ⊢; have HL1 := Lib.hid hL1; clear hL1 ha2 hown5 hb5 hz hcx hca)
        have hposL : 0 < acc2.length := by have := HL1.out; omega
        have hlen2 : acc2.length ≤ 5864062014634 := by have := HL1.out; omega
        have HOK2 : Hid (∀ c ∈ acc2, 0 ≤ c.2.2 ∧ c.2.2 ≤ 8000000000000000000) := fun c hc => by
          rw [← HA2.out] at hc
          rcases List.mem_append.1 hc with hc | hc
          · have h := HOK.out c hc
            refine ⟨h.p0, ?_⟩
            have h2 := h.p1
            have h3 : (j : Int) * 70368744177664 ≤ 100000 * 70368744177664 := Int.mul_le_mul (by omega) (by omega) (by omega) (by omega)
            omega
          · obtain rfl : c = (x, x, (0 : Int)) := by simpa using hc
            exact ⟨Int.le_refl _, by dsimp only; omega⟩
        have HD : Hid (bnOf acc2 (acc2.length - 1) = (x, x, (0 : Int))) := by show _ = _; rw [← HA2.out]; simp [bnOf, List.getD]
        clear HO4 HS4 HOK HA2
        obtain ⟨k, hk⟩ : ∃ k, k = acc2.length - 1 := ⟨_, rfl⟩
        have hkl : k < acc2.length := by omega
        have hdk : acc2.length - 1 = k := hk.symm
        have hkI : IntKind.i64.wrap ((acc2.length : Int) - 1) = (k : Int) := by rw [IntWalk.i64_in _ (by omega)]; omega
        obtain ⟨g6, cap6, hv6, hg6, hg6l, hcp1, hcp2, hcells⟩ := HO5.out.slot hposL
        injection hv6 with e1 e2 e3
        try (injection e1 with e1; injection e1 with e1)
        subst e1 e3
        obtain ⟨⟨k1, k2, k3⟩, f1, f2, f3⟩ := hcells k hkl
        obtain ⟨y4, y5⟩ := HOK2.out _ (bnOf_mem hkl)
        rw [← hk] at HST2
        obtain ⟨d, hd⟩ : ∃ d, bnOf acc2 k = d := ⟨_, rfl⟩
        rw [hd] at k1 k2 k3 y4 y5 HST2
        obtain ⟨d1, d2, d3⟩ := d
        have HJN : Hid (jnB (d1, d2, d3) (x, x, x * x) = (min d1 x, max d2 x, d3 + x * x)) := rfl
        rw [HJN.out] at HST2
        have HO8 := Lib.hid (HO5.out.set_ hkl (min d1 x, max d2 x, d3 + x * x))
        rw [← HST2.out] at HO8
        have HS8 := Lib.hid (((HS5.out.setCell (p := ⟨g5, k * 3, none⟩) hg6 (.int .i64 (min d1 x))).setCell (p := ⟨g5, k * 3 + 1, none⟩) hg6 (.int .i64 (max d2 x))).setCell (p := ⟨g5, k * 3 + 2, none⟩) hg6 (.int .i64 (d3 + x * x)))
        have hk0 : (0 : Int) ≤ (k : Int) := by omega
        have hkn : (k : Int) < (acc2.length : Int) := by omega
        dsimp only at k1 k2 k3 y4 y5 HO8 HS8
        have hw3 := IntWalk.i64_in (d3 + x * x) (by omega)
        clear hk hcells HST2
        have hdx : d1 = x ∧ d2 = x ∧ d3 = 0 := by
          have h := HD.out
          rw [hdk, hd] at h
          simpa using h
        have hlo : ¬ x < d1 := by omega
        have hhi : ¬ d2 < x := by omega
        clear hdx
        have e1 : min d1 x = d1 := by omega
        have e2 : max d2 x = d2 := by omega
        rw [e1, e2] at HO8 HS8
        clear e1 e2 hd hdk
        go_wp2_with fail
        go_region
        go_wp2_with fail
        go_roundw
        case rel => exact ⟨j + 1, by omega, by go_num, HS8.out.drew, HO8.out.drew⟩
        case measure => simp [intOf]; omega
      · have hmI : ((j : Int) % (b : Int) == 0) = false := by simp; omega
        have hpos : 0 < acc.length := HPOS.out (by rcases Nat.eq_zero_or_pos j with h0 | h0; (subst h0; simp at hmod); exact h0)
        have HST2 : Hid (ovK b (rowOf xss t) (j + 1) = acc.set (acc.length - 1) (jnB (bnOf acc (acc.length - 1)) (x, x, x * x))) := by show _ = _; rw [HST.out]; unfold ovStep; rw [if_neg hmod]
        obtain ⟨acc2, ha2⟩ : ∃ a, a = acc := ⟨_, rfl⟩
        rw [← ha2] at HO4 HST2 hcc1 hpos HOK hle2 ⊢
        have HO5 := HO4
        have HS5 := HS4
        have hposL := hpos
        have hlen2 : acc2.length ≤ 5864062014634 := by omega
        have HOK2 : Hid (∀ c ∈ acc2, 0 ≤ c.2.2 ∧ c.2.2 ≤ 8000000000000000000) := fun c hc => by
          have h := HOK.out c hc
          refine ⟨h.p0, ?_⟩
          have h2 := h.p1
          have h3 : (j : Int) * 70368744177664 ≤ 100000 * 70368744177664 := Int.mul_le_mul (by omega) (by omega) (by omega) (by omega)
          omega
        clear HO4 HS4 ha2 HOK
        obtain ⟨k, hk⟩ : ∃ k, k = acc2.length - 1 := ⟨_, rfl⟩
        have hkl : k < acc2.length := by omega
        have hdk : acc2.length - 1 = k := hk.symm
        have hkI : IntKind.i64.wrap ((acc2.length : Int) - 1) = (k : Int) := by rw [IntWalk.i64_in _ (by omega)]; omega
        obtain ⟨g6, cap6, hv6, hg6, hg6l, hcp1, hcp2, hcells⟩ := HO5.out.slot hposL
        injection hv6 with e1 e2 e3
        try (injection e1 with e1; injection e1 with e1)
        subst e1 e3
        obtain ⟨⟨k1, k2, k3⟩, f1, f2, f3⟩ := hcells k hkl
        obtain ⟨y4, y5⟩ := HOK2.out _ (bnOf_mem hkl)
        rw [← hk] at HST2
        obtain ⟨d, hd⟩ : ∃ d, bnOf acc2 k = d := ⟨_, rfl⟩
        rw [hd] at k1 k2 k3 y4 y5 HST2
        obtain ⟨d1, d2, d3⟩ := d
        have HJN : Hid (jnB (d1, d2, d3) (x, x, x * x) = (min d1 x, max d2 x, d3 + x * x)) := rfl
        rw [HJN.out] at HST2
        have HO8 := Lib.hid (HO5.out.set_ hkl (min d1 x, max d2 x, d3 + x * x))
        rw [← HST2.out] at HO8
        have HS8 := Lib.hid (((HS5.out.setCell (p := ⟨g6, k * 3, none⟩) hg6 (.int .i64 (min d1 x))).setCell (p := ⟨g6, k * 3 + 1, none⟩) hg6 (.int .i64 (max d2 x))).setCell (p := ⟨g6, k * 3 + 2, none⟩) hg6 (.int .i64 (d3 + x * x)))
        have hk0 : (0 : Int) ≤ (k : Int) := by omega
        have hkn : (k : Int) < (acc2.length : Int) := by omega
        dsimp only at k1 k2 k3 y4 y5 HO8 HS8
        have hw3 := IntWalk.i64_in (d3 + x * x) (by omega)
        clear hk hcells HST2
        have hlo : x < d1 ∨ ¬ x < d1 := by omega
        have hhi : d2 < x ∨ ¬ d2 < x := by omega
        rcases hlo with hlo | hlo <;> rcases hhi with hhi | hhi
        ·
          have e1 : min d1 x = x := by omega
          have e2 : max d2 x = x := by omega
          rw [e1, e2] at HO8 HS8
          clear e1 e2 hd hdk
          go_wp2_with fail
          go_region
          go_wp2_with fail
          go_roundw
          case rel => exact ⟨j + 1, by omega, by go_num, HS8.out.drew, HO8.out.drew⟩
          case measure => simp [intOf]; omega
        ·
          have e1 : min d1 x = x := by omega
          have e2 : max d2 x = d2 := by omega
          rw [e1, e2] at HO8 HS8
          clear e1 e2 hd hdk
          go_wp2_with fail
          go_region
          go_wp2_with fail
          go_roundw
          case rel => exact ⟨j + 1, by omega, by go_num, HS8.out.drew, HO8.out.drew⟩
          case measure => simp [intOf]; omega
        ·
          have e1 : min d1 x = d1 := by omega
          have e2 : max d2 x = x := by omega
          rw [e1, e2] at HO8 HS8
          clear e1 e2 hd hdk
          go_wp2_with fail
          go_region
          go_wp2_with fail
          go_roundw
          case rel => exact ⟨j + 1, by omega, by go_num, HS8.out.drew, HO8.out.drew⟩
          case measure => simp [intOf]; omega
        ·
          have e1 : min d1 x = d1 := by omega
          have e2 : max d2 x = d2 := by omega
          rw [e1, e2] at HO8 HS8
          clear e1 e2 hd hdk
          go_wp2_with fail
          go_region
          go_wp2_with fail
          go_roundw
          case rel => exact ⟨j + 1, by omega, by go_num, HS8.out.drew, HO8.out.drew⟩
          case measure => simp [intOf]; omega
    · obtain rfl : j = len0 xss := by omega
      go_wp2_with fail
      go_ret2
      exact ⟨_, rfl, own_base HO4.out (by omega), hbW.trans (HS4.out.mono (by omega))⟩
theorem ROVERVIEW_any (r : Int) (A : Option Addr) (n c : Nat) (t b : Int) (xss : List (List Int)) (w : World) (B : Nat) (hB : B ≤ w.heap.size) (hh : RowsAt w B A n xss) :
    Calls Try.prog 29 #[.agg #[.int .i64 r, .slice A n c], .int .i64 t, .int .i64 b] w fun e w' => ∃ v, e = .returned (.tuple #[v, .int .i64 (ovS r xss t b).2]) ∧ OwnBns w' w.heap.size v (ovS r xss t b).1 ∧ Below w.heap.size w w' := by
  unfold ovS
  by_cases hc : chkS r xss = 0
  · have hok := chkS_ok hc
    have hl := hh.1
    have hn : 0 < n := by have := hok.some; omega
    obtain ⟨ad, rfl⟩ := hh.addr hn
    rw [if_neg (by simp [hc])]
    by_cases hb : t < 0 ∨ (xss.length : Int) ≤ t ∨ b < 1 ∨ 100000 < b
    · rw [if_pos hb]
      rw [hl] at hb
      exact (ROVERVIEW_bad r (some ad) n c t b xss hc hb w B hB hh).mono fun e w' ⟨h1, h2⟩ => ⟨_, h1, World.ownsRow_nil _ _ _ _, h2⟩
    · rw [if_neg hb]
      obtain ⟨t', rfl⟩ := Int.eq_ofNat_of_zero_le (show 0 ≤ t by omega)
      obtain ⟨b', rfl⟩ := Int.eq_ofNat_of_zero_le (show 0 ≤ b by omega)
      exact ROVERVIEW_ok r ad n c t' b' xss hc hok (by omega) (by omega) (by omega) w B hB hh
  · rw [if_pos hc]
    exact (ROVERVIEW_chk r A n c t b xss hc w B hB hh).mono fun e w' ⟨h1, h2⟩ => ⟨_, h1, World.ownsRow_nil _ _ _ _, h2⟩
end Go.Proofs.Ytpnbkkpbgpcgiaa
