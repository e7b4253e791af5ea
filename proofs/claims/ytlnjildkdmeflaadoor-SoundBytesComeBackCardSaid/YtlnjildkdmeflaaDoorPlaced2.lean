/- placed and Chunks, the reference's. -/
import Derived.Test.YtlnjildkdmeflaaDoorPlaced1
import Derived.RegionTactic
import Derived.BigRegion
import Derived.Deep.Cut
set_option linter.unusedSimpArgs false
set_option linter.unusedVariables false
namespace Go.Proofs.YtlnjildkdmeflaaDoor
open Go.RowKit Go.Dw
set_option maxRecDepth 100000 in
set_option maxHeartbeats 8000000 in
theorem RPLACED_ok (A : Option Addr) (n c : Nat) (b : By) (hn : n ≤ 8000000) (hc9 : n ≤ c ∧ c ≤ maxLen) (w : World) (B : Nat) (hB : B ≤ w.heap.size) (hh : Hid (BysAt w B A n b)) :
    Calls Tryd.prog 27 #[.slice A n c] w (OutP w (plS b (b.length + 1) [] [] 0)) := by
  have hl := Lib.hid hh.out.1
  have d1 : decide ((8000000 : Int) < (n : Int)) = false := by simp; omega
  obtain ⟨hnc, hcm⟩ := hc9
  unfold maxLen at hcm
  go_enter Tryd.func27, Tryd.ntmps27
  go_wp2_with fail
  go_loopw [6, 7, 8] (fun v u i wr => ∃ (at_ : Nat) (A6 : Option Addr) (n6 c6 : Nat) (A7 : Option Addr) (n7 c7 f : Nat) (acc : List Ck) (ps : List Int) (rows : List Value), i = .int .i64 at_ ∧ v = .slice A6 n6 c6 ∧ u = .slice A7 n7 c7 ∧ Hid (PlR w wr b n at_ A6 n6 c6 A7 n7 c7 f acc ps rows)) (fun _ _ i _ => n - (intOf i).toNat)
  case atStart => exact ⟨0, none, 0, 0, none, 0, 0, n + 1, [], [], [], rfl, rfl, rfl, Lib.hid ⟨Nat.zero_le _, by omega, by rw [hl.out], OwnCksL.nil _ _, World.ownsRow_nil _ _ _ _, Below.refl _ _, by omega, rfl, rfl⟩⟩
  case round =>
    obtain ⟨at_, A6, n6, c6, A7, n7, c7, f, acc, ps, rows, rfl, rfl, rfl, hR⟩ := hrel
    have hle := hR.out.le
    have hfw := hR.out.few
    have hsw := hR.out.below.size
    by_cases hlt : at_ < n
    · by_cases hfull : n6 = 1000
      · have hE : Hid (plS b (b.length + 1) [] [] 0 = (([], []), 0, 2)) := by
          show _ = _
          rw [hR.out.eq, plS_many (by have := hR.out.fuel; omega) (by rw [hl.out]; exact hlt) (by rw [← own_len_ck hR.out.out]; exact hfull)]
        have dI : (at_ : Int) < (n : Int) := by omega
        have HB := Lib.hid hR.out.below
        clear hR hle hfw hlt
        subst hfull
        go_wp2_with fail
        refine bodyPost_ret (v := .tuple #[.slice none 0 0, .slice none 0 0, .int .i64 0, .int .i64 2]) (by simp [results, Tryd.results27, go_sem]) rfl ?_
        unfold OutP
        rw [hE.out]
        exact ⟨_, _, rfl, OwnCks.nil _ _, World.ownsRow_nil _ _ _ _, HB.out⟩
      · have d2 : ((n6 : Int) == 1000) = false := by simp; omega
        have dI : (at_ : Int) < (n : Int) := by omega
        have HF := Lib.hid hfull
        have HLT := Lib.hid hlt
        obtain ⟨bA, oA, rfl, hbA, -⟩ := hh.out.2 at_ hlt
        have HW : Hid (BysAt wr B (some ⟨bA, oA, none⟩) n b) := hh.out.below (hR.out.below.mono hB) (Nat.le_refl _)
        clear hfull hlt
        by_cases h8 : n - at_ < 8
        · have d8 : decide ((n : Int) - (at_ : Int) < 8) = true := by simp; omega
          have hE : Hid (plS b (b.length + 1) [] [] 0 = (([], []), at_, 10)) := by
            show _ = _
            rw [hR.out.eq, plS_bad (by have := hR.out.fuel; omega) (by rw [hl.out]; exact HLT.out) (by rw [← own_len_ck hR.out.out]; exact HF.out) (chunkS_none (.inl (by rw [hl.out]; exact h8)))]
          have HB := Lib.hid hR.out.below
          clear hR h8
          go_wp2_with fail
          refine bodyPost_ret (v := .tuple #[.slice none 0 0, .slice none 0 0, .int .i64 at_, .int .i64 10]) (by simp [results, Tryd.results27, go_sem]) rfl ?_
          unfold OutP
          rw [hE.out]
          exact ⟨_, _, rfl, OwnCks.nil _ _, World.ownsRow_nil _ _ _ _, HB.out⟩
        have d8 : decide ((n : Int) - (at_ : Int) < 8) = false := by simp; omega
        have hat : at_ + 8 ≤ n := by omega
        have HNM : Hid (BysAt wr B (cutA (some ⟨bA, oA, none⟩) c at_) 4 (cutB b at_ (at_ + 4))) := by
          have := HW.out.cut hnc (p := at_) (q := at_ + 4) (by omega) (by omega)
          rw [show at_ + 4 - at_ = 4 by omega] at this
          exact this
        obtain ⟨s, hs⟩ : ∃ s, ByteArray.mk (cutB b at_ (at_ + 4)).toArray = s := ⟨_, rfl⟩
        have HS := Lib.hid hs
        have hcv : (convert 26 9 (.slice (cutA (some ⟨bA, oA, none⟩) c at_) 4 (c - at_))).run Tryd.prog wr = .ok (.string s) wr := by
          have := run_str_of (c := c - at_) HNM.out
          unfold strOf at this
          rw [hs] at this
          exact this
        have hsl : ∀ W, (Instr.slice 26 (.slice (some ⟨bA, oA, none⟩) n c) (some (.int .i64 (at_ : Int))) (some (.int .i64 ((at_ : Int) + 4))) none).run Tryd.prog W = .ok (.slice (cutA (some ⟨bA, oA, none⟩) c at_) 4 (c - at_)) W :=
          fun W => run_cut_at (p := 0) (q := 4) (by omega) (by omega) (by omega) W
        clear hs h8
        cases hnb : nameB (cutB b at_ (at_ + 4)) with
        | false =>
          have hE : Hid (plS b (b.length + 1) [] [] 0 = (([], []), at_, 10)) := by
            show _ = _
            rw [hR.out.eq, plS_bad (by have := hR.out.fuel; omega) (by rw [hl.out]; exact HLT.out) (by rw [← own_len_ck hR.out.out]; exact HF.out) (chunkS_none (.inr (.inl hnb)))]
          have HB := Lib.hid hR.out.below
          have HNb := Lib.hid hnb
          clear hR hnb
          go_wp2_with fail
          refine (RCHUNKNAME_str _ s HS _).mono ?_
          rintro e w1 ⟨rfl, rfl⟩
          rw [HNb.out]
          clear hcv hsl
          go_wp2_with fail
          refine bodyPost_ret (v := .tuple #[.slice none 0 0, .slice none 0 0, .int .i64 at_, .int .i64 10]) (by simp [results, Tryd.results27, go_sem]) rfl ?_
          unfold OutP
          rw [hE.out]
          exact ⟨_, _, rfl, OwnCks.nil _ _, World.ownsRow_nil _ _ _ _, HB.out⟩
        | true =>
        have HNb := Lib.hid hnb
        clear hnb
        go_wp2_with fail
        refine (RCHUNKNAME_str _ s HS _).mono ?_
        rintro e w1 ⟨rfl, rfl⟩
        rw [HNb.out]
        have hm32 := lenN_lt (b := b) (at_ := at_) (by rw [hl.out]; omega)
        have HLN : Hid (BysAt wr B (cutA (some ⟨bA, oA, none⟩) c (at_ + 4)) 4 (cutB b (at_ + 4) (at_ + 8))) := by
          have := HW.out.cut hnc (p := at_ + 4) (q := at_ + 8) (by omega) (by omega)
          rw [show at_ + 8 - (at_ + 4) = 4 by omega] at this
          exact this
        have hsl2 : ∀ W, (Instr.slice 26 (.slice (some ⟨bA, oA, none⟩) n c) (some (.int .i64 ((at_ : Int) + 4))) (some (.int .i64 ((at_ : Int) + 8))) none).run Tryd.prog W = .ok (.slice (cutA (some ⟨bA, oA, none⟩) c (at_ + 4)) 4 (c - (at_ + 4))) W :=
          fun W => run_cut_at (p := 4) (q := 4) (by omega) (by omega) (by omega) W
        clear hcv hsl
        go_wp2_with fail
        refine (RNUMBER_any _ 4 _ _ (by omega) _ B (Nat.le_trans hB hsw) HLN).mono ?_
        rintro e w2 ⟨rfl, rfl⟩
        rw [show numB (cutB b (at_ + 4) (at_ + 8)) = lenN b at_ from rfl]
        obtain ⟨m, hm⟩ : ∃ m, lenN b at_ = m := ⟨_, rfl⟩
        have HLM := Lib.hid hm
        rw [hm] at hm32 ⊢
        clear hsl2 hm HLN
        by_cases hlg : n < at_ + 8 + m + m % 2
        · have d3 : decide ((n : Int) < (at_ : Int) + 8 + (m : Int) + (m : Int) % 2) = true := by simp; omega
          have hE : Hid (plS b (b.length + 1) [] [] 0 = (([], []), at_, 10)) := by
            show _ = _
            rw [hR.out.eq, plS_bad (by have := hR.out.fuel; omega) (by rw [hl.out]; exact HLT.out) (by rw [← own_len_ck hR.out.out]; exact HF.out) (chunkS_none (.inr (.inr (.inl (by unfold nextN; rw [HLM.out, hl.out]; exact hlg)))))]
          have HB := Lib.hid hR.out.below
          clear hR hlg
          go_wp2_with fail
          refine bodyPost_ret (v := .tuple #[.slice none 0 0, .slice none 0 0, .int .i64 at_, .int .i64 10]) (by simp [results, Tryd.results27, go_sem]) rfl ?_
          unfold OutP
          rw [hE.out]
          exact ⟨_, _, rfl, OwnCks.nil _ _, World.ownsRow_nil _ _ _ _, HB.out⟩
        have d3 : decide ((n : Int) < (at_ : Int) + 8 + (m : Int) + (m : Int) % 2) = false := by simp; omega
        have hnx : at_ + 8 + m + m % 2 ≤ n := by omega
        clear hlg
        by_cases hodd : m % 2 = 1
        · have d5 : ((m : Int) % 2 == 1) = true := by simp; omega
          obtain ⟨q, hq⟩ : ∃ q, at_ + 8 + m + m % 2 - 1 = q := ⟨_, rfl⟩
          obtain ⟨b', o', e', _, hcell⟩ := HW.out.2 q (by omega)
          injection e' with e'
          injection e' with e1' e2' _
          subst e1' e2'
          unfold byV at hcell
          have hqI : (at_ : Int) + 8 + (m : Int) + (m : Int) % 2 - 1 = (q : Int) := by omega
          have hq0 : (0 : Int) ≤ (at_ : Int) + 8 + (m : Int) + (m : Int) % 2 - 1 := by omega
          have hqn : (at_ : Int) + 8 + (m : Int) + (m : Int) % 2 - 1 < (n : Int) := by omega
          by_cases hz : byOf b q = 0
          · have HPAD : Hid (m % 2 = 1 → byOf b (at_ + 8 + m + m % 2 - 1) = 0) := fun _ => by rw [hq]; exact hz
            have hc0 : wr.cell? ⟨bA, oA + q, none⟩ = some (.int .u8 0) := by rw [hcell, hz]; rfl
            clear hcell hz hodd
            go_upto_region 15 with (fail)
            clear hqI hq0 hqn hc0 hq
            have hw1 : IntKind.i64.wrap ((at_ : Int) + 4) = (at_ : Int) + 4 := IntWalk.i64_in _ (by omega)
            have hw2 : IntKind.i64.wrap ((at_ : Int) + 8) = (at_ : Int) + 8 := IntWalk.i64_in _ (by omega)
            have hw3 : IntKind.i64.wrap ((at_ : Int) + 8 + (m : Int)) = (at_ : Int) + 8 + (m : Int) := IntWalk.i64_in _ (by omega)
            have hsl : ∀ W, (Instr.slice 26 (.slice (some ⟨bA, oA, none⟩) n c) (some (.int .i64 (at_ : Int))) (some (.int .i64 ((at_ : Int) + 4))) none).run Tryd.prog W = .ok (.slice (cutA (some ⟨bA, oA, none⟩) c at_) 4 (c - at_)) W :=
              fun W => run_cut_at (p := 0) (q := 4) (by omega) (by omega) (by omega) W
            have hsl3 : ∀ W, (Instr.slice 26 (.slice (some ⟨bA, oA, none⟩) n c) (some (.int .i64 ((at_ : Int) + 8))) (some (.int .i64 ((at_ : Int) + 8 + (m : Int)))) none).run Tryd.prog W = .ok (.slice (cutA (some ⟨bA, oA, none⟩) c (at_ + 8)) m (c - (at_ + 8))) W :=
              fun W => run_cut_at (p := 8) (q := m) (by omega) (by omega) (by omega) W
            have HSL := Lib.hid hsl
            have HSL3 := Lib.hid hsl3
            have HCV : Hid (∀ W, BysAt W B (some ⟨bA, oA, none⟩) n b → (convert 26 9 (.slice (cutA (some ⟨bA, oA, none⟩) c at_) 4 (c - at_))).run Tryd.prog W = .ok (.string s) W) := fun W hW => by
              have h1 := hW.cut hnc (p := at_) (q := at_ + 4) (by omega) (by omega)
              rw [show at_ + 4 - at_ = 4 by omega] at h1
              have := run_str_of (c := c - at_) h1
              unfold strOf at this
              rw [HS.out] at this
              exact this
            clear hsl hsl3
            have hS := HW.out
            refine wp_region_text 19 (fun x => BysAt x B (some ⟨bA, oA, none⟩) n b) (by kernel_rfl) (by kernel_rfl) ?_
            refine HT.take (i := 0) (oi := _) (v := ?_) rfl (by kernel_rfl) (by kernel_rfl) (by decide) (fun _ _ _ h => h) (Or.inl ⟨by rfl, ?_⟩) hS ?_
            rotate_left
            · intro wz
              go_simp
              try with_reducible rfl
            simp only [List.getElem_toArray, List.getElem_cons_succ, List.getElem_cons_zero, Act.put, List.setIfInBounds_toArray, List.set_cons_zero, List.set_cons_succ]
            refine HT.take (i := 1) (oi := _) (v := ?_) rfl (by kernel_rfl) (by kernel_rfl) (by decide) (fun _ _ _ h => h) (Or.inl ⟨by rfl, ?_⟩) hS ?_
            rotate_left
            · intro wz
              go_simp
              try with_reducible rfl
            simp only [List.getElem_toArray, List.getElem_cons_succ, List.getElem_cons_zero, Act.put, List.setIfInBounds_toArray, List.set_cons_zero, List.set_cons_succ]
            refine HT.take (i := 2) (oi := _) (v := ?_) rfl (by kernel_rfl) (by kernel_rfl) (by decide) (fun _ _ _ h => h) (Or.inl ⟨by rfl, ?_⟩) hS ?_
            rotate_left
            · intro wz
              go_simp
              try with_reducible rfl
            simp only [List.getElem_toArray, List.getElem_cons_succ, List.getElem_cons_zero, Act.put, List.setIfInBounds_toArray, List.set_cons_zero, List.set_cons_succ]
            refine HT.take (i := 3) (oi := _) (v := ?_) rfl (by kernel_rfl) (by kernel_rfl) (by decide) (fun _ _ _ h => h) (Or.inl ⟨by rfl, ?_⟩) hS ?_
            rotate_left
            · intro wz
              go_simp
              try with_reducible rfl
            simp only [List.getElem_toArray, List.getElem_cons_succ, List.getElem_cons_zero, Act.put, List.setIfInBounds_toArray, List.set_cons_zero, List.set_cons_succ]
            refine HT.take (i := 4) (oi := _) (v := ?_) rfl (by kernel_rfl) (by kernel_rfl) (by decide) (fun _ _ _ h => h) (Or.inl ⟨by rfl, ?_⟩) hS ?_
            rotate_left
            · intro wz
              go_simp
              try with_reducible rfl
            simp only [List.getElem_toArray, List.getElem_cons_succ, List.getElem_cons_zero, Act.put, List.setIfInBounds_toArray, List.set_cons_zero, List.set_cons_succ]
            refine HT.take (i := 5) (oi := _) (v := .slice (cutA (some ⟨bA, oA, none⟩) c at_) 4 (c - at_)) rfl (by kernel_rfl) (by kernel_rfl) (by decide) (fun _ _ _ h => h) (Or.inl ⟨by rfl, ?_⟩) hS ?_
            · intro wz
              have h9 := HSL.out wz
              simp [go_sem, h9]
            try simp only [List.getElem_toArray, List.getElem_cons_succ, List.getElem_cons_zero, Act.put, List.setIfInBounds_toArray, List.set_cons_zero, List.set_cons_succ]
            refine HT.load (i := 6) (oi := _) (v := .string s) rfl (by kernel_rfl) (by kernel_rfl) (by decide) (fun _ _ _ h => h) (by kernel_rfl) (Or.inl ⟨by rfl, ?_⟩) hS ?_
            · intro wz hwz
              have h9 := HCV.out wz hwz
              simp [go_sem, h9]
            try simp only [List.getElem_toArray, List.getElem_cons_succ, List.getElem_cons_zero, Act.put, List.setIfInBounds_toArray, List.set_cons_zero, List.set_cons_succ]
            refine HT.take (i := 7) (oi := _) (v := ?_) rfl (by kernel_rfl) (by kernel_rfl) (by decide) (fun _ _ _ h => h) (Or.inl ⟨by rfl, ?_⟩) hS ?_
            rotate_left
            · intro wz
              go_simp
              try with_reducible rfl
            simp only [List.getElem_toArray, List.getElem_cons_succ, List.getElem_cons_zero, Act.put, List.setIfInBounds_toArray, List.set_cons_zero, List.set_cons_succ]
            refine HT.take (i := 8) (oi := _) (v := ?_) rfl (by kernel_rfl) (by kernel_rfl) (by decide) (fun _ _ _ h => h) (Or.inl ⟨by rfl, ?_⟩) hS ?_
            rotate_left
            · intro wz
              go_simp
              try with_reducible rfl
            simp only [List.getElem_toArray, List.getElem_cons_succ, List.getElem_cons_zero, Act.put, List.setIfInBounds_toArray, List.set_cons_zero, List.set_cons_succ]
            refine HT.take (i := 9) (oi := _) (v := ?_) rfl (by kernel_rfl) (by kernel_rfl) (by decide) (fun _ _ _ h => h) (Or.inl ⟨by rfl, ?_⟩) hS ?_
            rotate_left
            · intro wz
              go_simp
              try with_reducible rfl
            simp only [List.getElem_toArray, List.getElem_cons_succ, List.getElem_cons_zero, Act.put, List.setIfInBounds_toArray, List.set_cons_zero, List.set_cons_succ]
            refine HT.take (i := 10) (oi := _) (v := ?_) rfl (by kernel_rfl) (by kernel_rfl) (by decide) (fun _ _ _ h => h) (Or.inl ⟨by rfl, ?_⟩) hS ?_
            rotate_left
            · intro wz
              go_simp
              try with_reducible rfl
            simp only [List.getElem_toArray, List.getElem_cons_succ, List.getElem_cons_zero, Act.put, List.setIfInBounds_toArray, List.set_cons_zero, List.set_cons_succ]
            refine HT.take (i := 11) (oi := _) (v := ?_) rfl (by kernel_rfl) (by kernel_rfl) (by decide) (fun _ _ _ h => h) (Or.inl ⟨by rfl, ?_⟩) hS ?_
            rotate_left
            · intro wz
              go_simp
              try with_reducible rfl
            simp only [List.getElem_toArray, List.getElem_cons_succ, List.getElem_cons_zero, Act.put, List.setIfInBounds_toArray, List.set_cons_zero, List.set_cons_succ]
            refine HT.take (i := 12) (oi := _) (v := ?_) rfl (by kernel_rfl) (by kernel_rfl) (by decide) (fun _ _ _ h => h) (Or.inl ⟨by rfl, ?_⟩) hS ?_
            rotate_left
            · intro wz
              go_simp
              try with_reducible rfl
            simp only [List.getElem_toArray, List.getElem_cons_succ, List.getElem_cons_zero, Act.put, List.setIfInBounds_toArray, List.set_cons_zero, List.set_cons_succ]
            refine HT.take (i := 13) (oi := _) (v := ?_) rfl (by kernel_rfl) (by kernel_rfl) (by decide) (fun _ _ _ h => h) (Or.inl ⟨by rfl, ?_⟩) hS ?_
            rotate_left
            · intro wz
              go_simp
              try with_reducible rfl
            simp only [List.getElem_toArray, List.getElem_cons_succ, List.getElem_cons_zero, Act.put, List.setIfInBounds_toArray, List.set_cons_zero, List.set_cons_succ]
            refine HT.take (i := 14) (oi := _) (v := .slice (cutA (some ⟨bA, oA, none⟩) c (at_ + 8)) m (c - (at_ + 8))) rfl (by kernel_rfl) (by kernel_rfl) (by decide) (fun _ _ _ h => h) (Or.inl ⟨by rfl, ?_⟩) hS ?_
            · intro wz
              have h9 := HSL3.out wz
              simp [go_sem, h9]
            try simp only [List.getElem_toArray, List.getElem_cons_succ, List.getElem_cons_zero, Act.put, List.setIfInBounds_toArray, List.set_cons_zero, List.set_cons_succ]
            refine HT.one (i := 15) (o := _) rfl (by kernel_rfl) (by decide) (by rfl) ?_
            intro K hK
            have hm47 : m ≤ 140737488355328 := Nat.le_trans (Nat.le_of_lt hm32) (by decide)
            have HDX : Hid (BysAt wr.drew B (cutA (some ⟨bA, oA, none⟩) c (at_ + 8)) m (cutB b (at_ + 8) (at_ + 8 + m))) := by
              have h1 := (HW.out.below (Below.refl B wr).drew (Nat.le_refl _)).cut hnc (p := at_ + 8) (q := at_ + 8 + m) (by omega) (by omega)
              rw [show at_ + 8 + m - (at_ + 8) = m by omega] at h1
              exact h1
            refine wp_app_nil (.tmp 83) (by rfl) B (cutA (some ⟨bA, oA, none⟩) c (at_ + 8)) m (c - (at_ + 8)) (cutB b (at_ + 8) (at_ + 8 + m)) (by go_simp) HDX.out hm47 ?_
            intro v5 w5 ho5 hb5'
            have hb5 : Below wr.heap.size wr w5 := (Below.refl wr.heap.size wr).drew.trans hb5'
            obtain ⟨A5, c5, rfl, hc5a, hc5b⟩ := ho5.form
            have hlD : (cutB b (at_ + 8) (at_ + 8 + m)).length = m := HDX.out.1
            rw [hlD] at ho5 ⊢
            obtain ⟨D, hD⟩ : ∃ D, cutB b (at_ + 8) (at_ + 8 + m) = D := ⟨_, rfl⟩
            have HD := Lib.hid hD
            have HLD := Lib.hid hlD
            rw [hD] at ho5 HLD
            have HO5 := Lib.hid ho5
            have HB5 := Lib.hid hb5
            have hbB := Nat.le_trans hB hsw
            have hS' : BysAt w5 B (some ⟨bA, oA, none⟩) n b := HW.out.below (hb5.mono hbB) (Nat.le_refl _)
            clear hb5' HDX ho5 hb5 hS hc5a hc5b hlD hD
            have hS := hS'
            refine hK.out _ _ hS ?_
            clear hK hS' K
            try simp only [List.getElem_toArray, List.getElem_cons_succ, List.getElem_cons_zero, Act.put, List.setIfInBounds_toArray, List.set_cons_zero, List.set_cons_succ]
            refine HT.take (i := 16) (oi := _) (v := ?_) rfl (by kernel_rfl) (by kernel_rfl) (by decide) (fun _ _ _ h => h) (Or.inl ⟨by rfl, ?_⟩) hS ?_
            rotate_left
            · intro wz
              go_simp
              try with_reducible rfl
            simp only [List.getElem_toArray, List.getElem_cons_succ, List.getElem_cons_zero, Act.put, List.setIfInBounds_toArray, List.set_cons_zero, List.set_cons_succ]
            refine HT.one (i := 17) (o := _) rfl (by kernel_rfl) (by decide) (by rfl) ?_
            intro K hK
            go_simp
            have hs5 := HB5.out.size
            have hS' : BysAt (w5.alloc (.cells #[.string s, .slice A5 m c5] 42)) B (some ⟨bA, oA, none⟩) n b := hS.below ((Below.refl B w5).alloc (Nat.le_trans hbB hs5) _) (Nat.le_refl _)
            clear hS
            have hS := hS'
            refine hK.out _ _ hS ?_
            clear hK hS' K
            try simp only [List.getElem_toArray, List.getElem_cons_succ, List.getElem_cons_zero, Act.put, List.setIfInBounds_toArray, List.set_cons_zero, List.set_cons_succ]
            refine HT.one (i := 18) (o := _) rfl (by kernel_rfl) (by decide) (by rfl) ?_
            intro K hK
            obtain ⟨i1, e0, e1, e2, e3⟩ := info_parts ck_info
            have hn6 := own_len_ck hR.out.out
            have HN6 := Lib.hid hn6
            have hown5 : w5.ownsRow w.heap.size 42 2 (.slice A6 n6 c6) n6 (cksC acc rows) := by have h := (hR.out.out.below HB5.out).outer; rw [← hn6] at h; exact h
            have hpl5 : w5.ownsRow w.heap.size 3 1 (.slice A7 n7 c7) n7 (ps.map (Value.int .i64)) := own_below hR.out.pl HB5.out
            refine wp_append_lies _ (.tmp 69) (.tmp 86) 44 (by rfl) w.heap.size 42 i1 _ 2 40 Tryd.underlying44 e0 e1 e2 e3 rfl (by omega) (.slice A6 n6 c6) n6 (cksC acc rows) (by go_simp) (hown5.alloc _) ⟨w5.heap.size, 0, none⟩ 1 1 [.string s, .slice A5 m c5] (by go_simp) rfl (fun j u hj => ?_) (by intro u hu; simp at hu; rcases hu with rfl | rfl <;> rfl) (by omega) (by simp only [maxLen]; omega) (by omega) (by simp; omega) _ rfl ?_
            · rw [show (⟨w5.heap.size, 0, none⟩ : Addr).add j = ⟨w5.heap.size, j, none⟩ by unfold Addr.add; split <;> simp_all, World.cell?_alloc_new]
              simpa using hj
            intro g8 cap8 w8 ho8 hg8 _ _
            have HO8 : Hid (OwnCksL w8 w.heap.size (.slice (some ⟨g8, 0, none⟩) (n6 + 1) cap8) (acc ++ [(cutB b at_ (at_ + 4), D)]) (rows ++ [.slice A5 m c5])) := by
              refine hR.out.out.push (w := w5.alloc (.cells #[.string s, .slice A5 m c5] 42)) (HB5.out.alloc hs5 _) hsw ?_ ?_ hg8
              · have h := HO5.out
                have h2 : OwnBys w5 wr.heap.size (.slice A5 m c5) D := h
                unfold OwnBys at h2 ⊢
                exact h2.alloc _
              · rw [← HN6.out]; unfold ckV strOf; rw [HS.out]; exact ho8
            have HP8 : Hid (w8.ownsRow w.heap.size 3 1 (.slice A7 n7 c7) n7 (ps.map (Value.int .i64))) := (hpl5.alloc _).kept hg8 (own_ne hpl5 hown5 (by decide))
            have HB8 : Hid (Below w.heap.size w w8) := ((hR.out.below.trans (HB5.out.mono hsw)).alloc (Nat.le_trans hsw hs5) _).grown hg8 (by simp; omega) (fun k hk => (own_lt hown5 hk).1)
            have hS' : BysAt w8 B (some ⟨bA, oA, none⟩) n b := hh.out.below (HB8.out.mono hB) (Nat.le_refl _)
            have h8s : w.heap.size ≤ w8.heap.size := HB8.out.size
            have h7 : n7 ≤ 1000000000 := by have := hR.out.len.2; omega
            clear hS ho8 hg8 hown5 hpl5 e0 e1 e2 e3 hn6
            have hS := hS'
            refine hK.out _ _ hS ?_
            clear hK hS' K
            try simp only [List.getElem_toArray, List.getElem_cons_succ, List.getElem_cons_zero, Act.put, List.setIfInBounds_toArray, List.set_cons_zero, List.set_cons_succ]
            refine HT.done (by kernel_rfl) ?_
            clear hS
            simp only [List.drop_succ_cons, List.drop_zero]
            clear hw1 hw2 hw3 HSL HSL3 HCV
            go_simp
            have ARM2 : Hid (∀ (w9 : World) (u : Int), (w8.alloc (.cells #[.int .i64 u] 3)).grownBy w9 (Value.slice A7 n7 c7).ownBlock →
                OwnCksL w9 w.heap.size (.slice (some ⟨g8, 0, none⟩) (n6 + 1) cap8) (acc ++ [(cutB b at_ (at_ + 4), D)]) (rows ++ [.slice A5 m c5]) ∧ Below w.heap.size w w9) := fun w9 u hg9 => by
              refine ⟨?_, ?_⟩
              · exact (HO8.out.below ((Below.refl _ w8).alloc (Nat.le_refl _) _)).kept_int (World.ownsRow.alloc HP8.out _) hg9
              · exact (HB8.out.alloc h8s _).grown hg9 (by simp; omega) (fun k hk => (own_lt HP8.out hk).1)
            go_wp2_with (with_reducible refine wpList_push_int2 rfl (.tmp 88) (.tmp 90) rfl w.heap.size A7 n7 c7 (ps.map (Value.int .i64)) (at_ : Int) w8.heap.size rfl rfl rfl HP8.out h7 h8s ?_; intro g9 cap9 w9 ho9 hg9; have H9 := Lib.hid (ARM2.out w9 at_ hg9); have HP9 := Lib.hid ho9; clear ho9 hg9)
            have HYES : Hid (chunkS b at_ = some ((cutB b at_ (at_ + 4), D), at_ + 8 + m + m % 2)) := by
              show _ = _
              unfold chunkS
              rw [HLM.out, if_neg (by rw [HNb.out, hl.out]; rintro (h | h); omega; cases h), if_neg (by unfold nextN; rw [hl.out]; rintro (h | h); omega; exact absurd (HPAD.out h.1) h.2), ← HD.out]
              rfl
            have HN : Hid (plS b (b.length + 1) [] [] 0 = plS b (f - 1) (acc ++ [(cutB b at_ (at_ + 4), D)]) (ps ++ [(at_ : Int)]) (at_ + 8 + m + m % 2)) := by
              show _ = _
              rw [hR.out.eq, ← plS_next (by rw [hl.out]; exact HLT.out) (by rw [← HN6.out]; exact HF.out) HYES.out]
              rw [show f - 1 + 1 = f by have := hR.out.fuel; omega]
            have hn7 := hR.out.len
            have hf := hR.out.fuel
            have h61 : n6 + 1 ≤ 1000 := by have := HF.out; omega
            go_roundw
            case rel => exact ⟨at_ + 8 + m + m % 2, _, _, _, _, _, _, f - 1, acc ++ [(cutB b at_ (at_ + 4), D)], ps ++ [(at_ : Int)], rows ++ [.slice A5 m c5], by congr 1, rfl, rfl, Lib.hid ⟨by omega, by omega, HN.out, H9.out.1, by have h := HP9.out; rw [List.map_append]; exact h, H9.out.2, h61, by rw [List.length_append, hn7.1]; exact ⟨rfl, by omega⟩⟩⟩
            case measure => simp [intOf]; omega
          · have hxn : (byOf b q).toNat ≠ 0 := fun e => hz (by rw [← UInt8.toNat_inj]; exact e)
            have hbad4 : lenN b at_ % 2 = 1 ∧ byOf b (nextN at_ (lenN b at_) - 1) ≠ 0 := ⟨by rw [HLM.out]; exact hodd, by unfold nextN; rw [HLM.out, hq]; exact hz⟩
            have hE : Hid (plS b (b.length + 1) [] [] 0 = (([], []), at_, 10)) := by
              show _ = _
              rw [hR.out.eq, plS_bad (by have := hR.out.fuel; omega) (by rw [hl.out]; exact HLT.out) (by rw [← own_len_ck hR.out.out]; exact HF.out) (chunkS_none (.inr (.inr (.inr hbad4))))]
            have HB := Lib.hid hR.out.below
            clear hbad4
            obtain ⟨x, hx⟩ : ∃ x, (byOf b q).toNat = x := ⟨_, rfl⟩
            rw [hx] at hcell hxn
            have d4 : ((x : Int) != 0) = true := by simp; omega
            clear hx hz hq hxn hodd hR
            go_wp2_with fail
            refine bodyPost_ret (v := .tuple #[.slice none 0 0, .slice none 0 0, .int .i64 at_, .int .i64 10]) (by simp [results, Tryd.results27, go_sem]) rfl ?_
            unfold OutP
            rw [hE.out]
            exact ⟨_, _, rfl, OwnCks.nil _ _, World.ownsRow_nil _ _ _ _, HB.out⟩
        · have d5 : ((m : Int) % 2 == 1) = false := by simp; omega
          have HPAD : Hid (m % 2 = 1 → byOf b (at_ + 8 + m + m % 2 - 1) = 0) := fun h => absurd h hodd
          clear hodd
          go_upto_region 15 with (fail)
          have hw1 : IntKind.i64.wrap ((at_ : Int) + 4) = (at_ : Int) + 4 := IntWalk.i64_in _ (by omega)
          have hw2 : IntKind.i64.wrap ((at_ : Int) + 8) = (at_ : Int) + 8 := IntWalk.i64_in _ (by omega)
          have hw3 : IntKind.i64.wrap ((at_ : Int) + 8 + (m : Int)) = (at_ : Int) + 8 + (m : Int) := IntWalk.i64_in _ (by omega)
          have hsl : ∀ W, (Instr.slice 26 (.slice (some ⟨bA, oA, none⟩) n c) (some (.int .i64 (at_ : Int))) (some (.int .i64 ((at_ : Int) + 4))) none).run Tryd.prog W = .ok (.slice (cutA (some ⟨bA, oA, none⟩) c at_) 4 (c - at_)) W :=
            fun W => run_cut_at (p := 0) (q := 4) (by omega) (by omega) (by omega) W
          have hsl3 : ∀ W, (Instr.slice 26 (.slice (some ⟨bA, oA, none⟩) n c) (some (.int .i64 ((at_ : Int) + 8))) (some (.int .i64 ((at_ : Int) + 8 + (m : Int)))) none).run Tryd.prog W = .ok (.slice (cutA (some ⟨bA, oA, none⟩) c (at_ + 8)) m (c - (at_ + 8))) W :=
            fun W => run_cut_at (p := 8) (q := m) (by omega) (by omega) (by omega) W
          have HSL := Lib.hid hsl
          have HSL3 := Lib.hid hsl3
          have HCV : Hid (∀ W, BysAt W B (some ⟨bA, oA, none⟩) n b → (convert 26 9 (.slice (cutA (some ⟨bA, oA, none⟩) c at_) 4 (c - at_))).run Tryd.prog W = .ok (.string s) W) := fun W hW => by
            have h1 := hW.cut hnc (p := at_) (q := at_ + 4) (by omega) (by omega)
            rw [show at_ + 4 - at_ = 4 by omega] at h1
            have := run_str_of (c := c - at_) h1
            unfold strOf at this
            rw [HS.out] at this
            exact this
          clear hsl hsl3
          have hS := HW.out
          refine wp_region_text 19 (fun x => BysAt x B (some ⟨bA, oA, none⟩) n b) (by kernel_rfl) (by kernel_rfl) ?_
          refine HT.take (i := 0) (oi := _) (v := ?_) rfl (by kernel_rfl) (by kernel_rfl) (by decide) (fun _ _ _ h => h) (Or.inl ⟨by rfl, ?_⟩) hS ?_
          rotate_left
          · intro wz
            go_simp
            try with_reducible rfl
          simp only [List.getElem_toArray, List.getElem_cons_succ, List.getElem_cons_zero, Act.put, List.setIfInBounds_toArray, List.set_cons_zero, List.set_cons_succ]
          refine HT.take (i := 1) (oi := _) (v := ?_) rfl (by kernel_rfl) (by kernel_rfl) (by decide) (fun _ _ _ h => h) (Or.inl ⟨by rfl, ?_⟩) hS ?_
          rotate_left
          · intro wz
            go_simp
            try with_reducible rfl
          simp only [List.getElem_toArray, List.getElem_cons_succ, List.getElem_cons_zero, Act.put, List.setIfInBounds_toArray, List.set_cons_zero, List.set_cons_succ]
          refine HT.take (i := 2) (oi := _) (v := ?_) rfl (by kernel_rfl) (by kernel_rfl) (by decide) (fun _ _ _ h => h) (Or.inl ⟨by rfl, ?_⟩) hS ?_
          rotate_left
          · intro wz
            go_simp
            try with_reducible rfl
          simp only [List.getElem_toArray, List.getElem_cons_succ, List.getElem_cons_zero, Act.put, List.setIfInBounds_toArray, List.set_cons_zero, List.set_cons_succ]
          refine HT.take (i := 3) (oi := _) (v := ?_) rfl (by kernel_rfl) (by kernel_rfl) (by decide) (fun _ _ _ h => h) (Or.inl ⟨by rfl, ?_⟩) hS ?_
          rotate_left
          · intro wz
            go_simp
            try with_reducible rfl
          simp only [List.getElem_toArray, List.getElem_cons_succ, List.getElem_cons_zero, Act.put, List.setIfInBounds_toArray, List.set_cons_zero, List.set_cons_succ]
          refine HT.take (i := 4) (oi := _) (v := ?_) rfl (by kernel_rfl) (by kernel_rfl) (by decide) (fun _ _ _ h => h) (Or.inl ⟨by rfl, ?_⟩) hS ?_
          rotate_left
          · intro wz
            go_simp
            try with_reducible rfl
          simp only [List.getElem_toArray, List.getElem_cons_succ, List.getElem_cons_zero, Act.put, List.setIfInBounds_toArray, List.set_cons_zero, List.set_cons_succ]
          refine HT.take (i := 5) (oi := _) (v := .slice (cutA (some ⟨bA, oA, none⟩) c at_) 4 (c - at_)) rfl (by kernel_rfl) (by kernel_rfl) (by decide) (fun _ _ _ h => h) (Or.inl ⟨by rfl, ?_⟩) hS ?_
          · intro wz
            have h9 := HSL.out wz
            simp [go_sem, h9]
          try simp only [List.getElem_toArray, List.getElem_cons_succ, List.getElem_cons_zero, Act.put, List.setIfInBounds_toArray, List.set_cons_zero, List.set_cons_succ]
          refine HT.load (i := 6) (oi := _) (v := .string s) rfl (by kernel_rfl) (by kernel_rfl) (by decide) (fun _ _ _ h => h) (by kernel_rfl) (Or.inl ⟨by rfl, ?_⟩) hS ?_
          · intro wz hwz
            have h9 := HCV.out wz hwz
            simp [go_sem, h9]
          try simp only [List.getElem_toArray, List.getElem_cons_succ, List.getElem_cons_zero, Act.put, List.setIfInBounds_toArray, List.set_cons_zero, List.set_cons_succ]
          refine HT.take (i := 7) (oi := _) (v := ?_) rfl (by kernel_rfl) (by kernel_rfl) (by decide) (fun _ _ _ h => h) (Or.inl ⟨by rfl, ?_⟩) hS ?_
          rotate_left
          · intro wz
            go_simp
            try with_reducible rfl
          simp only [List.getElem_toArray, List.getElem_cons_succ, List.getElem_cons_zero, Act.put, List.setIfInBounds_toArray, List.set_cons_zero, List.set_cons_succ]
          refine HT.take (i := 8) (oi := _) (v := ?_) rfl (by kernel_rfl) (by kernel_rfl) (by decide) (fun _ _ _ h => h) (Or.inl ⟨by rfl, ?_⟩) hS ?_
          rotate_left
          · intro wz
            go_simp
            try with_reducible rfl
          simp only [List.getElem_toArray, List.getElem_cons_succ, List.getElem_cons_zero, Act.put, List.setIfInBounds_toArray, List.set_cons_zero, List.set_cons_succ]
          refine HT.take (i := 9) (oi := _) (v := ?_) rfl (by kernel_rfl) (by kernel_rfl) (by decide) (fun _ _ _ h => h) (Or.inl ⟨by rfl, ?_⟩) hS ?_
          rotate_left
          · intro wz
            go_simp
            try with_reducible rfl
          simp only [List.getElem_toArray, List.getElem_cons_succ, List.getElem_cons_zero, Act.put, List.setIfInBounds_toArray, List.set_cons_zero, List.set_cons_succ]
          refine HT.take (i := 10) (oi := _) (v := ?_) rfl (by kernel_rfl) (by kernel_rfl) (by decide) (fun _ _ _ h => h) (Or.inl ⟨by rfl, ?_⟩) hS ?_
          rotate_left
          · intro wz
            go_simp
            try with_reducible rfl
          simp only [List.getElem_toArray, List.getElem_cons_succ, List.getElem_cons_zero, Act.put, List.setIfInBounds_toArray, List.set_cons_zero, List.set_cons_succ]
          refine HT.take (i := 11) (oi := _) (v := ?_) rfl (by kernel_rfl) (by kernel_rfl) (by decide) (fun _ _ _ h => h) (Or.inl ⟨by rfl, ?_⟩) hS ?_
          rotate_left
          · intro wz
            go_simp
            try with_reducible rfl
          simp only [List.getElem_toArray, List.getElem_cons_succ, List.getElem_cons_zero, Act.put, List.setIfInBounds_toArray, List.set_cons_zero, List.set_cons_succ]
          refine HT.take (i := 12) (oi := _) (v := ?_) rfl (by kernel_rfl) (by kernel_rfl) (by decide) (fun _ _ _ h => h) (Or.inl ⟨by rfl, ?_⟩) hS ?_
          rotate_left
          · intro wz
            go_simp
            try with_reducible rfl
          simp only [List.getElem_toArray, List.getElem_cons_succ, List.getElem_cons_zero, Act.put, List.setIfInBounds_toArray, List.set_cons_zero, List.set_cons_succ]
          refine HT.take (i := 13) (oi := _) (v := ?_) rfl (by kernel_rfl) (by kernel_rfl) (by decide) (fun _ _ _ h => h) (Or.inl ⟨by rfl, ?_⟩) hS ?_
          rotate_left
          · intro wz
            go_simp
            try with_reducible rfl
          simp only [List.getElem_toArray, List.getElem_cons_succ, List.getElem_cons_zero, Act.put, List.setIfInBounds_toArray, List.set_cons_zero, List.set_cons_succ]
          refine HT.take (i := 14) (oi := _) (v := .slice (cutA (some ⟨bA, oA, none⟩) c (at_ + 8)) m (c - (at_ + 8))) rfl (by kernel_rfl) (by kernel_rfl) (by decide) (fun _ _ _ h => h) (Or.inl ⟨by rfl, ?_⟩) hS ?_
          · intro wz
            have h9 := HSL3.out wz
            simp [go_sem, h9]
          try simp only [List.getElem_toArray, List.getElem_cons_succ, List.getElem_cons_zero, Act.put, List.setIfInBounds_toArray, List.set_cons_zero, List.set_cons_succ]
          refine HT.one (i := 15) (o := _) rfl (by kernel_rfl) (by decide) (by rfl) ?_
          intro K hK
          have hm47 : m ≤ 140737488355328 := Nat.le_trans (Nat.le_of_lt hm32) (by decide)
          have HDX : Hid (BysAt wr.drew B (cutA (some ⟨bA, oA, none⟩) c (at_ + 8)) m (cutB b (at_ + 8) (at_ + 8 + m))) := by
            have h1 := (HW.out.below (Below.refl B wr).drew (Nat.le_refl _)).cut hnc (p := at_ + 8) (q := at_ + 8 + m) (by omega) (by omega)
            rw [show at_ + 8 + m - (at_ + 8) = m by omega] at h1
            exact h1
          refine wp_app_nil (.tmp 83) (by rfl) B (cutA (some ⟨bA, oA, none⟩) c (at_ + 8)) m (c - (at_ + 8)) (cutB b (at_ + 8) (at_ + 8 + m)) (by go_simp) HDX.out hm47 ?_
          intro v5 w5 ho5 hb5'
          have hb5 : Below wr.heap.size wr w5 := (Below.refl wr.heap.size wr).drew.trans hb5'
          obtain ⟨A5, c5, rfl, hc5a, hc5b⟩ := ho5.form
          have hlD : (cutB b (at_ + 8) (at_ + 8 + m)).length = m := HDX.out.1
          rw [hlD] at ho5 ⊢
          obtain ⟨D, hD⟩ : ∃ D, cutB b (at_ + 8) (at_ + 8 + m) = D := ⟨_, rfl⟩
          have HD := Lib.hid hD
          have HLD := Lib.hid hlD
          rw [hD] at ho5 HLD
          have HO5 := Lib.hid ho5
          have HB5 := Lib.hid hb5
          have hbB := Nat.le_trans hB hsw
          have hS' : BysAt w5 B (some ⟨bA, oA, none⟩) n b := HW.out.below (hb5.mono hbB) (Nat.le_refl _)
          clear hb5' HDX ho5 hb5 hS hc5a hc5b hlD hD
          have hS := hS'
          refine hK.out _ _ hS ?_
          clear hK hS' K
          try simp only [List.getElem_toArray, List.getElem_cons_succ, List.getElem_cons_zero, Act.put, List.setIfInBounds_toArray, List.set_cons_zero, List.set_cons_succ]
          refine HT.take (i := 16) (oi := _) (v := ?_) rfl (by kernel_rfl) (by kernel_rfl) (by decide) (fun _ _ _ h => h) (Or.inl ⟨by rfl, ?_⟩) hS ?_
          rotate_left
          · intro wz
            go_simp
            try with_reducible rfl
          simp only [List.getElem_toArray, List.getElem_cons_succ, List.getElem_cons_zero, Act.put, List.setIfInBounds_toArray, List.set_cons_zero, List.set_cons_succ]
          refine HT.one (i := 17) (o := _) rfl (by kernel_rfl) (by decide) (by rfl) ?_
          intro K hK
          go_simp
          have hs5 := HB5.out.size
          have hS' : BysAt (w5.alloc (.cells #[.string s, .slice A5 m c5] 42)) B (some ⟨bA, oA, none⟩) n b := hS.below ((Below.refl B w5).alloc (Nat.le_trans hbB hs5) _) (Nat.le_refl _)
          clear hS
          have hS := hS'
          refine hK.out _ _ hS ?_
          clear hK hS' K
          try simp only [List.getElem_toArray, List.getElem_cons_succ, List.getElem_cons_zero, Act.put, List.setIfInBounds_toArray, List.set_cons_zero, List.set_cons_succ]
          refine HT.one (i := 18) (o := _) rfl (by kernel_rfl) (by decide) (by rfl) ?_
          intro K hK
          obtain ⟨i1, e0, e1, e2, e3⟩ := info_parts ck_info
          have hn6 := own_len_ck hR.out.out
          have HN6 := Lib.hid hn6
          have hown5 : w5.ownsRow w.heap.size 42 2 (.slice A6 n6 c6) n6 (cksC acc rows) := by have h := (hR.out.out.below HB5.out).outer; rw [← hn6] at h; exact h
          have hpl5 : w5.ownsRow w.heap.size 3 1 (.slice A7 n7 c7) n7 (ps.map (Value.int .i64)) := own_below hR.out.pl HB5.out
          refine wp_append_lies _ (.tmp 69) (.tmp 86) 44 (by rfl) w.heap.size 42 i1 _ 2 40 Tryd.underlying44 e0 e1 e2 e3 rfl (by omega) (.slice A6 n6 c6) n6 (cksC acc rows) (by go_simp) (hown5.alloc _) ⟨w5.heap.size, 0, none⟩ 1 1 [.string s, .slice A5 m c5] (by go_simp) rfl (fun j u hj => ?_) (by intro u hu; simp at hu; rcases hu with rfl | rfl <;> rfl) (by omega) (by simp only [maxLen]; omega) (by omega) (by simp; omega) _ rfl ?_
          · rw [show (⟨w5.heap.size, 0, none⟩ : Addr).add j = ⟨w5.heap.size, j, none⟩ by unfold Addr.add; split <;> simp_all, World.cell?_alloc_new]
            simpa using hj
          intro g8 cap8 w8 ho8 hg8 _ _
          have HO8 : Hid (OwnCksL w8 w.heap.size (.slice (some ⟨g8, 0, none⟩) (n6 + 1) cap8) (acc ++ [(cutB b at_ (at_ + 4), D)]) (rows ++ [.slice A5 m c5])) := by
            refine hR.out.out.push (w := w5.alloc (.cells #[.string s, .slice A5 m c5] 42)) (HB5.out.alloc hs5 _) hsw ?_ ?_ hg8
            · have h := HO5.out
              have h2 : OwnBys w5 wr.heap.size (.slice A5 m c5) D := h
              unfold OwnBys at h2 ⊢
              exact h2.alloc _
            · rw [← HN6.out]; unfold ckV strOf; rw [HS.out]; exact ho8
          have HP8 : Hid (w8.ownsRow w.heap.size 3 1 (.slice A7 n7 c7) n7 (ps.map (Value.int .i64))) := (hpl5.alloc _).kept hg8 (own_ne hpl5 hown5 (by decide))
          have HB8 : Hid (Below w.heap.size w w8) := ((hR.out.below.trans (HB5.out.mono hsw)).alloc (Nat.le_trans hsw hs5) _).grown hg8 (by simp; omega) (fun k hk => (own_lt hown5 hk).1)
          have hS' : BysAt w8 B (some ⟨bA, oA, none⟩) n b := hh.out.below (HB8.out.mono hB) (Nat.le_refl _)
          have h8s : w.heap.size ≤ w8.heap.size := HB8.out.size
          have h7 : n7 ≤ 1000000000 := by have := hR.out.len.2; omega
          clear hS ho8 hg8 hown5 hpl5 e0 e1 e2 e3 hn6
          have hS := hS'
          refine hK.out _ _ hS ?_
          clear hK hS' K
          try simp only [List.getElem_toArray, List.getElem_cons_succ, List.getElem_cons_zero, Act.put, List.setIfInBounds_toArray, List.set_cons_zero, List.set_cons_succ]
          refine HT.done (by kernel_rfl) ?_
          clear hS
          simp only [List.drop_succ_cons, List.drop_zero]
          clear hw1 hw2 hw3 HSL HSL3 HCV
          go_simp
          have ARM2 : Hid (∀ (w9 : World) (u : Int), (w8.alloc (.cells #[.int .i64 u] 3)).grownBy w9 (Value.slice A7 n7 c7).ownBlock →
              OwnCksL w9 w.heap.size (.slice (some ⟨g8, 0, none⟩) (n6 + 1) cap8) (acc ++ [(cutB b at_ (at_ + 4), D)]) (rows ++ [.slice A5 m c5]) ∧ Below w.heap.size w w9) := fun w9 u hg9 => by
            refine ⟨?_, ?_⟩
            · exact (HO8.out.below ((Below.refl _ w8).alloc (Nat.le_refl _) _)).kept_int (World.ownsRow.alloc HP8.out _) hg9
            · exact (HB8.out.alloc h8s _).grown hg9 (by simp; omega) (fun k hk => (own_lt HP8.out hk).1)
          go_wp2_with (with_reducible refine wpList_push_int2 rfl (.tmp 88) (.tmp 90) rfl w.heap.size A7 n7 c7 (ps.map (Value.int .i64)) (at_ : Int) w8.heap.size rfl rfl rfl HP8.out h7 h8s ?_; intro g9 cap9 w9 ho9 hg9; have H9 := Lib.hid (ARM2.out w9 at_ hg9); have HP9 := Lib.hid ho9; clear ho9 hg9)
          have HYES : Hid (chunkS b at_ = some ((cutB b at_ (at_ + 4), D), at_ + 8 + m + m % 2)) := by
            show _ = _
            unfold chunkS
            rw [HLM.out, if_neg (by rw [HNb.out, hl.out]; rintro (h | h); omega; cases h), if_neg (by unfold nextN; rw [hl.out]; rintro (h | h); omega; exact absurd (HPAD.out h.1) h.2), ← HD.out]
            rfl
          have HN : Hid (plS b (b.length + 1) [] [] 0 = plS b (f - 1) (acc ++ [(cutB b at_ (at_ + 4), D)]) (ps ++ [(at_ : Int)]) (at_ + 8 + m + m % 2)) := by
            show _ = _
            rw [hR.out.eq, ← plS_next (by rw [hl.out]; exact HLT.out) (by rw [← HN6.out]; exact HF.out) HYES.out]
            rw [show f - 1 + 1 = f by have := hR.out.fuel; omega]
          have hn7 := hR.out.len
          have hf := hR.out.fuel
          have h61 : n6 + 1 ≤ 1000 := by have := HF.out; omega
          go_roundw
          case rel => exact ⟨at_ + 8 + m + m % 2, _, _, _, _, _, _, f - 1, acc ++ [(cutB b at_ (at_ + 4), D)], ps ++ [(at_ : Int)], rows ++ [.slice A5 m c5], by congr 1, rfl, rfl, Lib.hid ⟨by omega, by omega, HN.out, H9.out.1, by have h := HP9.out; rw [List.map_append]; exact h, H9.out.2, h61, by rw [List.length_append, hn7.1]; exact ⟨rfl, by omega⟩⟩⟩
          case measure => simp [intOf]; omega
    · obtain rfl : at_ = n := by omega
      have hE : Hid (plS b (b.length + 1) [] [] 0 = ((acc, ps), 0, 0)) := by
        show _ = _
        rw [hR.out.eq, plS_end (by have := hR.out.fuel; omega) (by rw [hl.out]; exact hlt)]
      go_wp2_with fail
      refine bodyPost_ret (v := .tuple #[.slice A6 n6 c6, .slice A7 n7 c7, .int .i64 0, .int .i64 0]) (by simp [results, Tryd.results27, go_sem]) rfl ?_
      unfold OutP
      rw [hE.out]
      refine ⟨_, _, rfl, ⟨rows, hR.out.out⟩, ?_, hR.out.below⟩
      have h := hR.out.pl
      rw [← hR.out.len.1] at h ⊢
      exact h
theorem RPLACED_any (A : Option Addr) (n c : Nat) (b : By) (hc9 : n ≤ c ∧ c ≤ maxLen) (w : World) (B : Nat) (hB : B ≤ w.heap.size) (hh : Hid (BysAt w B A n b)) :
    Calls Tryd.prog 27 #[.slice A n c] w (OutP w (placedS b)) := by
  have hl := hh.out.1
  by_cases hn : n ≤ 8000000
  · have hp : placedS b = plS b (b.length + 1) [] [] 0 := by unfold placedS; rw [if_neg (by omega)]
    rw [hp]
    exact RPLACED_ok A n c b hn hc9 w B hB hh
  · have hp : placedS b = (([], []), 0, 2) := by unfold placedS; rw [if_pos (by omega)]
    rw [hp]
    have d1 : decide ((8000000 : Int) < (n : Int)) = true := by simp; omega
    clear hn hl hp hc9 hh
    go_enter Tryd.func27, Tryd.ntmps27
    go_wp2_with fail
    refine bodyPost_ret (v := .tuple #[.slice none 0 0, .slice none 0 0, .int .i64 0, .int .i64 2]) (by simp [results, Tryd.results27, go_sem]) rfl ?_
    unfold OutP
    exact ⟨_, _, rfl, OwnCks.nil _ _, World.ownsRow_nil _ _ _ _, Below.refl _ _⟩
end Go.Proofs.YtlnjildkdmeflaaDoor
