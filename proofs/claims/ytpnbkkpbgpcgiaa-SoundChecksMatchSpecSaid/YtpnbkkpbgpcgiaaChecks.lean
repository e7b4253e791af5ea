/- The law ChecksMatchSpec, walked. -/
import Derived.Test.YtpnbkkpbgpcgiaaDig2
import Derived.Test.YtpnbkkpbgpcgiaaSilence
import Derived.Test.YtpnbkkpbgpcgiaaRev3
import Derived.Test.YtpnbkkpbgpcgiaaSnd
import Derived.Test.YtpnbkkpbgpcgiaaSame
import Derived.Test.YtpnbkkpbgpcgiaaRPeak
import Derived.Test.YtpnbkkpbgpcgiaaLift
set_option linter.unusedSimpArgs false
set_option linter.unusedVariables false
namespace Go.Proofs.Ytpnbkkpbgpcgiaa
open Go.RowKit Go.Dw
def digestS (r : Int) (xss : List (List Int)) : ByteArray × Int := if chkS r xss ≠ 0 then (⟨#[]⟩, chkS r xss) else (digS r xss.length xss, 0)
theorem DIGEST_any (r : Int) (A : Option Addr) (n c : Nat) (xss : List (List Int)) (w : World) (B : Nat) (hB : B ≤ w.heap.size) (hh : RowsAt w B A n xss) :
    Calls Try.prog 41 #[.agg #[.int .i64 r, .slice A n c]] w fun e w' => e = .returned (.tuple #[.string (digestS r xss).1, .int .i64 (digestS r xss).2]) ∧ Below w.heap.size w w' := by
  unfold digestS
  by_cases hc : chkS r xss = 0
  · have hok := chkS_ok hc
    have hn : 0 < n := by have := hok.some; have := hh.1; omega
    obtain ⟨ad, rfl⟩ := hh.addr hn
    rw [if_neg (by simp [hc]), hh.1]
    exact DIGEST_ok r ad n c xss hc hok w B hB hh
  · rw [if_pos hc]
    exact DIGEST_chk r A n c xss hc w B hB hh
theorem RDIGEST_any (r : Int) (A : Option Addr) (n c : Nat) (xss : List (List Int)) (w : World) (B : Nat) (hB : B ≤ w.heap.size) (hh : RowsAt w B A n xss) :
    Calls Try.prog 42 #[.agg #[.int .i64 r, .slice A n c]] w fun e w' => e = .returned (.tuple #[.string (digestS r xss).1, .int .i64 (digestS r xss).2]) ∧ Below w.heap.size w w' := by
  unfold digestS
  by_cases hc : chkS r xss = 0
  · have hok := chkS_ok hc
    have hn : 0 < n := by have := hok.some; have := hh.1; omega
    obtain ⟨ad, rfl⟩ := hh.addr hn
    rw [if_neg (by simp [hc]), hh.1]
    exact RDIGEST_ok r ad n c xss hc hok w B hB hh
  · rw [if_pos hc]
    exact RDIGEST_chk r A n c xss hc w B hB hh
set_option maxRecDepth 100000 in
set_option maxHeartbeats 4000000 in
theorem lawChecks_walk (r : Int) (A : Option Addr) (n c : Nat) (a1 a2 a3 : Int) (xss : List (List Int)) (w : World) (hh : Hid (RowsAt w w.heap.size A n xss)) :
    Calls Try.prog 10 #[.agg #[.int .i64 r, .slice A n c], .int .i64 a1, .int .i64 a2, .int .i64 a3] w fun e w' => e = .returned (.bool true) ∧ Below w.heap.size w w' := by
  obtain ⟨Z, hZ⟩ : ∃ Z, silS a1 a2 a3 = Z := ⟨_, rfl⟩
  obtain ⟨z0, z1, z2⟩ := Z
  obtain ⟨J, hJ⟩ : ∃ J, rvS r xss = J := ⟨_, rfl⟩
  obtain ⟨j0, j1, j2⟩ := J
  have HZ := Lib.hid hZ
  have HJ := Lib.hid hJ
  clear hZ hJ
  go_enter Try.func10, Try.ntmps10
  go_wp2_with fail
  refine calls_later (w.heap.size + 1) ?_
  intro W hW hsW
  obtain ⟨hcW, hfW⟩ := bcell hW
  simp only [World.size_alloc] at hsW
  have hbw : Below w.heap.size w W := ((Below.refl _ w).alloc (Nat.le_refl _) _).trans (hW.mono (by omega))
  have hww : w.heap.size ≤ W.heap.size := by omega
  have SA : Hid (SndAt W W.heap.size w.heap.size r A n c xss) :=
    ⟨by omega, by rw [hcW _ _ (by omega)]; simp [go_sem], by rw [hcW _ _ (by omega)]; simp [go_sem], (hh.out.below hbw (Nat.le_refl _)).mono (by omega), by rw [hfW _ _ (by omega)]; simp [go_sem], by rw [hfW _ _ (by omega)]; simp [go_sem]⟩
  clear hcW hfW hW hsW
  obtain ⟨ga, hga⟩ : ∃ ga, ga = w.heap.size := ⟨_, rfl⟩
  rw [← hga] at SA ⊢
  clear hga
  refine (SILENCE_any a1 a2 a3 _).mono ?_
  rw [HZ.out]
  rintro e w11 ⟨v11, rfl, ho11, hb11⟩
  obtain ⟨A11, c11, rfl, _, _⟩ := ho11.form
  dsimp only at ho11 ⊢
  replace SA := Lib.hid (SA.out.below hb11 hb11.size)
  have hbw11 := hbw.trans (hb11.mono hww)
  have hww11 : w.heap.size ≤ w11.heap.size := Nat.le_trans hww hb11.size
  have S1 := Lib.hid (SndAt.fresh (r := z0) ho11)
  have SA0c := SA.out.c0
  have SA1c := SA.out.c1
  have SAlc := SA.out.lt
  clear hbw hww ho11 hb11
  go_wp2_with fail
  clear SA0c SA1c SAlc
  replace SA := Lib.hid (SA.out.below ((Below.refl _ w11).alloc (Nat.le_refl _) (.cells #[.int .i64 z0, .slice A11 z1.length c11] 24)) (Nat.le_succ _))
  have hbw : Below w.heap.size w (w11.alloc (.cells #[.int .i64 z0, .slice A11 z1.length c11] 24)) := hbw11.alloc hww11 _
  obtain ⟨X11, hX⟩ : ∃ X, X = w11.alloc (.cells #[.int .i64 z0, .slice A11 z1.length c11] 24) := ⟨_, rfl⟩
  have hXs : X11.heap.size = w11.heap.size + 1 := by rw [hX]; simp
  obtain ⟨g11, hg⟩ : ∃ g, g = w11.heap.size := ⟨_, rfl⟩
  rw [← hX] at SA S1 hbw ⊢
  rw [Nat.succ_eq_add_one, ← hXs] at SA
  rw [← hXs] at S1
  rw [← hg] at S1 ⊢
  have hww : w.heap.size ≤ X11.heap.size := by omega
  clear hX hg hXs hbw11 hww11
  refine (RSILENCE_any a1 a2 a3 _).mono ?_
  rw [HZ.out]
  rintro e w12 ⟨v12, rfl, ho12, hb12⟩
  obtain ⟨A12, c12, rfl, _, _⟩ := ho12.form
  dsimp only at ho12 ⊢
  replace SA := Lib.hid (SA.out.below hb12 hb12.size)
  replace S1 := Lib.hid (S1.out.below hb12 hb12.size)
  have hbw12 := hbw.trans (hb12.mono hww)
  have hww12 : w.heap.size ≤ w12.heap.size := Nat.le_trans hww hb12.size
  have S2 := Lib.hid (SndAt.fresh (r := z0) ho12)
  have SA0c := SA.out.c0
  have SA1c := SA.out.c1
  have SAlc := SA.out.lt
  have S10c := S1.out.c0
  have S11c := S1.out.c1
  have S1lc := S1.out.lt
  clear hbw hww ho12 hb12
  go_wp2_with fail
  clear SA0c SA1c SAlc S10c S11c S1lc
  replace SA := Lib.hid (SA.out.below ((Below.refl _ w12).alloc (Nat.le_refl _) (.cells #[.int .i64 z0, .slice A12 z1.length c12] 24)) (Nat.le_succ _))
  replace S1 := Lib.hid (S1.out.below ((Below.refl _ w12).alloc (Nat.le_refl _) (.cells #[.int .i64 z0, .slice A12 z1.length c12] 24)) (Nat.le_succ _))
  have hbw : Below w.heap.size w (w12.alloc (.cells #[.int .i64 z0, .slice A12 z1.length c12] 24)) := hbw12.alloc hww12 _
  obtain ⟨X12, hX⟩ : ∃ X, X = w12.alloc (.cells #[.int .i64 z0, .slice A12 z1.length c12] 24) := ⟨_, rfl⟩
  have hXs : X12.heap.size = w12.heap.size + 1 := by rw [hX]; simp
  obtain ⟨g12, hg⟩ : ∃ g, g = w12.heap.size := ⟨_, rfl⟩
  rw [← hX] at SA S1 S2 hbw ⊢
  rw [Nat.succ_eq_add_one, ← hXs] at SA S1
  rw [← hXs] at S2
  rw [← hg] at S2 ⊢
  have hww : w.heap.size ≤ X12.heap.size := by omega
  clear hX hg hXs hbw12 hww12
  refine (REVERSED_any r A n c xss _ X12.heap.size (Nat.le_refl _) SA.out.rows).mono ?_
  rw [HJ.out]
  rintro e w13 ⟨v13, rfl, ho13, hb13⟩
  obtain ⟨A13, c13, rfl, _, _⟩ := ho13.form
  dsimp only at ho13 ⊢
  replace SA := Lib.hid (SA.out.below hb13 hb13.size)
  replace S1 := Lib.hid (S1.out.below hb13 hb13.size)
  replace S2 := Lib.hid (S2.out.below hb13 hb13.size)
  have hbw13 := hbw.trans (hb13.mono hww)
  have hww13 : w.heap.size ≤ w13.heap.size := Nat.le_trans hww hb13.size
  have S3 := Lib.hid (SndAt.fresh (r := j0) ho13)
  have SA0c := SA.out.c0
  have SA1c := SA.out.c1
  have SAlc := SA.out.lt
  have S10c := S1.out.c0
  have S11c := S1.out.c1
  have S1lc := S1.out.lt
  have S20c := S2.out.c0
  have S21c := S2.out.c1
  have S2lc := S2.out.lt
  clear hbw hww ho13 hb13
  go_wp2_with fail
  clear SA0c SA1c SAlc S10c S11c S1lc S20c S21c S2lc
  replace SA := Lib.hid (SA.out.below ((Below.refl _ w13).alloc (Nat.le_refl _) (.cells #[.int .i64 j0, .slice A13 j1.length c13] 24)) (Nat.le_succ _))
  replace S1 := Lib.hid (S1.out.below ((Below.refl _ w13).alloc (Nat.le_refl _) (.cells #[.int .i64 j0, .slice A13 j1.length c13] 24)) (Nat.le_succ _))
  replace S2 := Lib.hid (S2.out.below ((Below.refl _ w13).alloc (Nat.le_refl _) (.cells #[.int .i64 j0, .slice A13 j1.length c13] 24)) (Nat.le_succ _))
  have hbw : Below w.heap.size w (w13.alloc (.cells #[.int .i64 j0, .slice A13 j1.length c13] 24)) := hbw13.alloc hww13 _
  obtain ⟨X13, hX⟩ : ∃ X, X = w13.alloc (.cells #[.int .i64 j0, .slice A13 j1.length c13] 24) := ⟨_, rfl⟩
  have hXs : X13.heap.size = w13.heap.size + 1 := by rw [hX]; simp
  obtain ⟨g13, hg⟩ : ∃ g, g = w13.heap.size := ⟨_, rfl⟩
  rw [← hX] at SA S1 S2 S3 hbw ⊢
  rw [Nat.succ_eq_add_one, ← hXs] at SA S1 S2
  rw [← hXs] at S3
  rw [← hg] at S3 ⊢
  have hww : w.heap.size ≤ X13.heap.size := by omega
  clear hX hg hXs hbw13 hww13
  refine (RREVERSED_any r A n c xss _ X13.heap.size (Nat.le_refl _) SA.out.rows).mono ?_
  rw [HJ.out]
  rintro e w14 ⟨v14, rfl, ho14, hb14⟩
  obtain ⟨A14, c14, rfl, _, _⟩ := ho14.form
  dsimp only at ho14 ⊢
  replace SA := Lib.hid (SA.out.below hb14 hb14.size)
  replace S1 := Lib.hid (S1.out.below hb14 hb14.size)
  replace S2 := Lib.hid (S2.out.below hb14 hb14.size)
  replace S3 := Lib.hid (S3.out.below hb14 hb14.size)
  have hbw14 := hbw.trans (hb14.mono hww)
  have hww14 : w.heap.size ≤ w14.heap.size := Nat.le_trans hww hb14.size
  have S4 := Lib.hid (SndAt.fresh (r := j0) ho14)
  have SA0c := SA.out.c0
  have SA1c := SA.out.c1
  have SAlc := SA.out.lt
  have S10c := S1.out.c0
  have S11c := S1.out.c1
  have S1lc := S1.out.lt
  have S20c := S2.out.c0
  have S21c := S2.out.c1
  have S2lc := S2.out.lt
  have S30c := S3.out.c0
  have S31c := S3.out.c1
  have S3lc := S3.out.lt
  clear hbw hww ho14 hb14
  go_wp2_with fail
  clear SA0c SA1c SAlc S10c S11c S1lc S20c S21c S2lc S30c S31c S3lc
  replace SA := Lib.hid (SA.out.below ((Below.refl _ w14).alloc (Nat.le_refl _) (.cells #[.int .i64 j0, .slice A14 j1.length c14] 24)) (Nat.le_succ _))
  replace S1 := Lib.hid (S1.out.below ((Below.refl _ w14).alloc (Nat.le_refl _) (.cells #[.int .i64 j0, .slice A14 j1.length c14] 24)) (Nat.le_succ _))
  replace S2 := Lib.hid (S2.out.below ((Below.refl _ w14).alloc (Nat.le_refl _) (.cells #[.int .i64 j0, .slice A14 j1.length c14] 24)) (Nat.le_succ _))
  replace S3 := Lib.hid (S3.out.below ((Below.refl _ w14).alloc (Nat.le_refl _) (.cells #[.int .i64 j0, .slice A14 j1.length c14] 24)) (Nat.le_succ _))
  have hbw : Below w.heap.size w (w14.alloc (.cells #[.int .i64 j0, .slice A14 j1.length c14] 24)) := hbw14.alloc hww14 _
  obtain ⟨X14, hX⟩ : ∃ X, X = w14.alloc (.cells #[.int .i64 j0, .slice A14 j1.length c14] 24) := ⟨_, rfl⟩
  have hXs : X14.heap.size = w14.heap.size + 1 := by rw [hX]; simp
  obtain ⟨g14, hg⟩ : ∃ g, g = w14.heap.size := ⟨_, rfl⟩
  rw [← hX] at SA S1 S2 S3 S4 hbw ⊢
  rw [Nat.succ_eq_add_one, ← hXs] at SA S1 S2 S3
  rw [← hXs] at S4
  rw [← hg] at S4 ⊢
  have hww : w.heap.size ≤ X14.heap.size := by omega
  clear hX hg hXs hbw14 hww14
  have hst : sameS z0 z1 z0 z1 = true := by simp [sameS]
  have hst2 : sameS j0 j1 j0 j1 = true := by simp [sameS]
  have hn1 : (chkS r xss != chkS r xss) = false := by simp
  have hn2 : (z2 != z2) = false := by simp
  have hn3 : (j2 != j2) = false := by simp
  have SA0c := SA.out.c0
  have SA1c := SA.out.c1
  have SAlc := SA.out.lt
  have S10c := S1.out.c0
  have S11c := S1.out.c1
  have S1lc := S1.out.lt
  have S20c := S2.out.c0
  have S21c := S2.out.c1
  have S2lc := S2.out.lt
  have S30c := S3.out.c0
  have S31c := S3.out.c1
  have S3lc := S3.out.lt
  have S40c := S4.out.c0
  have S41c := S4.out.c1
  have S4lc := S4.out.lt
  have hS : Below X14.heap.size X14 X14.drew ∧ (∀ z : Addr, z.block < X14.heap.size → X14.drew.cell? z = X14.cell? z) := ⟨(Below.refl _ _).drew, fun _ _ => rfl⟩
  refine wp_region_head 26 (fun w' => Below X14.heap.size X14 w' ∧ (∀ z : Addr, z.block < X14.heap.size → w'.cell? z = X14.cell? z)) (by kernel_rfl) (by kernel_rfl) ?_
  refine HL.take (i := 0) (oi := _) (v := ?_) rfl (by kernel_rfl) (by kernel_rfl) (by decide) (fun _ _ _ h => h) (Or.inl ⟨by rfl, ?_⟩) hS ?_
  rotate_left
  · intro wz hwz
    try dsimp only at hwz
    go_simp
    try with_reducible rfl
  simp only [Act.put, List.setIfInBounds_toArray, List.set_cons_zero, List.set_cons_succ]
  refine HL.take (i := 2) (oi := _) (v := ?_) rfl (by kernel_rfl) (by kernel_rfl) (by decide) (fun _ _ _ h => h) (Or.inl ⟨by rfl, ?_⟩) hS ?_
  rotate_left
  · intro wz hwz
    try dsimp only at hwz
    go_simp
    try with_reducible rfl
  simp only [Act.put, List.setIfInBounds_toArray, List.set_cons_zero, List.set_cons_succ]
  refine HL.one (i := 1) (o := _) rfl (by kernel_rfl) (by decide) (by rfl) ?_
  intro K hK
  go_simp
  with_reducible refine (CHECK_any r A n c xss _ X14.heap.size hS.1.size (SA.out.rows.below hS.1 (Nat.le_refl _))).mono ?_
  first | rw [hst] | rw [hst2] | skip
  rintro e w6 ⟨rfl, hb6⟩
  have hS' := hS
  clear hS
  have hbS := Below.next hS'.1 (Nat.le_refl _) hb6
  have hS : Below X14.heap.size X14 w6 ∧ (∀ z : Addr, z.block < X14.heap.size → w6.cell? z = X14.cell? z) := ⟨hbS, pcell hbS⟩
  refine hK.out _ _ hS ?_
  try simp only [Act.put, List.setIfInBounds_toArray, List.set_cons_zero, List.set_cons_succ]
  clear hK K hS' hbS hb6
  refine HL.one (i := 3) (o := _) rfl (by kernel_rfl) (by decide) (by rfl) ?_
  intro K hK
  go_simp
  with_reducible refine (RCHECK_any r A n c xss _ X14.heap.size hS.1.size (SA.out.rows.below hS.1 (Nat.le_refl _))).mono ?_
  first | rw [hst] | rw [hst2] | skip
  rintro e w6 ⟨rfl, hb6⟩
  have hS' := hS
  clear hS
  have hbS := Below.next hS'.1 (Nat.le_refl _) hb6
  have hS : Below X14.heap.size X14 w6 ∧ (∀ z : Addr, z.block < X14.heap.size → w6.cell? z = X14.cell? z) := ⟨hbS, pcell hbS⟩
  refine hK.out _ _ hS ?_
  try simp only [Act.put, List.setIfInBounds_toArray, List.set_cons_zero, List.set_cons_succ]
  clear hK K hS' hbS hb6
  refine HL.take (i := 4) (oi := _) (v := .bool false) rfl (by kernel_rfl) (by kernel_rfl) (by decide) (fun _ _ _ h => h) (Or.inl ⟨by rfl, ?_⟩) hS ?_
  · intro wz hwz
    try dsimp only at hwz
    go_simp
    first | done | exact hn1 | simp only [hn1]
  simp only [Act.put, List.setIfInBounds_toArray, List.set_cons_zero, List.set_cons_succ]
  refine HL.take (i := 5) (oi := _) (v := ?_) rfl (by kernel_rfl) (by kernel_rfl) (by decide) (fun _ _ _ h => h) (Or.inl ⟨by rfl, ?_⟩) hS ?_
  rotate_left
  · intro wz hwz
    try dsimp only at hwz
    go_simp
    try with_reducible rfl
  simp only [Act.put, List.setIfInBounds_toArray, List.set_cons_zero, List.set_cons_succ]
  refine HL.take (i := 6) (oi := _) (v := ?_) rfl (by kernel_rfl) (by kernel_rfl) (by decide) (fun _ _ _ h => h) (Or.inl ⟨by rfl, ?_⟩) hS ?_
  rotate_left
  · intro wz hwz
    try dsimp only at hwz
    go_simp
    try with_reducible rfl
  simp only [Act.put, List.setIfInBounds_toArray, List.set_cons_zero, List.set_cons_succ]
  refine HL.take (i := 7) (oi := _) (v := ?_) rfl (by kernel_rfl) (by kernel_rfl) (by decide) (fun _ _ _ h => h) (Or.inl ⟨by rfl, ?_⟩) hS ?_
  rotate_left
  · intro wz hwz
    try dsimp only at hwz
    go_simp
    try with_reducible rfl
  simp only [Act.put, List.setIfInBounds_toArray, List.set_cons_zero, List.set_cons_succ]
  refine HL.one (i := 8) (o := _) rfl (by kernel_rfl) (by decide) (by rfl) ?_
  intro K hK
  go_simp
  with_reducible refine (SAME_any _ _ _ _ _ _ _ _ z1 z1 _ X14.heap.size hS.1.size (S1.out.rows.below hS.1 (Nat.le_refl _)) (S2.out.rows.below hS.1 (Nat.le_refl _))).mono ?_
  first | rw [hst] | rw [hst2] | skip
  rintro e w6 ⟨rfl, hb6⟩
  have hS' := hS
  clear hS
  have hbS := Below.next hS'.1 (Nat.le_refl _) hb6
  have hS : Below X14.heap.size X14 w6 ∧ (∀ z : Addr, z.block < X14.heap.size → w6.cell? z = X14.cell? z) := ⟨hbS, pcell hbS⟩
  refine hK.out _ _ hS ?_
  try simp only [Act.put, List.setIfInBounds_toArray, List.set_cons_zero, List.set_cons_succ]
  clear hK K hS' hbS hb6
  refine HL.take (i := 9) (oi := _) (v := ?_) rfl (by kernel_rfl) (by kernel_rfl) (by decide) (fun _ _ _ h => h) (Or.inl ⟨by rfl, ?_⟩) hS ?_
  rotate_left
  · intro wz hwz
    try dsimp only at hwz
    go_simp
    try with_reducible rfl
  simp only [Act.put, List.setIfInBounds_toArray, List.set_cons_zero, List.set_cons_succ]
  refine HL.take (i := 10) (oi := _) (v := ?_) rfl (by kernel_rfl) (by kernel_rfl) (by decide) (fun _ _ _ h => h) (Or.inl ⟨by rfl, ?_⟩) hS ?_
  rotate_left
  · intro wz hwz
    try dsimp only at hwz
    go_simp
    try with_reducible rfl
  simp only [Act.put, List.setIfInBounds_toArray, List.set_cons_zero, List.set_cons_succ]
  refine HL.take (i := 11) (oi := _) (v := ?_) rfl (by kernel_rfl) (by kernel_rfl) (by decide) (fun _ _ _ h => h) (Or.inl ⟨by rfl, ?_⟩) hS ?_
  rotate_left
  · intro wz hwz
    try dsimp only at hwz
    go_simp
    try with_reducible rfl
  simp only [Act.put, List.setIfInBounds_toArray, List.set_cons_zero, List.set_cons_succ]
  go_simp
  refine HL.take (i := 12) (oi := _) (v := ?_) rfl (by kernel_rfl) (by kernel_rfl) (by decide) (fun _ _ _ h => h) (Or.inl ⟨by rfl, ?_⟩) hS ?_
  rotate_left
  · intro wz hwz
    try dsimp only at hwz
    go_simp
    try with_reducible rfl
  simp only [Act.put, List.setIfInBounds_toArray, List.set_cons_zero, List.set_cons_succ]
  refine HL.take (i := 13) (oi := _) (v := ?_) rfl (by kernel_rfl) (by kernel_rfl) (by decide) (fun _ _ _ h => h) (Or.inl ⟨by rfl, ?_⟩) hS ?_
  rotate_left
  · intro wz hwz
    try dsimp only at hwz
    go_simp
    try with_reducible rfl
  simp only [Act.put, List.setIfInBounds_toArray, List.set_cons_zero, List.set_cons_succ]
  refine HL.take (i := 14) (oi := _) (v := .bool false) rfl (by kernel_rfl) (by kernel_rfl) (by decide) (fun _ _ _ h => h) (Or.inl ⟨by rfl, ?_⟩) hS ?_
  · intro wz hwz
    try dsimp only at hwz
    go_simp
    first | done | exact hn2 | simp only [hn2]
  simp only [Act.put, List.setIfInBounds_toArray, List.set_cons_zero, List.set_cons_succ]
  refine HL.take (i := 15) (oi := _) (v := ?_) rfl (by kernel_rfl) (by kernel_rfl) (by decide) (fun _ _ _ h => h) (Or.inl ⟨by rfl, ?_⟩) hS ?_
  rotate_left
  · intro wz hwz
    try dsimp only at hwz
    go_simp
    try with_reducible rfl
  simp only [Act.put, List.setIfInBounds_toArray, List.set_cons_zero, List.set_cons_succ]
  refine HL.take (i := 16) (oi := _) (v := ?_) rfl (by kernel_rfl) (by kernel_rfl) (by decide) (fun _ _ _ h => h) (Or.inl ⟨by rfl, ?_⟩) hS ?_
  rotate_left
  · intro wz hwz
    try dsimp only at hwz
    go_simp
    try with_reducible rfl
  simp only [Act.put, List.setIfInBounds_toArray, List.set_cons_zero, List.set_cons_succ]
  go_simp
  refine HL.take (i := 17) (oi := _) (v := ?_) rfl (by kernel_rfl) (by kernel_rfl) (by decide) (fun _ _ _ h => h) (Or.inl ⟨by rfl, ?_⟩) hS ?_
  rotate_left
  · intro wz hwz
    try dsimp only at hwz
    go_simp
    try with_reducible rfl
  simp only [Act.put, List.setIfInBounds_toArray, List.set_cons_zero, List.set_cons_succ]
  refine HL.take (i := 18) (oi := _) (v := ?_) rfl (by kernel_rfl) (by kernel_rfl) (by decide) (fun _ _ _ h => h) (Or.inl ⟨by rfl, ?_⟩) hS ?_
  rotate_left
  · intro wz hwz
    try dsimp only at hwz
    go_simp
    try with_reducible rfl
  simp only [Act.put, List.setIfInBounds_toArray, List.set_cons_zero, List.set_cons_succ]
  refine HL.one (i := 19) (o := _) rfl (by kernel_rfl) (by decide) (by rfl) ?_
  intro K hK
  go_simp
  with_reducible refine (SAME_any _ _ _ _ _ _ _ _ j1 j1 _ X14.heap.size hS.1.size (S3.out.rows.below hS.1 (Nat.le_refl _)) (S4.out.rows.below hS.1 (Nat.le_refl _))).mono ?_
  first | rw [hst] | rw [hst2] | skip
  rintro e w6 ⟨rfl, hb6⟩
  have hS' := hS
  clear hS
  have hbS := Below.next hS'.1 (Nat.le_refl _) hb6
  have hS : Below X14.heap.size X14 w6 ∧ (∀ z : Addr, z.block < X14.heap.size → w6.cell? z = X14.cell? z) := ⟨hbS, pcell hbS⟩
  refine hK.out _ _ hS ?_
  try simp only [Act.put, List.setIfInBounds_toArray, List.set_cons_zero, List.set_cons_succ]
  clear hK K hS' hbS hb6
  refine HL.take (i := 20) (oi := _) (v := ?_) rfl (by kernel_rfl) (by kernel_rfl) (by decide) (fun _ _ _ h => h) (Or.inl ⟨by rfl, ?_⟩) hS ?_
  rotate_left
  · intro wz hwz
    try dsimp only at hwz
    go_simp
    try with_reducible rfl
  simp only [Act.put, List.setIfInBounds_toArray, List.set_cons_zero, List.set_cons_succ]
  refine HL.take (i := 21) (oi := _) (v := ?_) rfl (by kernel_rfl) (by kernel_rfl) (by decide) (fun _ _ _ h => h) (Or.inl ⟨by rfl, ?_⟩) hS ?_
  rotate_left
  · intro wz hwz
    try dsimp only at hwz
    go_simp
    try with_reducible rfl
  simp only [Act.put, List.setIfInBounds_toArray, List.set_cons_zero, List.set_cons_succ]
  refine HL.take (i := 22) (oi := _) (v := ?_) rfl (by kernel_rfl) (by kernel_rfl) (by decide) (fun _ _ _ h => h) (Or.inl ⟨by rfl, ?_⟩) hS ?_
  rotate_left
  · intro wz hwz
    try dsimp only at hwz
    go_simp
    try with_reducible rfl
  simp only [Act.put, List.setIfInBounds_toArray, List.set_cons_zero, List.set_cons_succ]
  go_simp
  refine HL.take (i := 23) (oi := _) (v := ?_) rfl (by kernel_rfl) (by kernel_rfl) (by decide) (fun _ _ _ h => h) (Or.inl ⟨by rfl, ?_⟩) hS ?_
  rotate_left
  · intro wz hwz
    try dsimp only at hwz
    go_simp
    try with_reducible rfl
  simp only [Act.put, List.setIfInBounds_toArray, List.set_cons_zero, List.set_cons_succ]
  refine HL.take (i := 24) (oi := _) (v := ?_) rfl (by kernel_rfl) (by kernel_rfl) (by decide) (fun _ _ _ h => h) (Or.inl ⟨by rfl, ?_⟩) hS ?_
  rotate_left
  · intro wz hwz
    try dsimp only at hwz
    go_simp
    try with_reducible rfl
  simp only [Act.put, List.setIfInBounds_toArray, List.set_cons_zero, List.set_cons_succ]
  refine HL.take (i := 25) (oi := _) (v := .bool false) rfl (by kernel_rfl) (by kernel_rfl) (by decide) (fun _ _ _ h => h) (Or.inl ⟨by rfl, ?_⟩) hS ?_
  · intro wz hwz
    try dsimp only at hwz
    go_simp
    first | done | exact hn3 | simp only [hn3]
  simp only [Act.put, List.setIfInBounds_toArray, List.set_cons_zero, List.set_cons_succ]
  refine HL.done (by kernel_rfl) ?_
  try simp only [List.drop_succ_cons, List.drop_zero]
  try go_simp
  clear SA0c SA1c SAlc S10c S11c S1lc S20c S21c S2lc S30c S31c S3lc S40c S41c S4lc
  replace hbw := hbw.trans (hS.1.mono hww)
  replace hww : w.heap.size ≤ w6.heap.size := Nat.le_trans hww hS.1.size
  replace SA := Lib.hid (SA.out.below hS.1 hS.1.size)
  have SA0c := SA.out.c0
  have SA1c := SA.out.c1
  have SAlc := SA.out.lt
  clear S1 S2 S3 S4 hS
  go_wp2_with fail
  clear SA0c SA1c SAlc
  refine (PEAK_any r A n c xss _ w6.heap.size (Nat.le_refl _) SA.out.rows).mono ?_
  rintro e w21 ⟨rfl, hb21⟩
  replace SA := Lib.hid (SA.out.below hb21 hb21.size)
  replace hbw := hbw.trans (hb21.mono hww)
  replace hww : w.heap.size ≤ w21.heap.size := Nat.le_trans hww hb21.size
  clear hb21
  have SA0c := SA.out.c0
  have SA1c := SA.out.c1
  have SAlc := SA.out.lt
  go_wp2_with fail
  clear SA0c SA1c SAlc
  refine (RPEAK_any r A n c xss _ w21.heap.size (Nat.le_refl _) SA.out.rows).mono ?_
  rintro e w22 ⟨rfl, hb22⟩
  replace SA := Lib.hid (SA.out.below hb22 hb22.size)
  replace hbw := hbw.trans (hb22.mono hww)
  replace hww : w.heap.size ≤ w22.heap.size := Nat.le_trans hww hb22.size
  clear hb22
  have SA0c := SA.out.c0
  have SA1c := SA.out.c1
  have SAlc := SA.out.lt
  go_wp2_with fail
  clear SA0c SA1c SAlc
  refine (DIGEST_any r A n c xss _ w22.heap.size (Nat.le_refl _) SA.out.rows).mono ?_
  rintro e w23 ⟨rfl, hb23⟩
  replace SA := Lib.hid (SA.out.below hb23 hb23.size)
  replace hbw := hbw.trans (hb23.mono hww)
  replace hww : w.heap.size ≤ w23.heap.size := Nat.le_trans hww hb23.size
  clear hb23
  have SA0c := SA.out.c0
  have SA1c := SA.out.c1
  have SAlc := SA.out.lt
  go_wp2_with fail
  clear SA0c SA1c SAlc
  refine (RDIGEST_any r A n c xss _ w23.heap.size (Nat.le_refl _) SA.out.rows).mono ?_
  rintro e w24 ⟨rfl, hb24⟩
  replace SA := Lib.hid (SA.out.below hb24 hb24.size)
  replace hbw := hbw.trans (hb24.mono hww)
  replace hww : w.heap.size ≤ w24.heap.size := Nat.le_trans hww hb24.size
  clear hb24
  have SA0c := SA.out.c0
  have SA1c := SA.out.c1
  have SAlc := SA.out.lt
  go_wp2_with fail
  clear SA0c SA1c SAlc
  refine (AWAKE_any _).mono ?_
  rintro e w27 ⟨rfl, hb27⟩
  go_wp2_with fail
  go_ret
  exact ⟨rfl, hbw.trans (hb27.mono hww)⟩
section
open Go.ChangeShapes Go.WideShapes Go.ChangeAt
theorem lawChecks_rd : ∀ t ∈ Try.f10.params.toList, Try.prog.readableRec t = true ∧ t < Try.prog.types.size := by
  rw [Try.params10]
  intro t ht
  simp only [List.mem_cons, List.not_mem_nil, or_false] at ht
  rcases ht with rfl | rfl | rfl | rfl
  · exact rd_SND
  · exact rd_INT
  · exact rd_INT
  · exact rd_INT
set_option maxRecDepth 100000 in
theorem lawChecks_lifted (os : Os) (started : os.Started) (H : Type) (enc : TypeId × Value → H) :
    ReturnsInHanded {} Try.checked os 10 .any (Rows.soundChecksMatchSpecSpec.pre6 enc Try.prog Try.f10 Rows.soundChecksMatchSpecRow.domain false) (Rows.soundChecksMatchSpecSpec.post enc Try.prog Try.f10 false true false false) := by
  refine returnsInHanded_of_change (C := Try.checked) own started (by kernel_rfl) Try.func10
    (ChangeSpec.witness6 (enc := enc) (C := Try.checked) false ⟨#[], #[.agg #[.int .i64 0, .slice none 0 0], .int .i64 0, .int .i64 0, .int .i64 0], []⟩ 8 (by kernel_rfl) (by kernel_rfl) (by kernel_rfl) (by kernel_rfl)) ?_
  intro W base args ds gs before hval0 hW _ _
  have hval : ∀ (j : Nat) t v, Try.f10.params[j]? = some t → args[j]? = some v → Value.okWide Try.prog W .any base t v := hval0
  have hW' := hW
  obtain ⟨p, q, hA0, hV, rfl, _, _⟩ := hW
  have hA : DataW.TrodAll enc Try.prog W 0 (fun _ => true) true Try.f10.params.toList args.toList ds p := hA0
  rw [Try.params10] at hA hval
  obtain ⟨v0, v1, v2, v3, d0, d1, d2, d3, p0, p1, p2, p3, rfl, rfl, rfl, h0, h1, h2, h3⟩ := trodAll_four hA
  obtain ⟨rfl, rfl⟩ := trodVars_none hV
  obtain ⟨r0, A0, n0, c0, xss0, rfl, _, _, _, hr0⟩ := open_snd (hval 0 24 v0 rfl rfl) h0
  obtain ⟨a1, rfl, rfl, rfl, hw1⟩ := open_int Try.underlying3 (hval 1 3 v1 rfl rfl) h1
  obtain ⟨a2, rfl, rfl, rfl, hw2⟩ := open_int Try.underlying3 (hval 2 3 v2 rfl rfl) h2
  obtain ⟨a3, rfl, rfl, rfl, hw3⟩ := open_int Try.underlying3 (hval 3 3 v3 rfl rfl) h3
  clear hA0 hval0
  refine (lawChecks_walk r0 A0 n0 c0 a1 a2 a3 xss0 W hr0).mono fun e W' ⟨he, hb⟩ => ?_
  subst he
  exact ⟨_, rfl, law_post rfl (by kernel_rfl) lawChecks_rd hW' rfl hb⟩
end
end Go.Proofs.Ytpnbkkpbgpcgiaa
