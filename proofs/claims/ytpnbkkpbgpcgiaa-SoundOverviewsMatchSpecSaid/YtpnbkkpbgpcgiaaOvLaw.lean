/- The law OverviewsCoarsen, walked and lifted. -/
import Derived.Test.YtpnbkkpbgpcgiaaSpecCo
import Derived.Test.YtpnbkkpbgpcgiaaSpecC
import Derived.Test.YtpnbkkpbgpcgiaaSnd
import Derived.Test.YtpnbkkpbgpcgiaaPeak
import Derived.Test.YtpnbkkpbgpcgiaaLift
set_option linter.unusedSimpArgs false
set_option linter.unusedVariables false
namespace Go.Proofs.Ytpnbkkpbgpcgiaa
open Go.RowKit Go.Dw
theorem ovS_cases (r : Int) (xss : List (List Int)) (t b : Int) : (∃ f, f ≠ 0 ∧ ovS r xss t b = ([], f)) ∨ (OkS r xss ∧ ¬ (t < 0 ∨ (xss.length : Int) ≤ t ∨ b < 1 ∨ 100000 < b) ∧ ovS r xss t b = (ovK b.toNat (rowOf xss t.toNat) (len0 xss), 0)) := by
  unfold ovS
  by_cases hc : chkS r xss = 0
  · rw [if_neg (by simp [hc])]
    by_cases hb : t < 0 ∨ (xss.length : Int) ≤ t ∨ b < 1 ∨ 100000 < b
    · rw [if_pos hb]; exact .inl ⟨1, by omega, rfl⟩
    · rw [if_neg hb]; exact .inr ⟨chkS_ok hc, hb, rfl⟩
  · rw [if_pos hc]; exact .inl ⟨_, hc, rfl⟩
theorem own_nil0 {w : World} {base : Nat} {A : Option Addr} {n c : Nat} (h : OwnBns w base (.slice A n c) []) : n = 0 := by
  obtain ⟨A', c', e, _, _⟩ := own_form h
  injection e
theorem own_len {w : World} {base : Nat} {A : Option Addr} {n c : Nat} {bs : List Bn} (h : OwnBns w base (.slice A n c) bs) : n = bs.length ∧ n ≤ c ∧ c ≤ maxLen := by
  obtain ⟨A', c', e, h1, h2⟩ := own_form h
  injection e with e1 e2 e3
  subst e1 e2 e3
  exact ⟨rfl, h1, h2⟩
theorem ovK_small {r : Int} {xss : List (List Int)} {b t : Nat} (hok : OkS r xss) : (ovK b (rowOf xss t) (len0 xss)).length ≤ 5864062014634 := by
  have := ovK_le (b := b) (row := rowOf xss t) (i := len0 xss)
  have := hok.long
  omega
set_option maxRecDepth 100000 in
set_option maxHeartbeats 4000000 in
theorem lawOvC_walk (r : Int) (A : Option Addr) (n c : Nat) (t b q : Int) (xss : List (List Int)) (w : World) (hh : Hid (RowsAt w w.heap.size A n xss)) :
    Calls Try.prog 9 #[.agg #[.int .i64 r, .slice A n c], .int .i64 t, .int .i64 b, .int .i64 q] w fun e w' => e = .returned (.bool true) ∧ Below w.heap.size w w' := by
  go_enter Try.func9, Try.ntmps9
  go_wp2_with fail
  refine calls_later (w.heap.size + 1) ?_
  intro W hW hsW
  obtain ⟨hcW, hfW⟩ := bcell hW
  simp only [World.size_alloc] at hsW
  have hbw : Below w.heap.size w W := ((Below.refl _ w).alloc (Nat.le_refl _) _).trans (hW.mono (by omega))
  have hww : w.heap.size ≤ W.heap.size := by omega
  have SA : Hid (SndAt W W.heap.size w.heap.size r A n c xss) :=
    ⟨by omega, by rw [hcW _ _ (by omega)]; simp [go_sem], by rw [hcW _ _ (by omega)]; simp [go_sem], (hh.out.below hbw (Nat.le_refl _)).mono (by omega), by rw [hfW _ _ (by omega)]; simp [go_sem], by rw [hfW _ _ (by omega)]; simp [go_sem]⟩
  clear hcW hfW hW hsW
  obtain ⟨ga, hga⟩ : ∃ ga, ga = w.heap.size := ⟨_, rfl⟩
  rw [← hga] at SA ⊢
  clear hga
  refine (OVERVIEW_any r A n c t b xss _ W.heap.size (Nat.le_refl _) SA.out.rows).mono ?_
  rintro e w1 ⟨v1, rfl, ho1, hb1⟩
  obtain ⟨A1, c1, rfl, hc1a, hc1b⟩ := own_form ho1
  replace SA := Lib.hid (SA.out.below hb1 hb1.size)
  replace hbw := hbw.trans (hb1.mono hww)
  replace hww : w.heap.size ≤ w1.heap.size := Nat.le_trans hww hb1.size
  clear hb1
  rcases ovS_cases r xss t b with ⟨f, hf, hE⟩ | ⟨hok, hin, hE⟩
  · rw [hE] at ho1 hc1a ⊢
    dsimp only [List.length_nil] at ho1 hc1a ⊢
    have hq : (f != 0) = true := by simpa using hf
    have hq2 : (f == 0) = false := by simpa using hf
    obtain ⟨Z, hZ⟩ : ∃ Z, coS [] q = Z := ⟨_, rfl⟩
    obtain ⟨zl, zg⟩ := Z
    clear hf
    go_wp2_with fail
    refine (COARSER_any A1 0 c1 q [] (by omega) ⟨fun c hc => by cases hc⟩ _ w1.heap.size (Nat.le_refl _) ⟨Nat.zero_le _, hc1b⟩ (BnsAt.nil _ _ _)).mono ?_
    rw [hZ]
    rintro e w2 ⟨v2, rfl, ho2, hb2⟩
    obtain ⟨A2, c2, rfl, -, -⟩ := own_form ho2
    replace hbw := hbw.trans (hb2.mono hww)
    replace hww : w.heap.size ≤ w2.heap.size := Nat.le_trans hww hb2.size
    clear ho2 hb2
    go_wp2_with fail
    refine (AWAKE_any _).mono ?_
    rintro e w3 ⟨rfl, hb3⟩
    go_wp2_with fail
    go_ret
    exact ⟨rfl, hbw.trans (hb3.mono hww)⟩
  · obtain ⟨t', rfl⟩ := Int.eq_ofNat_of_zero_le (show 0 ≤ t by omega)
    obtain ⟨b', rfl⟩ := Int.eq_ofNat_of_zero_le (show 0 ≤ b by omega)
    rw [hE] at ho1 hc1a ⊢
    rw [Int.toNat_natCast, Int.toNat_natCast] at ho1 hc1a ⊢
    dsimp only at ho1 hc1a ⊢
    have ht : t' < xss.length := by omega
    have hb1 : 0 < b' := by omega
    have hok' := Lib.hid hok
    have HO1 := Lib.hid ho1
    have HL := ovK_small (b := b') (t := t') hok
    have HR := Lib.hid ho1.at_
    have HKL := Lib.hid (ovK_okL (b := b') hok ht)
    have HCO := Lib.hid (fun h => coS_ov (q := q) hok ht hb1 h)
    obtain ⟨L, hL⟩ : ∃ L, ovK b' (rowOf xss t') (len0 xss) = L := ⟨_, rfl⟩
    rw [hL] at HO1 HL HR HKL HCO hc1a ⊢
    clear ho1 hL hok hE
    by_cases hqb : q < 1 ∨ 100000 < q
    · have hZ : coS L q = ([], 1) := by unfold coS; rw [if_pos hqb]
      go_wp2_with fail
      refine (COARSER_any A1 L.length c1 q L HL HKL.out _ w1.heap.size (Nat.le_refl _) ⟨hc1a, hc1b⟩ HR.out).mono ?_
      rw [hZ]
      rintro e w2 ⟨v2, rfl, ho2, hb2⟩
      obtain ⟨A2, c2, rfl, -, -⟩ := own_form ho2
      replace hbw := hbw.trans (hb2.mono hww)
      replace hww : w.heap.size ≤ w2.heap.size := Nat.le_trans hww hb2.size
      clear ho2 hb2
      go_wp2_with fail
      refine (AWAKE_any _).mono ?_
      rintro e w3 ⟨rfl, hb3⟩
      go_wp2_with fail
      go_ret
      exact ⟨rfl, hbw.trans (hb3.mono hww)⟩
    · have hZ := HCO.out hqb
      obtain ⟨q', rfl⟩ := Int.eq_ofNat_of_zero_le (show 0 ≤ q by omega)
      rw [Int.toNat_natCast] at hZ
      have hbq : b' * q' ≤ 100000 * 100000 := Nat.mul_le_mul (by omega) (by omega)
      have hcast : (b' : Int) * (q' : Int) = ((b' * q' : Nat) : Int) := (Int.natCast_mul b' q').symm
      have hwr : IntKind.i64.wrap ((b' : Int) * (q' : Int)) = ((b' * q' : Nat) : Int) := by rw [hcast]; exact IntWalk.i64_in _ (by omega)
      obtain ⟨p, hp⟩ : ∃ p, b' * q' = p := ⟨_, rfl⟩
      rw [hp] at hZ hwr hbq
      have hp1 : 1 ≤ p := by rw [← hp]; exact Nat.mul_pos hb1 (by omega)
      have HWR := Lib.hid hwr
      clear hcast hp
      go_wp2_with fail
      refine (COARSER_any A1 L.length c1 q' L HL HKL.out _ w1.heap.size (Nat.le_refl _) ⟨hc1a, hc1b⟩ HR.out).mono ?_
      rw [hZ]
      rintro e w2 ⟨v2, rfl, ho2, hb2⟩
      obtain ⟨A2, c2, rfl, hc2a, hc2b⟩ := own_form ho2
      replace hbw := hbw.trans (hb2.mono hww)
      replace hww : w.heap.size ≤ w2.heap.size := Nat.le_trans hww hb2.size
      replace SA := Lib.hid (SA.out.below hb2 hb2.size)
      dsimp only at ho2 hc2a ⊢
      have HR2 := Lib.hid ho2.at_
      have HL2 := ovK_small (b := p) (t := t') hok'.out
      obtain ⟨C, hC⟩ : ∃ C, ovK p (rowOf xss t') (len0 xss) = C := ⟨_, rfl⟩
      have HC := Lib.hid hC
      rw [hC] at hc2a HR2 HL2 ⊢
      clear ho2 hb2 hC hZ
      by_cases hbig : 100000 < p
      · have hbI : (100000 : Int) < (p : Int) := by omega
        go_wp2_with fail
        refine (AWAKE_any _).mono ?_
        rintro e w3 ⟨rfl, hb3⟩
        go_wp2_with fail
        go_ret
        exact ⟨rfl, hbw.trans (hb3.mono hww)⟩
      · have hbI : ¬ (100000 : Int) < (p : Int) := by omega
        have SA0c := SA.out.c0
        have SA1c := SA.out.c1
        have SAlc := SA.out.lt
        go_wp2_with fail
        clear SA0c SA1c SAlc
        have hE2 : ovS r xss (t' : Int) (p : Int) = (C, 0) := by
          unfold ovS
          rw [if_neg (by rw [chkS_mk hok'.out]; simp), if_neg (by omega), Int.toNat_natCast, Int.toNat_natCast, HC.out]
        refine (OVERVIEW_any r A n c (t' : Int) (p : Int) xss _ w2.heap.size (Nat.le_refl _) SA.out.rows).mono ?_
        rw [hE2]
        rintro e w3 ⟨v3, rfl, ho3, hb3⟩
        obtain ⟨A3, c3, rfl, hc3a, hc3b⟩ := own_form ho3
        replace hbw := hbw.trans (hb3.mono hww)
        replace hww : w.heap.size ≤ w3.heap.size := Nat.le_trans hww hb3.size
        dsimp only at ho3 hc3a ⊢
        have HR3 := Lib.hid ho3.at_
        have HR4 := Lib.hid ((HR2.out.below hb3 (Nat.le_refl _)).mono hb3.size)
        clear ho3 hb3 hE2
        go_wp2_with fail
        refine (EQBINS_same A2 A3 C.length c2 c3 C HL2 _ w3.heap.size (Nat.le_refl _) ⟨hc2a, hc2b⟩ ⟨hc3a, hc3b⟩ HR4 HR3).mono ?_
        rintro e w4 ⟨rfl, hb4⟩
        replace hbw := hbw.trans (hb4.mono hww)
        replace hww : w.heap.size ≤ w4.heap.size := Nat.le_trans hww hb4.size
        clear hb4
        go_wp2_with fail
        refine (AWAKE_any _).mono ?_
        rintro e w5 ⟨rfl, hb5⟩
        go_wp2_with fail
        go_ret
        exact ⟨rfl, hbw.trans (hb5.mono hww)⟩
section
open Go.ChangeShapes Go.WideShapes Go.ChangeAt
theorem lawOvC_rd : ∀ t ∈ Try.f9.params.toList, Try.prog.readableRec t = true ∧ t < Try.prog.types.size := by
  rw [Try.params9]
  intro t ht
  simp only [List.mem_cons, List.not_mem_nil, or_false] at ht
  rcases ht with rfl | rfl | rfl | rfl
  · exact rd_SND
  · exact rd_INT
  · exact rd_INT
  · exact rd_INT
set_option maxRecDepth 100000 in
theorem lawOvC_lifted (os : Os) (started : os.Started) (H : Type) (enc : TypeId × Value → H) :
    ReturnsInHanded {} Try.checked os 9 .any (Rows.soundOverviewsCoarsenSpec.pre6 enc Try.prog Try.f9 Rows.soundOverviewsCoarsenRow.domain false) (Rows.soundOverviewsCoarsenSpec.post enc Try.prog Try.f9 false true false false) := by
  refine returnsInHanded_of_change (C := Try.checked) own started (by kernel_rfl) Try.func9
    (ChangeSpec.witness6 (enc := enc) (C := Try.checked) false ⟨#[], #[.agg #[.int .i64 0, .slice none 0 0], .int .i64 0, .int .i64 0, .int .i64 0], []⟩ 8 (by kernel_rfl) (by kernel_rfl) (by kernel_rfl) (by kernel_rfl)) ?_
  intro W base args ds gs before hval0 hW _ _
  have hval : ∀ (j : Nat) t v, Try.f9.params[j]? = some t → args[j]? = some v → Value.okWide Try.prog W .any base t v := hval0
  have hW' := hW
  obtain ⟨p, q, hA0, hV, rfl, _, _⟩ := hW
  have hA : DataW.TrodAll enc Try.prog W 0 (fun _ => true) true Try.f9.params.toList args.toList ds p := hA0
  rw [Try.params9] at hA hval
  obtain ⟨v0, v1, v2, v3, d0, d1, d2, d3, p0, p1, p2, p3, rfl, rfl, rfl, h0, h1, h2, h3⟩ := trodAll_four hA
  obtain ⟨rfl, rfl⟩ := trodVars_none hV
  obtain ⟨r0, A0, n0, c0, xss0, rfl, _, _, _, hr0⟩ := open_snd (hval 0 24 v0 rfl rfl) h0
  obtain ⟨a1, rfl, rfl, rfl, hw1⟩ := open_int Try.underlying3 (hval 1 3 v1 rfl rfl) h1
  obtain ⟨a2, rfl, rfl, rfl, hw2⟩ := open_int Try.underlying3 (hval 2 3 v2 rfl rfl) h2
  obtain ⟨a3, rfl, rfl, rfl, hw3⟩ := open_int Try.underlying3 (hval 3 3 v3 rfl rfl) h3
  clear hA0 hval0
  refine (lawOvC_walk r0 A0 n0 c0 a1 a2 a3 xss0 W hr0).mono fun e W' ⟨he, hb⟩ => ?_
  subst he
  exact ⟨_, rfl, law_post rfl (by kernel_rfl) lawOvC_rd hW' rfl hb⟩
end
end Go.Proofs.Ytpnbkkpbgpcgiaa
