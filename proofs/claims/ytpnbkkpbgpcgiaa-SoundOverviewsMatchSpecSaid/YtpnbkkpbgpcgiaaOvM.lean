/- The law OverviewsMatchSpec, walked and lifted. -/
import Derived.Test.YtpnbkkpbgpcgiaaCo3
import Derived.Test.YtpnbkkpbgpcgiaaOv2
import Derived.Test.YtpnbkkpbgpcgiaaOvLaw
import Derived.Test.YtpnbkkpbgpcgiaaLift2
set_option linter.unusedSimpArgs false
set_option linter.unusedVariables false
namespace Go.Proofs.Ytpnbkkpbgpcgiaa
open Go.RowKit Go.Dw
theorem coK_len {q : Nat} {l : List Bn} : ∀ {j : Nat} {acc : List Bn}, coK q l j = some acc → acc.length ≤ j
  | 0, acc, h => by injection h with h; subst h; exact Nat.le_refl _
  | j + 1, acc, h => by
    change (coK q l j).bind _ = some acc at h
    cases h1 : coK q l j with
    | none => rw [h1] at h; cases h
    | some a =>
      rw [h1] at h
      have ih := coK_len h1
      change coStep q a j (bnOf l j) = some acc at h
      unfold coStep at h
      split at h
      · injection h with h; subst h; simp; omega
      · split at h
        · cases h
        · injection h with h; subst h; simp; omega
theorem coS_len (l : List Bn) (q : Int) : (coS l q).1.length ≤ l.length := by
  unfold coS
  split
  · simp
  · split
    · simp
    · split
      · simp
      · rename_i h; exact coK_len h
theorem ovS_len (r : Int) (xss : List (List Int)) (t b : Int) : (ovS r xss t b).1.length ≤ 5864062014634 := by
  rcases ovS_cases r xss t b with ⟨f, _, hE⟩ | ⟨hok, _, hE⟩
  · rw [hE]; simp
  · rw [hE]; exact ovK_small hok
set_option maxHeartbeats 800000 in
theorem RCOARSER_bad (A : Option Addr) (n c : Nat) (q : Int) (hq : q < 1 ∨ 100000 < q) (w : World) :
    Calls Try.prog 31 #[.slice A n c, .int .i64 q] w fun e w' => e = .returned (.tuple #[.slice none 0 0, .int .i64 1]) ∧ Below w.heap.size w w' := by
  by_cases h1 : q < 1
  · have d1 : decide (q < 1) = true := by simpa using h1
    clear hq h1
    go_enter Try.func31, Try.ntmps31
    go_wp2_with fail
    go_ret2
    exact ⟨rfl, Below.refl _ _⟩
  · have d1 : decide (q < 1) = false := by simpa using h1
    have d2 : decide (100000 < q) = true := by simp; omega
    clear hq h1
    go_enter Try.func31, Try.ntmps31
    go_wp2_with fail
    go_ret2
    exact ⟨rfl, Below.refl _ _⟩
theorem RCOARSER_any (A : Option Addr) (n c : Nat) (q : Int) (l : List Bn) (hn9 : n ≤ 5864062014634) (hlr : OkL l) (w : World) (B : Nat) (hB : B ≤ w.heap.size) (hc9 : n ≤ c ∧ c ≤ maxLen) (hh : BnsAt w B A n l) :
    Calls Try.prog 31 #[.slice A n c, .int .i64 q] w fun e w' => ∃ v, e = .returned (.tuple #[v, .int .i64 (coS l q).2]) ∧ OwnBns w' w.heap.size v (coS l q).1 ∧ Below w.heap.size w w' := by
  unfold coS
  by_cases hq : q < 1 ∨ 100000 < q
  · rw [if_pos hq]
    exact (RCOARSER_bad A n c q hq w).mono fun e w' ⟨h1, h2⟩ => ⟨_, h1, World.ownsRow_nil _ _ _ _, h2⟩
  · rw [if_neg hq]
    obtain ⟨q', rfl⟩ := Int.eq_ofNat_of_zero_le (show 0 ≤ q by omega)
    refine (RCOARSER_ok A n c q' l (by omega) (by omega) hn9 hlr w B hB hc9 hh).mono fun e w' ⟨v, f, res, h1, h2, h3, h4⟩ => ?_
    rw [Int.toNat_natCast]
    rcases h4 with ⟨a1, a2, a3⟩ | ⟨a1, a2, a3, a4⟩ | ⟨a1, a2, a3⟩
    · rw [if_pos a1]; subst a2 a3; exact ⟨v, h1, h2, h3⟩
    · rw [if_neg (by simp [a1]), a2]; subst a3 a4; exact ⟨v, h1, h2, h3⟩
    · rw [if_neg (by simp [a1]), a2]; subst a3; exact ⟨v, h1, h2, h3⟩
set_option maxRecDepth 100000 in
set_option maxHeartbeats 4000000 in
theorem lawOv_walk (r : Int) (A : Option Addr) (n c : Nat) (t b : Int) (A' : Option Addr) (n' c' : Nat) (q : Int) (xss : List (List Int)) (l : List Bn) (w : World) (hh : Hid (RowsAt w w.heap.size A n xss)) (hc9 : n' ≤ c' ∧ c' ≤ maxLen) (hl : Hid (BnsAt w w.heap.size A' n' l)) (hr : Hid (OkL l)) (hz : n' ≤ 5864062014634) :
    Calls Try.prog 8 #[.agg #[.int .i64 r, .slice A n c], .int .i64 t, .int .i64 b, .slice A' n' c', .int .i64 q] w fun e w' => e = .returned (.bool true) ∧ Below w.heap.size w w' := by
  have HC9 := Lib.hid hc9
  have hlen := Lib.hid hl.out.1
  clear hc9
  go_enter Try.func8, Try.ntmps8
  go_wp2_with fail
  refine calls_later (w.heap.size + 1) ?_
  intro W hW hsW
  obtain ⟨hcW, hfW⟩ := bcell hW
  simp only [World.size_alloc] at hsW
  have hbw : Below w.heap.size w W := ((Below.refl _ w).alloc (Nat.le_refl _) _).trans (hW.mono (by omega))
  have hww : w.heap.size ≤ W.heap.size := by omega
  have SA : Hid (SndAt W W.heap.size w.heap.size r A n c xss) :=
    ⟨by omega, by rw [hcW _ _ (by omega)]; simp [go_sem], by rw [hcW _ _ (by omega)]; simp [go_sem], (hh.out.below hbw (Nat.le_refl _)).mono (by omega), by rw [hfW _ _ (by omega)]; simp [go_sem], by rw [hfW _ _ (by omega)]; simp [go_sem]⟩
  have HB : Hid (BnsAt W W.heap.size A' n' l) := (hl.out.below hbw (Nat.le_refl _)).mono hww
  clear hcW hfW hW hsW
  obtain ⟨ga, hga⟩ : ∃ ga, ga = w.heap.size := ⟨_, rfl⟩
  rw [← hga] at SA ⊢
  clear hga
  refine (OVERVIEW_any r A n c t b xss _ W.heap.size (Nat.le_refl _) SA.out.rows).mono ?_
  obtain ⟨Z, hZ⟩ : ∃ Z, ovS r xss t b = Z := ⟨_, rfl⟩
  have HZ := Lib.hid hZ
  have hzl := ovS_len r xss t b
  rw [hZ] at hzl ⊢
  obtain ⟨zl, zf⟩ := Z
  clear hZ
  rintro e w1 ⟨v1, rfl, ho1, hb1⟩
  obtain ⟨A1, c1, rfl, hc1a, hc1b⟩ := own_form ho1
  replace SA := Lib.hid (SA.out.below hb1 hb1.size)
  replace HB := Lib.hid ((HB.out.below hb1 (Nat.le_refl _)).mono hb1.size)
  replace hbw := hbw.trans (hb1.mono hww)
  replace hww : w.heap.size ≤ w1.heap.size := Nat.le_trans hww hb1.size
  dsimp only at ho1 hc1a hzl ⊢
  have R1 := Lib.hid ho1.at_
  have HC1 := Lib.hid (And.intro hc1a hc1b)
  have SA0c := SA.out.c0
  have SA1c := SA.out.c1
  have SAlc := SA.out.lt
  clear hb1 ho1 hc1a hc1b
  go_wp2_with fail
  clear SA0c SA1c SAlc
  refine (ROVERVIEW_any r A n c t b xss _ w1.heap.size (Nat.le_refl _) SA.out.rows).mono ?_
  rw [HZ.out]
  rintro e w2 ⟨v2, rfl, ho2, hb2⟩
  obtain ⟨A2, c2, rfl, hc2a, hc2b⟩ := own_form ho2
  replace HB := Lib.hid ((HB.out.below hb2 (Nat.le_refl _)).mono hb2.size)
  replace R1 := Lib.hid ((R1.out.below hb2 (Nat.le_refl _)).mono hb2.size)
  replace hbw := hbw.trans (hb2.mono hww)
  replace hww : w.heap.size ≤ w2.heap.size := Nat.le_trans hww hb2.size
  dsimp only at ho2 hc2a ⊢
  have R2 := Lib.hid ho2.at_
  have HC2 := Lib.hid (And.intro hc2a hc2b)
  clear hb2 ho2 hc2a hc2b SA HZ
  go_wp2_with fail
  refine (COARSER_any A' n' c' q l hz hr.out _ w2.heap.size (Nat.le_refl _) HC9.out HB.out).mono ?_
  obtain ⟨Y, hY⟩ : ∃ Y, coS l q = Y := ⟨_, rfl⟩
  have HY := Lib.hid hY
  have hyl := coS_len l q
  rw [hlen.out] at hyl
  rw [hY] at hyl ⊢
  obtain ⟨yl, yf⟩ := Y
  clear hY
  rintro e w3 ⟨v3, rfl, ho3, hb3⟩
  obtain ⟨A3, c3, rfl, hc3a, hc3b⟩ := own_form ho3
  replace HB := Lib.hid ((HB.out.below hb3 (Nat.le_refl _)).mono hb3.size)
  replace R1 := Lib.hid ((R1.out.below hb3 (Nat.le_refl _)).mono hb3.size)
  replace R2 := Lib.hid ((R2.out.below hb3 (Nat.le_refl _)).mono hb3.size)
  replace hbw := hbw.trans (hb3.mono hww)
  replace hww : w.heap.size ≤ w3.heap.size := Nat.le_trans hww hb3.size
  dsimp only at ho3 hc3a hyl ⊢
  have R3 := Lib.hid ho3.at_
  have HC3 := Lib.hid (And.intro hc3a hc3b)
  have hyz : yl.length ≤ 5864062014634 := by omega
  clear hb3 ho3 hc3a hc3b hyl
  go_wp2_with fail
  refine (RCOARSER_any A' n' c' q l hz hr.out _ w3.heap.size (Nat.le_refl _) HC9.out HB.out).mono ?_
  rw [HY.out]
  rintro e w4 ⟨v4, rfl, ho4, hb4⟩
  obtain ⟨A4, c4, rfl, hc4a, hc4b⟩ := own_form ho4
  replace R1 := Lib.hid ((R1.out.below hb4 (Nat.le_refl _)).mono hb4.size)
  replace R2 := Lib.hid ((R2.out.below hb4 (Nat.le_refl _)).mono hb4.size)
  replace R3 := Lib.hid ((R3.out.below hb4 (Nat.le_refl _)).mono hb4.size)
  replace hbw := hbw.trans (hb4.mono hww)
  replace hww : w.heap.size ≤ w4.heap.size := Nat.le_trans hww hb4.size
  dsimp only at ho4 hc4a ⊢
  have R4 := Lib.hid ho4.at_
  have HC4 := Lib.hid (And.intro hc4a hc4b)
  clear hb4 ho4 hc4a hc4b HB HY
  go_wp2_with fail
  refine (EQBINS_same A1 A2 zl.length c1 c2 zl hzl _ w4.heap.size (Nat.le_refl _) HC1.out HC2.out R1 R2).mono ?_
  rintro e w5 ⟨rfl, hb5⟩
  replace R3 := Lib.hid ((R3.out.below hb5 (Nat.le_refl _)).mono hb5.size)
  replace R4 := Lib.hid ((R4.out.below hb5 (Nat.le_refl _)).mono hb5.size)
  replace hbw := hbw.trans (hb5.mono hww)
  replace hww : w.heap.size ≤ w5.heap.size := Nat.le_trans hww hb5.size
  clear hb5 R1 R2
  go_wp2_with fail
  refine (EQBINS_same A3 A4 yl.length c3 c4 yl hyz _ w5.heap.size (Nat.le_refl _) HC3.out HC4.out R3 R4).mono ?_
  rintro e w6 ⟨rfl, hb6⟩
  replace hbw := hbw.trans (hb6.mono hww)
  replace hww : w.heap.size ≤ w6.heap.size := Nat.le_trans hww hb6.size
  clear hb6 R3 R4
  go_wp2_with fail
  refine (AWAKE_any _).mono ?_
  rintro e w7 ⟨rfl, hb7⟩
  go_wp2_with fail
  go_ret
  exact ⟨rfl, hbw.trans (hb7.mono hww)⟩
section
open Go.ChangeShapes Go.WideShapes Go.ChangeAt
theorem lawOv_rd : ∀ t ∈ Try.f8.params.toList, Try.prog.readableRec t = true ∧ t < Try.prog.types.size := by
  rw [Try.params8]
  intro t ht
  simp only [List.mem_cons, List.not_mem_nil, or_false] at ht
  rcases ht with rfl | rfl | rfl | rfl | rfl
  · exact rd_SND
  · exact rd_INT
  · exact rd_INT
  · exact rd_BINS
  · exact rd_INT
set_option maxRecDepth 100000 in
theorem lawOv_lifted (os : Os) (started : os.Started) (H : Type) (enc : TypeId × Value → H) :
    ReturnsInHanded {} Try.checked os 8 .any (Rows.soundOverviewsMatchSpecSpec.pre6 enc Try.prog Try.f8 Rows.soundOverviewsMatchSpecRow.domain false) (Rows.soundOverviewsMatchSpecSpec.post enc Try.prog Try.f8 false true false false) := by
  refine returnsInHanded_of_change_sized (C := Try.checked) own started (by kernel_rfl) Try.func8
    (ChangeSpec.witness6 (enc := enc) (C := Try.checked) false ⟨#[], #[.agg #[.int .i64 0, .slice none 0 0], .int .i64 0, .int .i64 0, .slice none 0 0, .int .i64 0], []⟩ 8 (by kernel_rfl) (by kernel_rfl) (by kernel_rfl) (by kernel_rfl)) ?_
  intro W base args ds gs before hval0 hW _ hsz0 _
  have hsz : (DataW.weightsEach Try.prog (Try.f8.params.toList ++ Rows.soundOverviewsMatchSpecSpec.plain.varTypes Try.prog) (ds ++ gs)).all (· ≤ reachBytes) = true := hsz0
  clear hsz0
  have hval : ∀ (j : Nat) t v, Try.f8.params[j]? = some t → args[j]? = some v → Value.okWide Try.prog W .any base t v := hval0
  have hW' := hW
  obtain ⟨p, q, hA0, hV, rfl, _, _⟩ := hW
  have hA : DataW.TrodAll enc Try.prog W 0 (fun _ => true) true Try.f8.params.toList args.toList ds p := hA0
  rw [Try.params8] at hA hval hsz
  obtain ⟨v0, v1, v2, v3, v4, d0, d1, d2, d3, d4, p0, p1, p2, p3, p4, rfl, rfl, rfl, h0, h1, h2, h3, h4⟩ := trodAll_five hA
  obtain ⟨rfl, rfl⟩ := trodVars_none hV
  obtain ⟨r0, A0, n0, c0, xss0, rfl, _, _, _, hr0⟩ := open_snd (hval 0 24 v0 rfl rfl) h0
  obtain ⟨a1, rfl, rfl, rfl, hw1⟩ := open_int Try.underlying3 (hval 1 3 v1 rfl rfl) h1
  obtain ⟨a2, rfl, rfl, rfl, hw2⟩ := open_int Try.underlying3 (hval 2 3 v2 rfl rfl) h2
  obtain ⟨A3, n3, c3, xs3, rfl, hl3, hm3, hr3, hx3, hd3⟩ := open_bins (hval 3 40 v3 rfl rfl) h3
  have hz3 : n3 ≤ 5864062014634 := by
    rcases hd3 with ⟨_, h0⟩ | ⟨es, sp, e1, e2⟩
    · omega
    · subst e1
      have := sized_slice hsz (j := 3) (t := 40) (e := 46) rfl rfl Try.underlying40
      rw [show Try.prog.bytesOf 46 = 24 by kernel_rfl] at this
      simp only [reachBytes] at this
      omega
  obtain ⟨a4, rfl, rfl, rfl, hw4⟩ := open_int Try.underlying3 (hval 4 3 v4 rfl rfl) h4
  clear hA0 hval0
  refine (lawOv_walk r0 A0 n0 c0 a1 a2 A3 n3 c3 a4 xss0 xs3 W hr0 ⟨hl3, hm3⟩ hr3 ⟨hx3⟩ hz3).mono fun e W' ⟨he, hb⟩ => ?_
  subst he
  exact ⟨_, rfl, law_post rfl (by kernel_rfl) lawOv_rd hW' rfl hb⟩
end
end Go.Proofs.Ytpnbkkpbgpcgiaa
