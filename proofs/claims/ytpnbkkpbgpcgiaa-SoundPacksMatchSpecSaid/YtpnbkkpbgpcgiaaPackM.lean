/- The law PacksMatchSpec, walked and lifted. -/
import Derived.Test.YtpnbkkpbgpcgiaaPackB
import Derived.Test.YtpnbkkpbgpcgiaaPack2
import Derived.Test.YtpnbkkpbgpcgiaaPlaced2
set_option linter.unusedSimpArgs false
set_option linter.unusedVariables false
namespace Go.Proofs.Ytpnbkkpbgpcgiaa
open Go.RowKit Go.Dw
theorem placed_small (b : By) : (placedS b).1.1.length ≤ 1000 ∧ ∀ c ∈ (placedS b).1.1, c.2.length ≤ 9223372036854775807 := by
  obtain ⟨Z, hZ⟩ : ∃ Z, placedS b = Z := ⟨_, rfl⟩
  obtain ⟨⟨m, ps⟩, z, g⟩ := Z
  by_cases hg : g = 0
  · subst hg
    obtain ⟨_, _, h3, h4⟩ := placed_back hZ
    rw [hZ]
    exact ⟨h3, fun c hc => Nat.le_trans (h4 c hc) (by decide)⟩
  · rw [placed_err (by rw [hZ]; exact hg)]
    exact ⟨by simp, fun c hc => by cases hc⟩
set_option maxRecDepth 100000 in
set_option maxHeartbeats 4000000 in
theorem lawPM_walk (A : Option Addr) (n c : Nat) (l : List Ck) (A' : Option Addr) (n' c' : Nat) (b : By) (w : World) (hc : n ≤ c ∧ c ≤ maxLen) (hc' : n' ≤ c' ∧ c' ≤ maxLen) (hd : Hid (∀ c ∈ l, c.2.length ≤ 140737488351232)) (hh : Hid (CksAt w w.heap.size A n l)) (hh' : Hid (BysAt w w.heap.size A' n' b)) :
    Calls Try.prog 13 #[.slice A n c, .slice A' n' c'] w fun e w' => e = .returned (.bool true) ∧ Below w.heap.size w w' := by
  have HC := Lib.hid hc
  have HC9 := Lib.hid hc'
  clear hc hc'
  go_enter Try.func13, Try.ntmps13
  go_wp2_with fail
  refine (PACK_any A n c l hd HC.out _ w.heap.size (Nat.le_refl _) hh).mono ?_
  obtain ⟨Z, hZ⟩ : ∃ Z, packS l = Z := ⟨_, rfl⟩
  have HZ := Lib.hid hZ
  have hxl := packS_len (l := l)
  rw [hZ] at hxl ⊢
  obtain ⟨x, f⟩ := Z
  clear hZ
  rintro e w1 ⟨v1, rfl, ho1, hb1⟩
  obtain ⟨A1, c1, rfl, hc1a, hc1b⟩ := ho1.form
  dsimp only at ho1 hxl hc1a ⊢
  have HX := Lib.hid ho1.at_
  have HB : Hid (BysAt w1 w1.heap.size A' n' b) := (hh'.out.below hb1 (Nat.le_refl _)).mono hb1.size
  have HL : Hid (CksAt w1 w1.heap.size A n l) := (hh.out.below hb1 (Nat.le_refl _)).mono hb1.size
  have hbw : Below w.heap.size w w1 := hb1
  have hww : w.heap.size ≤ w1.heap.size := hb1.size
  have hx63 : x.length ≤ 9223372036854775807 := Nat.le_trans hxl (by decide)
  clear ho1 hb1 hc1a hc1b hxl
  go_wp2_with fail
  refine (RPACK_any A n c l hd HC.out _ w1.heap.size (Nat.le_refl _) HL).mono ?_
  rw [HZ.out]
  rintro e w2 ⟨v2, rfl, ho2, hb2⟩
  obtain ⟨A2, c2, rfl, hc2a, hc2b⟩ := ho2.form
  dsimp only at ho2 hc2a ⊢
  have HX2 := Lib.hid ho2.at_
  replace HX := Lib.hid ((HX.out.below hb2 (Nat.le_refl _)).mono hb2.size)
  replace HB := Lib.hid ((HB.out.below hb2 (Nat.le_refl _)).mono hb2.size)
  replace hbw := hbw.trans (hb2.mono hww)
  replace hww : w.heap.size ≤ w2.heap.size := Nat.le_trans hww hb2.size
  clear ho2 hb2 hc2a hc2b HZ HL
  go_wp2_with fail
  obtain ⟨hs1, hs2⟩ := placed_small b
  have HS2 := Lib.hid hs2
  refine (CHUNKS_any A' n' c' b HC9.out _ w2.heap.size (Nat.le_refl _) HB).mono ?_
  obtain ⟨Y, hY⟩ : ∃ Y, placedS b = Y := ⟨_, rfl⟩
  have HY := Lib.hid hY
  rw [hY] at hs1 HS2 ⊢
  obtain ⟨⟨m, ps⟩, z, g⟩ := Y
  clear hY hs2
  rintro e w3 ⟨A3, c3, rfl, ho3, hb3⟩
  dsimp only at ho3 hs1 HS2 ⊢
  have HM3 := Lib.hid ho3.at_
  replace HX := Lib.hid ((HX.out.below hb3 (Nat.le_refl _)).mono hb3.size)
  replace HX2 := Lib.hid ((HX2.out.below hb3 (Nat.le_refl _)).mono hb3.size)
  replace HB := Lib.hid ((HB.out.below hb3 (Nat.le_refl _)).mono hb3.size)
  replace hbw := hbw.trans (hb3.mono hww)
  replace hww : w.heap.size ≤ w3.heap.size := Nat.le_trans hww hb3.size
  have hm9 : m.length ≤ 1000000000 := Nat.le_trans hs1 (by decide)
  clear ho3 hb3 hs1
  go_wp2_with fail
  refine (RCHUNKS_any A' n' c' b HC9.out _ w3.heap.size (Nat.le_refl _) HB).mono ?_
  rw [HY.out]
  rintro e w4 ⟨A4, c4, rfl, ho4, hb4⟩
  dsimp only at ho4 ⊢
  have HM4 := Lib.hid ho4.at_
  replace HX := Lib.hid ((HX.out.below hb4 (Nat.le_refl _)).mono hb4.size)
  replace HX2 := Lib.hid ((HX2.out.below hb4 (Nat.le_refl _)).mono hb4.size)
  replace HM3 := Lib.hid ((HM3.out.below hb4 (Nat.le_refl _)).mono hb4.size)
  replace hbw := hbw.trans (hb4.mono hww)
  replace hww : w.heap.size ≤ w4.heap.size := Nat.le_trans hww hb4.size
  clear ho4 hb4 HB HY
  go_wp2_with fail
  refine (EQBYTES_same A1 A2 x.length c1 c2 x _ w4.heap.size hx63 HX HX2).mono ?_
  rintro e w5 ⟨rfl, q5, h5⟩
  have hb5 : Below w4.heap.size w4 w5 := by rw [h5]; exact belowN (Below.refl _ _) _
  replace HM3 := Lib.hid ((HM3.out.below hb5 (Nat.le_refl _)).mono hb5.size)
  replace HM4 := Lib.hid ((HM4.out.below hb5 (Nat.le_refl _)).mono hb5.size)
  replace hbw := hbw.trans (hb5.mono hww)
  replace hww : w.heap.size ≤ w5.heap.size := Nat.le_trans hww hb5.size
  clear h5 hb5 HX HX2
  go_wp2_with fail
  refine (SAMECH_same A3 A4 m.length c3 c4 m hm9 HS2 _ w5.heap.size (Nat.le_refl _) HM3 HM4).mono ?_
  rintro e w6 ⟨rfl, hb6⟩
  replace hbw := hbw.trans (hb6.mono hww)
  replace hww : w.heap.size ≤ w6.heap.size := Nat.le_trans hww hb6.size
  clear hb6 HM3 HM4
  go_wp2_with fail
  refine (AWAKE_any _).mono ?_
  rintro e w7 ⟨rfl, hb7⟩
  go_wp2_with fail
  go_ret
  exact ⟨rfl, hbw.trans (hb7.mono hww)⟩
section
open Go.ChangeShapes Go.WideShapes Go.ChangeAt
theorem lawPM_rd : ∀ t ∈ Try.f13.params.toList, Try.prog.readableRec t = true ∧ t < Try.prog.types.size := by
  rw [Try.params13]
  intro t ht
  simp only [List.mem_cons, List.not_mem_nil, or_false] at ht
  rcases ht with rfl | rfl
  · exact rd_CHUNKS
  · exact rd_BYTES
set_option maxRecDepth 100000 in
theorem lawPM_lifted (os : Os) (started : os.Started) (H : Type) (enc : TypeId × Value → H) :
    ReturnsInHanded {} Try.checked os 13 .any (Rows.soundPacksMatchSpecSpec.pre6 enc Try.prog Try.f13 Rows.soundPacksMatchSpecRow.domain false) (Rows.soundPacksMatchSpecSpec.post enc Try.prog Try.f13 false true false false) := by
  refine returnsInHanded_of_change_sized (C := Try.checked) own started (by kernel_rfl) Try.func13
    (ChangeSpec.witness6 (enc := enc) (C := Try.checked) false ⟨#[], #[.slice none 0 0, .slice none 0 0], []⟩ 8 (by kernel_rfl) (by kernel_rfl) (by kernel_rfl) (by kernel_rfl)) ?_
  intro W base args ds gs before hval0 hW _ hsz0 _
  have hsz : (DataW.weightsEach Try.prog (Try.f13.params.toList ++ Rows.soundPacksMatchSpecSpec.plain.varTypes Try.prog) (ds ++ gs)).all (· ≤ reachBytes) = true := hsz0
  clear hsz0
  have hval : ∀ (j : Nat) t v, Try.f13.params[j]? = some t → args[j]? = some v → Value.okWide Try.prog W .any base t v := hval0
  have hW' := hW
  obtain ⟨p, q, hA0, hV, rfl, _, _⟩ := hW
  have hA : DataW.TrodAll enc Try.prog W 0 (fun _ => true) true Try.f13.params.toList args.toList ds p := hA0
  rw [Try.params13] at hA hval hsz
  obtain ⟨v0, v1, d0, d1, p0, p1, rfl, rfl, rfl, h0, h1⟩ := trodAll_two hA
  obtain ⟨rfl, rfl⟩ := trodVars_none hV
  obtain ⟨A0, n0, c0, xs0, rfl, hl0, hm0, hr0, hx0, hd0⟩ := open_chunks (hval 0 58 v0 rfl rfl) h0
  have hz0 : n0 ≤ 3518437208780 := by
    rcases hd0 with ⟨_, h0⟩ | ⟨es, sp, e1, e2⟩
    · omega
    · subst e1
      have := sized_slice hsz (j := 0) (t := 58) (e := 86) rfl rfl Try.underlying58
      rw [show Try.prog.bytesOf 86 = 40 by kernel_rfl] at this
      simp only [reachBytes] at this
      omega
  have hy0 : ∀ c ∈ xs0, c.2.length ≤ 140737488351232 := fun x hx => by
    obtain ⟨k, hk⟩ := hx0 x hx
    rcases hk with ⟨g1, g2⟩ | g2
    · have := List.all_eq_true.1 hsz _ (DataW.weights_mem_each (j := 0) (t := 58) rfl rfl _ g1)
      have h9 : k ≤ reachBytes := by simpa using this
      simp only [reachBytes] at h9
      omega
    · omega
  obtain ⟨A1, n1, c1, xs1, rfl, hl1, hm1, hr1, hx1, hd1⟩ := open_bytes (hval 1 59 v1 rfl rfl) h1
  have hz1 : n1 ≤ 140737488351232 := by
    rcases hd1 with ⟨_, h0⟩ | ⟨es, sp, e1, e2⟩
    · omega
    · subst e1
      have := sized_slice hsz (j := 1) (t := 59) (e := 5) rfl rfl Try.underlying59
      rw [show Try.prog.bytesOf 5 = 1 by kernel_rfl] at this
      simp only [reachBytes] at this
      omega
  clear hA0 hval0
  refine (lawPM_walk A0 n0 c0 xs0 A1 n1 c1 xs1 W ⟨hl0, hm0⟩ ⟨hl1, hm1⟩ hy0 hr0 hr1).mono fun e W' ⟨he, hb⟩ => ?_
  subst he
  exact ⟨_, rfl, law_post rfl (by kernel_rfl) lawPM_rd hW' rfl hb⟩
end
end Go.Proofs.Ytpnbkkpbgpcgiaa
