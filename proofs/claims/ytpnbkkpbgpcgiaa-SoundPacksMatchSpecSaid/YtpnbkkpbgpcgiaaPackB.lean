/- The law PacksComeBack, walked and lifted. -/
import Derived.Test.YtpnbkkpbgpcgiaaLift3
import Derived.Test.YtpnbkkpbgpcgiaaPeak
import Derived.Test.YtpnbkkpbgpcgiaaPack1
set_option linter.unusedSimpArgs false
set_option linter.unusedVariables false
namespace Go.Proofs.Ytpnbkkpbgpcgiaa
open Go.RowKit Go.Dw
theorem packS_few {l : List Ck} {x : By} (h : packS l = (x, 0)) : l.length ≤ 1000 := by
  unfold packS at h
  split at h
  · cases h
  · omega
theorem packS_len {l : List Ck} : (packS l).1.length ≤ 8000000 := by
  unfold packS
  split
  · simp
  · split
    · simp
    · rename_i h
      split
      · simp
      · rw [packK_length (by simpa using h) (Nat.le_refl _)]; omega
set_option maxRecDepth 100000 in
set_option maxHeartbeats 4000000 in
theorem lawPB_walk (A : Option Addr) (n c : Nat) (l : List Ck) (A' : Option Addr) (n' c' : Nat) (b : By) (w : World) (hc : n ≤ c ∧ c ≤ maxLen) (hc' : n' ≤ c' ∧ c' ≤ maxLen) (hd : Hid (∀ c ∈ l, c.2.length ≤ 140737488351232)) (hh : Hid (CksAt w w.heap.size A n l)) (hh' : Hid (BysAt w w.heap.size A' n' b)) :
    Calls Try.prog 14 #[.slice A n c, .slice A' n' c'] w fun e w' => e = .returned (.bool true) ∧ Below w.heap.size w w' := by
  have HC := Lib.hid hc
  have HC9 := Lib.hid hc'
  have hl := Lib.hid hh.out.1
  clear hc hc'
  go_enter Try.func14, Try.ntmps14
  go_wp2_with fail
  refine (PACK_any A n c l hd HC.out _ w.heap.size (Nat.le_refl _) hh).mono ?_
  obtain ⟨Z, hZ⟩ : ∃ Z, packS l = Z := ⟨_, rfl⟩
  have HZ := Lib.hid hZ
  have hxl := packS_len (l := l)
  rw [hZ] at hxl ⊢
  obtain ⟨x, f⟩ := Z
  clear hZ
  rintro e w1 ⟨v1, rfl, ho1, hb1⟩
  obtain ⟨A1, c1, rfl, hc1a, hc1b⟩ := ho1.form
  dsimp only at ho1 hxl hc1a ⊢
  have HC1 := Lib.hid (And.intro hc1a hc1b)
  have HX := Lib.hid ho1.at_
  have HB : Hid (BysAt w1 w1.heap.size A' n' b) := (hh'.out.below hb1 (Nat.le_refl _)).mono hb1.size
  have HL : Hid (CksAt w1 w1.heap.size A n l) := (hh.out.below hb1 (Nat.le_refl _)).mono hb1.size
  have hbw : Below w.heap.size w w1 := hb1
  have hww : w.heap.size ≤ w1.heap.size := hb1.size
  clear ho1 hb1 hc1a hc1b
  by_cases hf : f = 0
  · subst hf
    obtain ⟨ps0, HPK⟩ := placed_pack HZ.out
    have HPK' := Lib.hid HPK
    have hl3 := packS_few HZ.out
    rw [hl.out] at hl3
    have HD := Lib.hid (fun c hc => Nat.le_trans (hd.out c hc) (show 140737488351232 ≤ 9223372036854775807 by decide))
    have hn9 : n ≤ 1000000000 := by omega
    clear HPK HZ hl3
    go_wp2_with fail
    refine (CHUNKS_any A1 x.length c1 x HC1.out _ w1.heap.size (Nat.le_refl _) HX).mono ?_
    rw [HPK'.out]
    rintro e w2 ⟨A2, c2, rfl, ho2, hb2⟩
    dsimp only at ho2 ⊢
    have HR2 := Lib.hid ho2.at_
    replace HB := Lib.hid ((HB.out.below hb2 (Nat.le_refl _)).mono hb2.size)
    replace HL := Lib.hid ((HL.out.below hb2 (Nat.le_refl _)).mono hb2.size)
    replace hbw := hbw.trans (hb2.mono hww)
    replace hww : w.heap.size ≤ w2.heap.size := Nat.le_trans hww hb2.size
    rw [hl.out] at HR2 ⊢
    clear ho2 hb2 HPK'
    go_wp2_with fail
    refine (SAMECH_same A A2 n c c2 l hn9 HD _ w2.heap.size (Nat.le_refl _) HL HR2).mono ?_
    rintro e w3 ⟨rfl, hb3⟩
    replace HB := Lib.hid ((HB.out.below hb3 (Nat.le_refl _)).mono hb3.size)
    replace hbw := hbw.trans (hb3.mono hww)
    replace hww : w.heap.size ≤ w3.heap.size := Nat.le_trans hww hb3.size
    clear hb3 HL HR2
    go_wp2_with fail
    refine (CHUNKS_any A' n' c' b HC9.out _ w3.heap.size (Nat.le_refl _) HB).mono ?_
    obtain ⟨Y, hY⟩ : ∃ Y, placedS b = Y := ⟨_, rfl⟩
    have HY := Lib.hid hY
    rw [hY]
    obtain ⟨⟨m, ps⟩, z, g⟩ := Y
    clear hY
    rintro e w5 ⟨A5, c5, rfl, ho5, hb5⟩
    dsimp only at ho5 ⊢
    have HO5 := Lib.hid ho5
    obtain ⟨_, _, e5, hc5a, hc5b⟩ := ho5.form
    injection e5 with e5a e5b e5c
    subst e5a e5c
    clear e5b ho5
    have HC5 := Lib.hid (And.intro hc5a hc5b)
    replace HB := Lib.hid ((HB.out.below hb5 (Nat.le_refl _)).mono hb5.size)
    replace hbw := hbw.trans (hb5.mono hww)
    replace hww : w.heap.size ≤ w5.heap.size := Nat.le_trans hww hb5.size
    clear hb5 hc5a hc5b
    by_cases hg : g = 0
    · subst hg
      obtain ⟨hp1, hp2, hp3, hp4⟩ := placed_back HY.out
      have HP1 := Lib.hid hp1
      have HM := Lib.hid (fun c hc => Nat.le_trans (hp4 c hc) (show 8000000 ≤ 140737488351232 by decide))
      have HR := Lib.hid HO5.out.at_
      have hblen := Lib.hid HB.out.1
      have hn63 : n' ≤ 9223372036854775807 := by have := hblen.out; omega
      clear hp1 hp2 hp3 hp4
      go_wp2_with fail
      refine (PACK_any A5 m.length c5 m HM HC5.out _ w5.heap.size (Nat.le_refl _) HR).mono ?_
      rw [HP1.out]
      rintro e w6 ⟨v6, rfl, ho6, hb6⟩
      obtain ⟨A6, c6, rfl, _, _⟩ := ho6.form
      dsimp only at ho6 ⊢
      replace HB := Lib.hid ((HB.out.below hb6 (Nat.le_refl _)).mono hb6.size)
      replace hbw := hbw.trans (hb6.mono hww)
      replace hww : w.heap.size ≤ w6.heap.size := Nat.le_trans hww hb6.size
      have HR6 := Lib.hid ho6.at_
      rw [hblen.out] at HR6 ⊢
      clear ho6 hb6
      go_wp2_with fail
      refine (EQBYTES_same A6 A' n' c6 c' b _ w6.heap.size hn63 HR6 HB).mono ?_
      rintro e w7 ⟨rfl, q7, h7⟩
      have hb7 : Below w6.heap.size w6 w7 := by rw [h7]; exact belowN (Below.refl _ _) _
      replace hbw := hbw.trans (hb7.mono hww)
      replace hww : w.heap.size ≤ w7.heap.size := Nat.le_trans hww hb7.size
      clear hb7 h7
      go_wp2_with fail
      refine (AWAKE_any _).mono ?_
      rintro e w8 ⟨rfl, hb8⟩
      go_wp2_with fail
      go_ret
      exact ⟨rfl, hbw.trans (hb8.mono hww)⟩
    · have hm := placed_err (b := b) (by rw [HY.out]; exact hg)
      rw [HY.out] at hm
      dsimp only at hm
      subst hm
      have hq : (g != 0) = true := by simpa using hg
      clear hg
      dsimp only [List.length_nil] at HO5 HC5 ⊢
      go_wp2_with fail
      refine (AWAKE_any _).mono ?_
      rintro e w8 ⟨rfl, hb8⟩
      go_wp2_with fail
      go_ret
      exact ⟨rfl, hbw.trans (hb8.mono hww)⟩
  · have hq : (f == 0) = false := by simpa using hf
    clear hf HZ
    go_wp2_with fail
    refine (CHUNKS_any A' n' c' b HC9.out _ w1.heap.size (Nat.le_refl _) HB).mono ?_
    obtain ⟨Y, hY⟩ : ∃ Y, placedS b = Y := ⟨_, rfl⟩
    have HY := Lib.hid hY
    rw [hY]
    obtain ⟨⟨m, ps⟩, z, g⟩ := Y
    clear hY
    rintro e w5 ⟨A5, c5, rfl, ho5, hb5⟩
    dsimp only at ho5 ⊢
    have HO5 := Lib.hid ho5
    obtain ⟨_, _, e5, hc5a, hc5b⟩ := ho5.form
    injection e5 with e5a e5b e5c
    subst e5a e5c
    clear e5b ho5
    have HC5 := Lib.hid (And.intro hc5a hc5b)
    replace HB := Lib.hid ((HB.out.below hb5 (Nat.le_refl _)).mono hb5.size)
    replace hbw := hbw.trans (hb5.mono hww)
    replace hww : w.heap.size ≤ w5.heap.size := Nat.le_trans hww hb5.size
    clear hb5 hc5a hc5b
    by_cases hg : g = 0
    · subst hg
      obtain ⟨hp1, hp2, hp3, hp4⟩ := placed_back HY.out
      have HP1 := Lib.hid hp1
      have HM := Lib.hid (fun c hc => Nat.le_trans (hp4 c hc) (show 8000000 ≤ 140737488351232 by decide))
      have HR := Lib.hid HO5.out.at_
      have hblen := Lib.hid HB.out.1
      have hn63 : n' ≤ 9223372036854775807 := by have := hblen.out; omega
      clear hp1 hp2 hp3 hp4
      go_wp2_with fail
      refine (PACK_any A5 m.length c5 m HM HC5.out _ w5.heap.size (Nat.le_refl _) HR).mono ?_
      rw [HP1.out]
      rintro e w6 ⟨v6, rfl, ho6, hb6⟩
      obtain ⟨A6, c6, rfl, _, _⟩ := ho6.form
      dsimp only at ho6 ⊢
      replace HB := Lib.hid ((HB.out.below hb6 (Nat.le_refl _)).mono hb6.size)
      replace hbw := hbw.trans (hb6.mono hww)
      replace hww : w.heap.size ≤ w6.heap.size := Nat.le_trans hww hb6.size
      have HR6 := Lib.hid ho6.at_
      rw [hblen.out] at HR6 ⊢
      clear ho6 hb6
      go_wp2_with fail
      refine (EQBYTES_same A6 A' n' c6 c' b _ w6.heap.size hn63 HR6 HB).mono ?_
      rintro e w7 ⟨rfl, q7, h7⟩
      have hb7 : Below w6.heap.size w6 w7 := by rw [h7]; exact belowN (Below.refl _ _) _
      replace hbw := hbw.trans (hb7.mono hww)
      replace hww : w.heap.size ≤ w7.heap.size := Nat.le_trans hww hb7.size
      clear hb7 h7
      go_wp2_with fail
      refine (AWAKE_any _).mono ?_
      rintro e w8 ⟨rfl, hb8⟩
      go_wp2_with fail
      go_ret
      exact ⟨rfl, hbw.trans (hb8.mono hww)⟩
    · have hm := placed_err (b := b) (by rw [HY.out]; exact hg)
      rw [HY.out] at hm
      dsimp only at hm
      subst hm
      have hq : (g != 0) = true := by simpa using hg
      clear hg
      dsimp only [List.length_nil] at HO5 HC5 ⊢
      go_wp2_with fail
      refine (AWAKE_any _).mono ?_
      rintro e w8 ⟨rfl, hb8⟩
      go_wp2_with fail
      go_ret
      exact ⟨rfl, hbw.trans (hb8.mono hww)⟩
section
open Go.ChangeShapes Go.WideShapes Go.ChangeAt
theorem lawPB_rd : ∀ t ∈ Try.f14.params.toList, Try.prog.readableRec t = true ∧ t < Try.prog.types.size := by
  rw [Try.params14]
  intro t ht
  simp only [List.mem_cons, List.not_mem_nil, or_false] at ht
  rcases ht with rfl | rfl
  · exact rd_CHUNKS
  · exact rd_BYTES
set_option maxRecDepth 100000 in
theorem lawPB_lifted (os : Os) (started : os.Started) (H : Type) (enc : TypeId × Value → H) :
    ReturnsInHanded {} Try.checked os 14 .any (Rows.soundPacksComeBackSpec.pre6 enc Try.prog Try.f14 Rows.soundPacksComeBackRow.domain false) (Rows.soundPacksComeBackSpec.post enc Try.prog Try.f14 false true false false) := by
  refine returnsInHanded_of_change_sized (C := Try.checked) own started (by kernel_rfl) Try.func14
    (ChangeSpec.witness6 (enc := enc) (C := Try.checked) false ⟨#[], #[.slice none 0 0, .slice none 0 0], []⟩ 8 (by kernel_rfl) (by kernel_rfl) (by kernel_rfl) (by kernel_rfl)) ?_
  intro W base args ds gs before hval0 hW _ hsz0 _
  have hsz : (DataW.weightsEach Try.prog (Try.f14.params.toList ++ Rows.soundPacksComeBackSpec.plain.varTypes Try.prog) (ds ++ gs)).all (· ≤ reachBytes) = true := hsz0
  clear hsz0
  have hval : ∀ (j : Nat) t v, Try.f14.params[j]? = some t → args[j]? = some v → Value.okWide Try.prog W .any base t v := hval0
  have hW' := hW
  obtain ⟨p, q, hA0, hV, rfl, _, _⟩ := hW
  have hA : DataW.TrodAll enc Try.prog W 0 (fun _ => true) true Try.f14.params.toList args.toList ds p := hA0
  rw [Try.params14] at hA hval hsz
  obtain ⟨v0, v1, d0, d1, p0, p1, rfl, rfl, rfl, h0, h1⟩ := trodAll_two hA
  obtain ⟨rfl, rfl⟩ := trodVars_none hV
  obtain ⟨A0, n0, c0, xs0, rfl, hl0, hm0, hr0, hx0, hd0⟩ := open_chunks (hval 0 58 v0 rfl rfl) h0
  have hz0 : n0 ≤ 3518437208780 := by
    rcases hd0 with ⟨_, h0⟩ | ⟨es, sp, e1, e2⟩
    · omega
    · subst e1
      have := sized_slice hsz (j := 0) (t := 58) (e := 86) rfl rfl Try.underlying58
      rw [show Try.prog.bytesOf 86 = 40 by kernel_rfl] at this
      simp only [reachBytes] at this
      omega
  have hy0 : ∀ c ∈ xs0, c.2.length ≤ 140737488351232 := fun x hx => by
    obtain ⟨k, hk⟩ := hx0 x hx
    rcases hk with ⟨g1, g2⟩ | g2
    · have := List.all_eq_true.1 hsz _ (DataW.weights_mem_each (j := 0) (t := 58) rfl rfl _ g1)
      have h9 : k ≤ reachBytes := by simpa using this
      simp only [reachBytes] at h9
      omega
    · omega
  obtain ⟨A1, n1, c1, xs1, rfl, hl1, hm1, hr1, hx1, hd1⟩ := open_bytes (hval 1 59 v1 rfl rfl) h1
  have hz1 : n1 ≤ 140737488351232 := by
    rcases hd1 with ⟨_, h0⟩ | ⟨es, sp, e1, e2⟩
    · omega
    · subst e1
      have := sized_slice hsz (j := 1) (t := 59) (e := 5) rfl rfl Try.underlying59
      rw [show Try.prog.bytesOf 5 = 1 by kernel_rfl] at this
      simp only [reachBytes] at this
      omega
  clear hA0 hval0
  refine (lawPB_walk A0 n0 c0 xs0 A1 n1 c1 xs1 W ⟨hl0, hm0⟩ ⟨hl1, hm1⟩ hy0 hr0 hr1).mono fun e W' ⟨he, hb⟩ => ?_
  subst he
  exact ⟨_, rfl, law_post rfl (by kernel_rfl) lawPB_rd hW' rfl hb⟩
end
end Go.Proofs.Ytpnbkkpbgpcgiaa
