/- Names of chunks, on both sides. -/
import Derived.Test.YtlnjildkdmeflaaDoorByte
set_option linter.unusedSimpArgs false
set_option linter.unusedVariables false
namespace Go.Proofs.YtlnjildkdmeflaaDoor
open Go.RowKit Go.Dw
def okC (x : Nat) : Bool := decide ((97 ≤ x ∧ x ≤ 122) ∨ (65 ≤ x ∧ x ≤ 90) ∨ (48 ≤ x ∧ x ≤ 57) ∨ x = 32)
def nameB (s : By) : Bool := s.length == 4 && s.all fun b => okC b.toNat
theorem str_at {bs : By} {k : Nat} (h : k < (ByteArray.mk bs.toArray).size) : (ByteArray.mk bs.toArray)[k].toNat = (byOf bs k).toNat := by
  have h2 : k < bs.length := by rw [← strOf_size]; exact h
  show (bs.toArray[k]'(by simpa using h2)).toNat = _
  simp [byOf, List.getD, h2]
theorem nameB_len {s : By} (h : s.length ≠ 4) : nameB s = false := by simp [nameB, h]
theorem take_all {s : By} {k : Nat} (hk : k < s.length) : ((s.take (k + 1)).all fun b => okC b.toNat) = (((s.take k).all fun b => okC b.toNat) && okC (byOf s k).toNat) := by
  rw [List.take_add_one, List.all_append]; simp [byOf, List.getD, hk]
theorem nameB_bad {s : By} {k : Nat} (hk : k < s.length) (h : okC (byOf s k).toNat = false) : nameB s = false := by
  have : (s.all fun b => okC b.toNat) = false := by
    rw [List.all_eq_false]
    exact ⟨s[k], List.getElem_mem _, by simp [byOf, List.getD, hk] at h; simp [h]⟩
  simp [nameB, this]
theorem nameB_yes {s : By} (h4 : s.length = 4) (h : ((s.take 4).all fun b => okC b.toNat) = true) : nameB s = true := by
  rw [← h4, List.take_length] at h
  simp [nameB, h4, h]
theorem okC_no {x : Nat} (h : okC x = false) : ¬ ((97 ≤ x ∧ x ≤ 122) ∨ (65 ≤ x ∧ x ≤ 90) ∨ (48 ≤ x ∧ x ≤ 57) ∨ x = 32) := by simpa [okC] using h
set_option maxHeartbeats 1600000 in
theorem CHUNKNAME_any (bs : By) (w : World) : Calls Tryd.prog 37 #[strOf bs] w fun e w' => e = .returned (.bool (nameB bs)) ∧ w = w' := by
  unfold strOf
  have hsz := strOf_size bs
  by_cases h4 : bs.length = 4
  · have H4 := Lib.hid h4
    have hb : (((ByteArray.mk bs.toArray).size : Int) != 4) = false := by rw [hsz, h4]; rfl
    have HS : Hid ((ByteArray.mk bs.toArray).size = 4) := hsz.trans h4
    have HX := Lib.hid (fun k (h : k < (ByteArray.mk bs.toArray).size) => str_at h)
    obtain ⟨s, hs⟩ : ∃ s, ByteArray.mk bs.toArray = s := ⟨_, rfl⟩
    simp only [hs] at *
    clear h4 hsz hs
    go_enter Tryd.func37, Tryd.ntmps37
    go_wp2_with fail
    go_loopw [8] (fun i wr => ∃ k : Nat, k ≤ 4 ∧ i = .int .i64 k ∧ wr = w ∧ Hid (((bs.take k).all fun b => okC b.toNat) = true)) (fun i _ => 4 - (intOf i).toNat)
    case atStart => exact ⟨0, Nat.zero_le _, rfl, rfl, rfl⟩
    case round =>
      obtain ⟨k, hk, rfl, rfl, hA⟩ := hrel
      by_cases hlt : k < 4
      · have hkI : (k : Int) < 4 := by omega
        have hk0 : (0 : Int) ≤ (k : Int) := by omega
        have hin : 0 ≤ (k : Int) ∧ (k : Int) < (s.size : Int) := by rw [HS.out]; omega
        have hkb : k < bs.length := by rw [H4.out]; exact hlt
        have HK : Hid (∀ x, (byOf bs k).toNat = x → (okC x = true → (((bs.take (k + 1)).all fun b => okC b.toNat) = true)) ∧ (okC x = false → nameB bs = false)) := fun x hx => by
          subst hx
          exact ⟨fun h => by rw [take_all hkb, hA.out, h]; rfl, fun h => nameB_bad hkb h⟩
        clear hA
        go_wp2_with fail
        all_goals
          have e := HX.out k (by rw [HS.out]; exact hlt)
          obtain ⟨HT, HF⟩ := HK.out _ e.symm
          generalize s[k].toNat = x at *
          clear HK HX e
          try simp only [Bool.not_eq_true', Bool.not_eq_false', decide_eq_true_eq, decide_eq_false_iff_not, beq_iff_eq, beq_eq_false_iff_ne] at *
          first
            | (refine ⟨⟨k + 1, by omega, by go_num, trivial, HT ?_⟩, by simp [intOf]; omega⟩
               unfold okC
               simp only [decide_eq_true_eq]
               omega)
            | (have hn := HF (by unfold okC; simp only [decide_eq_false_iff_not]; omega)
               go_ret
               exact ⟨by rw [hn]; rfl, rfl⟩)
      · obtain rfl : k = 4 := by omega
        have HB := Lib.hid (nameB_yes H4.out hA.out)
        go_wp2_with fail
        go_ret
        exact ⟨by rw [HB.out]; rfl, rfl⟩
  · have HB := Lib.hid (nameB_len h4)
    have hb : (((ByteArray.mk bs.toArray).size : Int) != 4) = true := by rw [hsz]; simp; omega
    obtain ⟨s, hs⟩ : ∃ s, ByteArray.mk bs.toArray = s := ⟨_, rfl⟩
    rw [hs] at hb ⊢
    clear h4 hsz hs
    go_enter Tryd.func37, Tryd.ntmps37
    go_wp2_with fail
    go_ret
    exact ⟨by rw [HB.out]; rfl, rfl⟩
set_option maxHeartbeats 1600000 in
theorem RNAMEOFCHUNK_any (bs : By) (w : World) : Calls Tryd.prog 38 #[strOf bs] w fun e w' => e = .returned (.bool (nameB bs)) ∧ w = w' := by
  unfold strOf
  have hsz := strOf_size bs
  by_cases h4 : bs.length = 4
  · have H4 := Lib.hid h4
    have hb : (((ByteArray.mk bs.toArray).size : Int) != 4) = false := by rw [hsz, h4]; rfl
    have HS : Hid ((ByteArray.mk bs.toArray).size = 4) := hsz.trans h4
    have HX := Lib.hid (fun k (h : k < (ByteArray.mk bs.toArray).size) => str_at h)
    obtain ⟨s, hs⟩ : ∃ s, ByteArray.mk bs.toArray = s := ⟨_, rfl⟩
    simp only [hs] at *
    clear h4 hsz hs
    go_enter Tryd.func38, Tryd.ntmps38
    go_wp2_with fail
    go_loopw [3] (fun i wr => ∃ k : Nat, k ≤ 4 ∧ i = .int .i64 k ∧ wr = w ∧ Hid (((bs.take k).all fun b => okC b.toNat) = true)) (fun i _ => 4 - (intOf i).toNat)
    case atStart => exact ⟨0, Nat.zero_le _, rfl, rfl, rfl⟩
    case round =>
      obtain ⟨k, hk, rfl, rfl, hA⟩ := hrel
      by_cases hlt : k < 4
      · have hkI : (k : Int) < 4 := by omega
        have hk0 : (0 : Int) ≤ (k : Int) := by omega
        have hin : 0 ≤ (k : Int) ∧ (k : Int) < (s.size : Int) := by rw [HS.out]; omega
        have hkb : k < bs.length := by rw [H4.out]; exact hlt
        have HK : Hid (∀ x, (byOf bs k).toNat = x → (okC x = true → (((bs.take (k + 1)).all fun b => okC b.toNat) = true)) ∧ (okC x = false → nameB bs = false)) := fun x hx => by
          subst hx
          exact ⟨fun h => by rw [take_all hkb, hA.out, h]; rfl, fun h => nameB_bad hkb h⟩
        clear hA
        go_wp2_with fail
        all_goals
          have e := HX.out k (by rw [HS.out]; exact hlt)
          obtain ⟨HT, HF⟩ := HK.out _ e.symm
          generalize s[k].toNat = x at *
          clear HK HX e
          try simp only [Bool.not_eq_true', Bool.not_eq_false', decide_eq_true_eq, decide_eq_false_iff_not, beq_iff_eq, beq_eq_false_iff_ne] at *
          first
            | (refine ⟨⟨k + 1, by omega, by go_num, trivial, HT ?_⟩, by simp [intOf]; omega⟩
               unfold okC
               simp only [decide_eq_true_eq]
               omega)
            | (have hn := HF (by unfold okC; simp only [decide_eq_false_iff_not]; omega)
               go_ret
               exact ⟨by rw [hn]; rfl, rfl⟩)
      · obtain rfl : k = 4 := by omega
        have HB := Lib.hid (nameB_yes H4.out hA.out)
        go_wp2_with fail
        go_ret
        exact ⟨by rw [HB.out]; rfl, rfl⟩
  · have HB := Lib.hid (nameB_len h4)
    have hb : (((ByteArray.mk bs.toArray).size : Int) != 4) = true := by rw [hsz]; simp; omega
    obtain ⟨s, hs⟩ : ∃ s, ByteArray.mk bs.toArray = s := ⟨_, rfl⟩
    rw [hs] at hb ⊢
    clear h4 hsz hs
    go_enter Tryd.func38, Tryd.ntmps38
    go_wp2_with fail
    go_ret
    exact ⟨by rw [HB.out]; rfl, rfl⟩
end Go.Proofs.YtlnjildkdmeflaaDoor
