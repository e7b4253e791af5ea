/- clock.digits. -/
import Derived.Test.YtcjdmffflepplaaDoorNql
set_option linter.unusedSimpArgs false
set_option linter.unusedVariables false
namespace Go.Proofs.YtcjdmffflepplaaDoor
open Go.RowKit Go.Dw
/-- the digits of a whole number without a needless 0 -/
def GoodD (l : List UInt8) : Prop := AllDig l ∧ (l = [48] ∨ ∃ c r, l = c :: r ∧ c ≠ 48)
noncomputable def goodD (l : List UInt8) : Bool := @decide (GoodD l) (Classical.propDecidable _)
theorem goodD_true {l : List UInt8} (h : GoodD l) : goodD l = true := @decide_eq_true _ (Classical.propDecidable _) h
theorem goodD_false {l : List UInt8} (h : ¬ GoodD l) : goodD l = false := @decide_eq_false _ (Classical.propDecidable _) h
theorem goodD_iff {l : List UInt8} : goodD l = true ↔ GoodD l := @decide_eq_true_iff _ (Classical.propDecidable _)
set_option maxRecDepth 100000 in
set_option maxHeartbeats 2000000 in
theorem CDIGITS_any (s : ByteArray) (hs : s.size ≤ maxLen) (w : World) :
    Calls Tryd.prog 31 #[.string s] w fun e w' => e = .returned (.bool (goodD s.data.toList)) ∧ w = w' := by
  unfold maxLen at hs
  have HLN := Lib.hid (len_data s)
  go_enter Tryd.func31, Tryd.ntmps31
  go_wp2_with fail
  go_loop [6] (fun i => ∃ k : Nat, k ≤ s.size ∧ i = .int .i64 k ∧ Hid (AllDig (s.data.toList.take k))) (fun i => s.size - (intOf i).toNat)
  case atStart => exact ⟨0, Nat.zero_le _, rfl, by show AllDig _; intro c hc; simp at hc⟩
  case round =>
    obtain ⟨k, hk, rfl, HD⟩ := hrel
    by_cases hlt : k < s.size
    · have hby := at_getD s hlt
      have HBY := Lib.hid hby
      have hmem : s.data.toList.getD k 0 ∈ s.data.toList := getD_mem (by rw [len_data]; exact hlt)
      obtain ⟨x, hx⟩ : ∃ x, s[k].toNat = x := ⟨_, rfl⟩
      have HX : Hid ((s.data.toList.getD k 0).toNat = x) := by show _ = _; rw [← hby]; exact hx
      clear hby
      by_cases h1 : 48 ≤ x ∧ x ≤ 57
      · obtain ⟨h1, h2⟩ := h1
        have hd1 : decide ((x : Int) < 48) = false := by simp; omega
        have hd2 : decide ((57 : Int) < (x : Int)) = false := by simp; omega
        go_wp2_with fail
        go_round
        case rel =>
          refine ⟨k + 1, by omega, by go_num, ?_⟩
          show AllDig _
          rw [List.take_succ_eq_append_getElem (by rw [len_data]; exact hlt)]
          intro c hc
          rcases List.mem_append.1 hc with h | h
          · exact HD.out c h
          · simp only [List.mem_singleton] at h
            have e : s.data.toList[k]'(by rw [len_data]; exact hlt) = s.data.toList.getD k 0 := by simp [List.getD, hlt]
            rw [h, e, HX.out]
            exact ⟨h1, h2⟩
        case measure => simp [intOf] <;> omega
      · have HBAD : Hid (goodD s.data.toList = false) := goodD_false fun h => by
          have := h.1 _ hmem
          rw [HX.out] at this
          exact h1 this
        by_cases h3 : x < 48
        · have hd1 : decide ((x : Int) < 48) = true := by simp; omega
          clear h1
          go_wp2_with fail
          go_ret
          exact ⟨by rw [HBAD.out]; rfl, rfl⟩
        · have hd1 : decide ((x : Int) < 48) = false := by simp; omega
          have hd2 : decide ((57 : Int) < (x : Int)) = true := by simp; omega
          clear h1
          go_wp2_with fail
          go_ret
          exact ⟨by rw [HBAD.out]; rfl, rfl⟩
    · have hk9 : k = s.size := by omega
      have HALL : Hid (AllDig s.data.toList) := by
        have := HD.out
        rwa [List.take_of_length_le (by rw [len_data]; omega)] at this
      subst hk9
      clear hk HD
      clear hlt
      have HTL := Lib.hid (ByteArray.toList_eq s)
      by_cases h0 : s.toList = [48]
      · have HG : Hid (goodD s.data.toList = true) := goodD_true ⟨HALL.out, .inl (by rw [← HTL.out, h0])⟩
        have hd0 : (s.toList == [48]) = true := by rw [h0]; rfl
        clear h0
        go_wp2_with fail
        go_ret
        exact ⟨by rw [HG.out]; rfl, rfl⟩
      · have hd0 : (s.toList == [48]) = false := beq_eq_false_iff_ne.2 h0
        by_cases h1 : s.toList = []
        · have HG : Hid (goodD s.data.toList = false) := goodD_false fun h => by
            rw [← HTL.out] at h
            rcases h.2 with h2 | ⟨c, r, h2, _⟩
            · rw [h1] at h2; cases h2
            · rw [h1] at h2; cases h2
          have hd1 : s.toList.isEmpty = true := by rw [h1]; rfl
          clear h0
          go_wp2_with fail
          go_ret
          exact ⟨by rw [HG.out]; rfl, rfl⟩
        · have hd1 : s.toList.isEmpty = false := by simpa using h1
          have hpos : 0 < s.size := by
            rw [← len_data, ← HTL.out]
            exact List.length_pos_iff.2 h1
          have hby := at_getD s hpos
          rw [← HTL.out] at hby
          obtain ⟨c, r, hcr⟩ : ∃ c r, s.toList = c :: r := by cases h : s.toList with | nil => exact absurd h h1 | cons c r => exact ⟨c, r, rfl⟩
          have hcx : s[0] = c := by rw [hby, hcr]; rfl
          obtain ⟨x, hx⟩ : ∃ x, s[0].toNat = x := ⟨_, rfl⟩
          have HX : Hid (c.toNat = x) := by show _ = _; rw [← hcx]; exact hx
          have HCR := Lib.hid hcr
          have H0 := Lib.hid h0
          clear hby hcx hcr h0
          by_cases hx48 : x = 48
          · have HG : Hid (goodD s.data.toList = false) := goodD_false fun h => by
              rw [← HTL.out] at h
              rcases h.2 with h2 | ⟨c', r', h2, h3⟩
              · exact H0.out h2
              · rw [HCR.out] at h2
                cases h2
                refine h3 (UInt8.toNat_inj.1 ?_)
                rw [HX.out, hx48]; rfl
            subst hx48
            go_wp2_with fail
            go_ret
            exact ⟨by rw [HG.out]; rfl, rfl⟩
          · have HG : Hid (goodD s.data.toList = true) := goodD_true ⟨HALL.out, .inr ⟨c, r, by rw [← HTL.out]; exact HCR.out, fun h => hx48 (by rw [← HX.out, h]; rfl)⟩⟩
            have hd2 : ((x : Int) != 48) = true := by simp; omega
            clear hx48
            go_wp2_with fail
            go_ret
            exact ⟨by rw [HG.out]; rfl, rfl⟩
end Go.Proofs.YtcjdmffflepplaaDoor
