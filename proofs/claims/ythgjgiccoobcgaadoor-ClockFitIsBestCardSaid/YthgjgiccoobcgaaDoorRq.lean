/- The document's number, CheckRatio. -/
import Derived.Test.YthgjgiccoobcgaaDoorYs
import Derived.Test.YthgjgiccoobcgaaDoorRegion3
set_option linter.unusedSimpArgs false
set_option linter.unusedVariables false
namespace Go.Proofs.YthgjgiccoobcgaaDoor
open Go.RowKit Go.Dw Go.Joins
theorem good_head {l : List UInt8} (hd : AllDig l) (h0 : l ≠ []) (h1 : ¬ (1 < l.length ∧ l.head? = some 48)) : GoodD l := by
  refine ⟨hd, ?_⟩
  cases l with
  | nil => exact absurd rfl h0
  | cons c r =>
    by_cases hc : c = 48
    · subst hc
      cases r with
      | nil => exact .inl rfl
      | cons d r => exact absurd ⟨by simp, rfl⟩ h1
    · exact .inr ⟨c, r, rfl, hc⟩
set_option maxRecDepth 100000 in
set_option maxHeartbeats 2000000 in
theorem RNUMB_any (s : ByteArray) (hs : s.size ≤ maxLen) (w : World) :
    Calls Tryd.prog 28 #[.string s] w fun e w' => e = .returned (.bool (goodD s.data.toList)) ∧ w = w' := by
  unfold maxLen at hs
  have HLN := Lib.hid (len_data s)
  by_cases h0 : s.size = 0
  · have he : s = ⟨#[]⟩ := by
      refine ba_ext ?_
      exact List.eq_nil_of_length_eq_zero (by rw [len_data]; exact h0)
    have HG : Hid (goodD s.data.toList = false) := goodD_false fun h => by
      rw [he] at h
      rcases h.2 with h2 | ⟨c, r, h2, _⟩
      · cases h2
      · cases h2
    subst he
    go_enter Tryd.func28, Tryd.ntmps28
    go_wp2_with fail
    go_ret
    exact ⟨by rw [HG.out]; rfl, rfl⟩
  · have hd1 : s.toList.isEmpty = false := by
      have h1 := HLN.out
      rw [ByteArray.toList_eq]
      cases hl : s.data.toList with
      | nil => rw [hl] at h1; simp at h1; omega
      | cons c r => rfl
    have hpos : 0 < s.size := by omega
    have hby := at_getD s hpos
    obtain ⟨x, hx⟩ : ∃ x, s[0].toNat = x := ⟨_, rfl⟩
    have HX : Hid ((s.data.toList.getD 0 0).toNat = x) := by show _ = _; rw [← hby]; exact hx
    have HHD : Hid (s.data.toList.head? = some (s.data.toList.getD 0 0)) := by
      show _ = _
      have : 0 < s.data.toList.length := by rw [len_data]; exact hpos
      cases hl : s.data.toList with
      | nil => rw [hl] at this; simp at this
      | cons c r => rfl
    by_cases hbad : 1 < s.size ∧ x = 48
    · obtain ⟨hb1, rfl⟩ := hbad
      have HG : Hid (goodD s.data.toList = false) := goodD_false fun h => by
        rcases h.2 with h2 | ⟨c, r, h2, h3⟩
        · have := HLN.out; rw [h2] at this; simp at this; omega
        · have := HHD.out
          rw [h2] at this
          refine h3 (UInt8.toNat_inj.1 ?_)
          have h4 := HX.out
          rw [h2] at h4
          exact h4
      have hb9 : (1 : Int) < (s.size : Int) := by omega
      clear hby
      go_enter Tryd.func28, Tryd.ntmps28
      go_wp2_with fail
      go_ret
      exact ⟨by rw [HG.out]; rfl, rfl⟩
    · have HNB : Hid (¬ (1 < s.data.toList.length ∧ s.data.toList.head? = some 48)) := fun h => hbad ⟨by have := h.1; rw [len_data] at this; exact this, by
        have := HHD.out
        rw [h.2] at this
        injection this with this
        rw [← HX.out, ← this]; rfl⟩
      clear hby
      by_cases hb1 : 1 < s.size
      · have hx48 : x ≠ 48 := fun h => hbad ⟨hb1, h⟩
        have hx49 : ((x : Int) == 48) = false := by simp; omega
        have hb9 : (1 : Int) < (s.size : Int) := by omega
        clear hbad hx48
        go_enter Tryd.func28, Tryd.ntmps28
        go_wp2_with fail
        go_loop [3] (fun i => ∃ k : Nat, k ≤ s.size ∧ i = .int .i64 k ∧ Hid (AllDig (s.data.toList.take k))) (fun i => s.size - (intOf i).toNat)
        case atStart => exact ⟨0, Nat.zero_le _, rfl, by show AllDig _; intro c hc; simp at hc⟩
        case round =>
          obtain ⟨k, hk, rfl, HD⟩ := hrel
          by_cases hlt : k < s.size
          · have hby := at_getD s hlt
            have hmem : s.data.toList.getD k 0 ∈ s.data.toList := getD_mem (by rw [len_data]; exact hlt)
            obtain ⟨y, hy⟩ : ∃ x, s[k].toNat = x := ⟨_, rfl⟩
            have HY : Hid ((s.data.toList.getD k 0).toNat = y) := by show _ = _; rw [← hby]; exact hy
            clear hby
            by_cases h1 : 48 ≤ y ∧ y ≤ 57
            · obtain ⟨h1, h2⟩ := h1
              have hd1 : decide ((y : Int) < 48) = false := by simp; omega
              have hd2 : decide ((57 : Int) < (y : Int)) = false := by simp; omega
              go_wp2_with fail
              go_round
              case rel =>
                refine ⟨k + 1, by omega, by go_num, ?_⟩
                show AllDig _
                rw [List.take_succ_eq_append_getElem (by rw [len_data]; exact hlt)]
                intro c hc
                rcases List.mem_append.1 hc with h | h
                · exact HD.out c h
                · simp only [List.mem_singleton] at h
                  have e : s.data.toList[k]'(by rw [len_data]; exact hlt) = s.data.toList.getD k 0 := by simp [List.getD, hlt]
                  rw [h, e, HY.out]
                  exact ⟨h1, h2⟩
              case measure => simp [intOf] <;> omega
            · have HBAD : Hid (goodD s.data.toList = false) := goodD_false fun h => by
                have := h.1 _ hmem
                rw [HY.out] at this
                exact h1 this
              by_cases h3 : y < 48
              · have hd1 : decide ((y : Int) < 48) = true := by simp; omega
                clear h1
                go_wp2_with fail
                go_ret
                exact ⟨by rw [HBAD.out]; rfl, rfl⟩
              · have hd1 : decide ((y : Int) < 48) = false := by simp; omega
                have hd2 : decide ((57 : Int) < (y : Int)) = true := by simp; omega
                clear h1
                go_wp2_with fail
                go_ret
                exact ⟨by rw [HBAD.out]; rfl, rfl⟩
          · have HALL : Hid (AllDig s.data.toList) := by
              have := HD.out
              rwa [List.take_of_length_le (by rw [len_data]; omega)] at this
            have HG : Hid (goodD s.data.toList = true) := goodD_true (good_head HALL.out (by intro e; have := HLN.out; rw [e] at this; simp at this; omega) HNB.out)
            go_wp2_with fail
            go_ret
            exact ⟨by rw [HG.out]; rfl, rfl⟩
      · have hb9 : ¬ (1 : Int) < (s.size : Int) := by omega
        clear hbad
        go_enter Tryd.func28, Tryd.ntmps28
        go_wp2_with fail
        go_loop [3] (fun i => ∃ k : Nat, k ≤ s.size ∧ i = .int .i64 k ∧ Hid (AllDig (s.data.toList.take k))) (fun i => s.size - (intOf i).toNat)
        case atStart => exact ⟨0, Nat.zero_le _, rfl, by show AllDig _; intro c hc; simp at hc⟩
        case round =>
          obtain ⟨k, hk, rfl, HD⟩ := hrel
          by_cases hlt : k < s.size
          · have hby := at_getD s hlt
            have hmem : s.data.toList.getD k 0 ∈ s.data.toList := getD_mem (by rw [len_data]; exact hlt)
            obtain ⟨y, hy⟩ : ∃ x, s[k].toNat = x := ⟨_, rfl⟩
            have HY : Hid ((s.data.toList.getD k 0).toNat = y) := by show _ = _; rw [← hby]; exact hy
            clear hby
            by_cases h1 : 48 ≤ y ∧ y ≤ 57
            · obtain ⟨h1, h2⟩ := h1
              have hd1 : decide ((y : Int) < 48) = false := by simp; omega
              have hd2 : decide ((57 : Int) < (y : Int)) = false := by simp; omega
              go_wp2_with fail
              go_round
              case rel =>
                refine ⟨k + 1, by omega, by go_num, ?_⟩
                show AllDig _
                rw [List.take_succ_eq_append_getElem (by rw [len_data]; exact hlt)]
                intro c hc
                rcases List.mem_append.1 hc with h | h
                · exact HD.out c h
                · simp only [List.mem_singleton] at h
                  have e : s.data.toList[k]'(by rw [len_data]; exact hlt) = s.data.toList.getD k 0 := by simp [List.getD, hlt]
                  rw [h, e, HY.out]
                  exact ⟨h1, h2⟩
              case measure => simp [intOf] <;> omega
            · have HBAD : Hid (goodD s.data.toList = false) := goodD_false fun h => by
                have := h.1 _ hmem
                rw [HY.out] at this
                exact h1 this
              by_cases h3 : y < 48
              · have hd1 : decide ((y : Int) < 48) = true := by simp; omega
                clear h1
                go_wp2_with fail
                go_ret
                exact ⟨by rw [HBAD.out]; rfl, rfl⟩
              · have hd1 : decide ((y : Int) < 48) = false := by simp; omega
                have hd2 : decide ((57 : Int) < (y : Int)) = true := by simp; omega
                clear h1
                go_wp2_with fail
                go_ret
                exact ⟨by rw [HBAD.out]; rfl, rfl⟩
          · have HALL : Hid (AllDig s.data.toList) := by
              have := HD.out
              rwa [List.take_of_length_le (by rw [len_data]; omega)] at this
            have HG : Hid (goodD s.data.toList = true) := goodD_true (good_head HALL.out (by intro e; have := HLN.out; rw [e] at this; simp at this; omega) HNB.out)
            go_wp2_with fail
            go_ret
            exact ⟨by rw [HG.out]; rfl, rfl⟩
end Go.Proofs.YthgjgiccoobcgaaDoor
