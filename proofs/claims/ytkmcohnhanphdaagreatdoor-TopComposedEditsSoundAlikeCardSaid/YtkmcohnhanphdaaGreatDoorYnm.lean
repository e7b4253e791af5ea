/- Names and texts of notes, on both sides. -/
import Derived.Test.YtkmcohnhanphdaaGreatDoorByte
import Derived.Test.YtkmcohnhanphdaaGreatDoorShelf
import Derived.Shelf.Strings.SlTrimAscii
set_option linter.unusedSimpArgs false
set_option linter.unusedVariables false
namespace Go.Proofs.YtkmcohnhanphdaaGreatDoor
open Go.RowKit Go.Dw
def okN (x : Nat) : Bool := decide ((97 ≤ x ∧ x ≤ 122) ∨ (48 ≤ x ∧ x ≤ 57) ∨ x = 45)
def nameN (s : By) : Bool := decide (1 ≤ s.length ∧ s.length ≤ 40) && (decide (97 ≤ (byOf s 0).toNat ∧ (byOf s 0).toNat ≤ 122) && s.all fun b => okN b.toNat)
def ctlN : List UInt8 := [97, 98, 99, 100, 101, 102, 103, 104, 105, 106, 107, 108, 109, 110, 111, 112, 113, 114, 115, 116, 117, 118, 119, 120, 121, 122, 48, 49, 50, 51, 52, 53, 54, 55, 56, 57, 45]
theorem ctl_mem (c : UInt8) : ctlN.contains c = okN c.toNat := by
  have key : ∀ n : Fin 256, ctlN.contains (UInt8.ofNat n.val) = okN n.val := by decide +kernel
  have := key ⟨c.toNat, c.toNat_lt⟩
  rwa [UInt8.ofNat_toNat] at this
theorem drop_all {p : UInt8 → Bool} : ∀ {l : List UInt8}, (l.dropWhile p = [] ↔ l.all p = true)
  | [] => by simp
  | a :: t => by
    cases h : p a with
    | true => simp [List.dropWhile_cons, h, drop_all (l := t)]
    | false => simp [List.dropWhile_cons, h]
theorem trim_all (l : List UInt8) : (Lib.trimS l ctlN = [] ↔ (l.all fun b => okN b.toNat) = true) := by
  have e : (fun b : UInt8 => ctlN.contains b) = fun b => okN b.toNat := funext ctl_mem
  unfold Lib.trimS Lib.trimLeftS Lib.trimRightS
  rw [drop_all, e, List.all_reverse]
  constructor
  · intro h
    by_cases hl : (l.all fun b => okN b.toNat) = true
    · exact hl
    · exfalso
      have hn : ¬ (l.reverse.dropWhile (fun b => okN b.toNat) = []) := fun e9 => hl (by rw [drop_all, List.all_reverse] at e9; exact e9)
      obtain ⟨a, t, ht⟩ := List.exists_cons_of_ne_nil hn
      have h1 : okN a.toNat = false := by
        have := List.head_dropWhile_not (fun b : UInt8 => okN b.toNat) (l := l.reverse) hn
        simp only [ht, List.head_cons] at this
        exact this
      rw [ht] at h
      simp [h1] at h
  · intro h
    have : l.reverse.dropWhile (fun b => okN b.toNat) = [] := by rw [drop_all, List.all_reverse]; exact h
    rw [this]; rfl
theorem len_dat (s : ByteArray) : s.data.toList.length = s.size := by show s.data.toList.length = s.data.size; simp
theorem by_dat {s : ByteArray} {k : Nat} (h : k < s.size) : (s[k]).toNat = (byOf s.data.toList k).toNat := by
  have h2 : k < s.data.size := h
  show (s.data[k]'h2).toNat = _
  simp [byOf, List.getD, Array.getElem?_eq_getElem h2]
theorem TRIM_name (s : ByteArray) (hs : s.size ≤ 40) (w : World) : Calls Tryz.prog 93 #[.string s, .string ⟨#[97, 98, 99, 100, 101, 102, 103, 104, 105, 106, 107, 108, 109, 110, 111, 112, 113, 114, 115, 116, 117, 118, 119, 120, 121, 122, 48, 49, 50, 51, 52, 53, 54, 55, 56, 57, 45]⟩] w fun e w' => ∃ z : ByteArray, e = .returned (.string z) ∧ Hid (z.toList.isEmpty = s.data.toList.all fun b => okN b.toNat) ∧ Below w.heap.size w w' := by
  refine (Any.strings_Trim_laid Tryz.lays160 (by kernel_rfl) s _ w (by omega) (by decide) (ascii_of_all (by decide))).mono ?_
  rintro e w' ⟨rfl, hb⟩
  refine ⟨_, rfl, ?_, hb⟩
  show _ = _
  have ht := trim_all s.data.toList
  rw [ByteArray.toList_eq]
  have e2 : Lib.trimS s.data.toList (ByteArray.mk #[97, 98, 99, 100, 101, 102, 103, 104, 105, 106, 107, 108, 109, 110, 111, 112, 113, 114, 115, 116, 117, 118, 119, 120, 121, 122, 48, 49, 50, 51, 52, 53, 54, 55, 56, 57, 45]).data.toList = Lib.trimS s.data.toList ctlN := rfl
  rw [e2]
  cases h : (s.data.toList.all fun b => okN b.toNat) with
  | true => simp [ht.2 h]
  | false =>
    have hn : Lib.trimS s.data.toList ctlN ≠ [] := fun e9 => by rw [ht.1 e9] at h; cases h
    simp [hn]
theorem nameN_len {l : By} (h : l.length < 1 ∨ 40 < l.length) : nameN l = false := by
  unfold nameN
  rw [show decide (1 ≤ l.length ∧ l.length ≤ 40) = false by simp; omega]
  rfl
theorem nameN_first {l : By} (h : (byOf l 0).toNat < 97 ∨ 122 < (byOf l 0).toNat) : nameN l = false := by
  unfold nameN
  rw [show decide (97 ≤ (byOf l 0).toNat ∧ (byOf l 0).toNat ≤ 122) = false by simp; omega]
  simp
theorem nameN_rest {l : By} (h1 : 1 ≤ l.length) (h2 : l.length ≤ 40) (h3 : 97 ≤ (byOf l 0).toNat) (h4 : (byOf l 0).toNat ≤ 122) : nameN l = l.all fun b => okN b.toNat := by
  unfold nameN
  rw [decide_eq_true ⟨h1, h2⟩, decide_eq_true ⟨h3, h4⟩]
  rfl
set_option maxRecDepth 100000 in
set_option maxHeartbeats 2000000 in
theorem SISNAME_any (s : ByteArray) (hs : s.size ≤ 9223372036854775807) (w : World) : Calls Tryz.prog 50 #[.string s] w fun e w' => e = .returned (.bool (nameN s.data.toList)) ∧ Below w.heap.size w w' := by
  have hl := len_dat s
  by_cases h1 : s.size < 1
  · have HF := Lib.hid (nameN_len (l := s.data.toList) (.inl (by omega)))
    have hi : (s.size : Int) < 1 := by omega
    clear hl
    go_enter Tryz.func50, Tryz.ntmps50
    go_wp2_with fail
    go_ret
    exact ⟨ret_bool HF.out.symm, Below.refl _ _⟩
  have hi1 : ¬ (s.size : Int) < 1 := by omega
  by_cases h2 : 40 < s.size
  · have HF := Lib.hid (nameN_len (l := s.data.toList) (.inr (by omega)))
    have hi : (40 : Int) < (s.size : Int) := by omega
    clear hl
    go_enter Tryz.func50, Tryz.ntmps50
    go_wp2_with fail
    go_ret
    exact ⟨ret_bool HF.out.symm, Below.refl _ _⟩
  have hi2 : ¬ (40 : Int) < (s.size : Int) := by omega
  have h0 : 0 < s.size := by omega
  have hin : 0 ≤ (0 : Int) ∧ (0 : Int) < (s.size : Int) := by omega
  have HB := Lib.hid (by_dat h0)
  obtain ⟨x, hx⟩ : ∃ x, (s[0]'h0).toNat = x := ⟨_, rfl⟩
  have HX : Hid ((byOf s.data.toList 0).toNat = x) := by show _ = _; rw [← HB.out]; exact hx
  by_cases c1 : x < 97
  · have HF := Lib.hid (nameN_first (l := s.data.toList) (.inl (by rw [HX.out]; exact c1)))
    have hj : (x : Int) < 97 := by omega
    clear hl
    go_enter Tryz.func50, Tryz.ntmps50
    go_wp2_with fail
    go_ret
    exact ⟨ret_bool HF.out.symm, Below.refl _ _⟩
  have hj1 : ¬ (x : Int) < 97 := by omega
  by_cases c2 : 122 < x
  · have HF := Lib.hid (nameN_first (l := s.data.toList) (.inr (by rw [HX.out]; exact c2)))
    have hj : (122 : Int) < (x : Int) := by omega
    clear hl
    go_enter Tryz.func50, Tryz.ntmps50
    go_wp2_with fail
    go_ret
    exact ⟨ret_bool HF.out.symm, Below.refl _ _⟩
  have hj2 : ¬ (122 : Int) < (x : Int) := by omega
  have HF := Lib.hid (nameN_rest (l := s.data.toList) (by omega) (by omega) (by rw [HX.out]; omega) (by rw [HX.out]; omega))
  clear hl
  go_enter Tryz.func50, Tryz.ntmps50
  go_wp2_with fail
  refine (TRIM_name s (by omega) _).mono ?_
  rintro e w1 ⟨z, rfl, hz, hb⟩
  rw [← HF.out] at hz
  have HZ := Lib.hid hz.out
  clear hz
  go_wp2_with fail
  go_ret
  exact ⟨by rw [← HZ.out]; rfl, hb⟩
theorem all_take {p : Nat → Bool} {l : By} {k : Nat} (hk : k < l.length) : ((l.take (k + 1)).all fun b => p b.toNat) = (((l.take k).all fun b => p b.toNat) && p (byOf l k).toNat) := by
  rw [List.take_add_one, List.all_append]; simp [byOf, List.getD, hk]
end Go.Proofs.YtkmcohnhanphdaaGreatDoor
