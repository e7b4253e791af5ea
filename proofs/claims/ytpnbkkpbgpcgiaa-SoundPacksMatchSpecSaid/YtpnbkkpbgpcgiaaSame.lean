/- slices.Equal at []int; the law's same. -/
import Derived.Test.YtpnbkkpbgpcgiaaCheck
import Derived.Test.YtpnbkkpbgpcgiaaMem
import Derived.Deep.QuietTactic
import Derived.BigQuiet
set_option linter.unusedSimpArgs false
set_option linter.unusedVariables false
namespace Go.Proofs.Ytpnbkkpbgpcgiaa
open Go.RowKit Go.Dw

theorem eq_take {xs ys : List Int} {j : Nat} (h : xs.take j = ys.take j) (hx : j < xs.length) (hy : j < ys.length) (he : elOf xs j = elOf ys j) : xs.take (j + 1) = ys.take (j + 1) := by
  rw [List.take_succ_eq_append_getElem hx, List.take_succ_eq_append_getElem hy, h]
  simp only [elOf, List.getD, List.getElem?_eq_getElem hx, List.getElem?_eq_getElem hy, Option.getD_some] at he
  rw [he]
theorem el_ne {xs ys : List Int} {j : Nat} (he : elOf xs j ≠ elOf ys j) : xs ≠ ys := fun e => he (by rw [e])

set_option maxHeartbeats 400000 in
theorem EQINTS_len (A A' : Option Addr) (n c m c' : Nat) (hne : n ≠ m) (w : World) :
    Calls Try.prog 64 #[.slice A n c, .slice A' m c'] w fun e w' => e = .returned (.bool false) ∧ ∃ q, w' = w.drewN q := by
  have hq : ((n : Int) != (m : Int)) = true := by simp; omega
  go_enter Try.func64, Try.ntmps64
  go_wp2
  go_ret
  exact ⟨rfl, 0, rfl⟩

set_option maxHeartbeats 800000 in
theorem EQINTS_same (A A' : Option Addr) (n c c' : Nat) (xs ys : List Int) (w : World) (B : Nat) (hn : n ≤ 9223372036854775807) (hx : Hid (IntsAt w B A n xs)) (hy : Hid (IntsAt w B A' n ys)) :
    Calls Try.prog 64 #[.slice A n c, .slice A' n c'] w fun e w' => e = .returned (.bool (decide (xs = ys))) ∧ ∃ q, w' = w.drewN q := by
  have hxl := Lib.hid hx.out.1
  have hyl := Lib.hid hy.out.1
  go_enter Try.func64, Try.ntmps64
  go_wp2
  go_loopw [13] (fun i wr => ∃ j : Nat, j ≤ n ∧ i = .int .i64 j ∧ Hid (xs.take j = ys.take j) ∧ Hid (∃ q, wr = w.drewN q)) (fun i _ => n - (intOf i).toNat)
  case atStart => exact ⟨0, Nat.zero_le _, rfl, rfl, 0, rfl⟩
  case round =>
    obtain ⟨j, hj, rfl, HT, q, rfl⟩ := hrel
    by_cases hlt : j < n
    · obtain ⟨ad, rfl⟩ := hx.out.addr (by omega)
      obtain ⟨ad', rfl⟩ := hy.out.addr (by omega)
      have hc1 := (hx.out.at_ hlt).2
      have hc2 := (hy.out.at_ hlt).2
      have hj0 : (0 : Int) ≤ (j : Int) := by omega
      have hjn : (j : Int) < (n : Int) := by omega
      by_cases he : elOf xs j = elOf ys j
      · have hq : (elOf xs j != elOf ys j) = false := by simpa using he
        have HE := Lib.hid he
        clear he
        go_wp2
        go_quiet (fail)
        go_wp2
        go_roundw
        case rel => exact ⟨j + 1, by omega, by go_num, eq_take HT.out (by rw [hxl.out]; exact hlt) (by rw [hyl.out]; exact hlt) HE.out, _, rfl⟩
        case measure => simp [intOf]; omega
      · have hq : (elOf xs j != elOf ys j) = true := by simpa using he
        have HE := Lib.hid he
        clear he
        go_wp2
        go_quiet (fail)
        go_wp2
        go_ret
        exact ⟨ret_bool (by simp [el_ne HE.out]), _, World.drewN_drewN _ _ _⟩
    · obtain rfl : j = n := by omega
      go_wp2
      go_ret
      exact ⟨ret_bool (by have := HT.out; rw [List.take_of_length_le (by rw [hxl.out]; omega), List.take_of_length_le (by rw [hyl.out]; omega)] at this; simp [this]), _, rfl⟩

theorem EQINTS_any (A A' : Option Addr) (n c m c' : Nat) (xs ys : List Int) (w : World) (B : Nat) (hn : n ≤ 9223372036854775807) (hx : IntsAt w B A n xs) (hy : IntsAt w B A' m ys) :
    Calls Try.prog 64 #[.slice A n c, .slice A' m c'] w fun e w' => e = .returned (.bool (decide (xs = ys))) ∧ ∃ q, w' = w.drewN q := by
  by_cases h : n = m
  · subst h; exact EQINTS_same A A' n c c' xs ys w B hn hx hy
  · refine (EQINTS_len A A' n c m c' h w).mono fun e w' he => ⟨he.1.trans (ret_bool ?_), he.2⟩
    have : xs ≠ ys := fun e => h (by rw [← hx.1, ← hy.1, e])
    simp [this]

/-- what the law's same says -/
def sameS (r : Int) (xss : List (List Int)) (r' : Int) (yss : List (List Int)) : Bool := decide (r = r' ∧ xss = yss)
theorem rows_take {xss yss : List (List Int)} {k : Nat} (h : xss.take k = yss.take k) (hx : k < xss.length) (hy : k < yss.length) (he : rowOf xss k = rowOf yss k) : xss.take (k + 1) = yss.take (k + 1) := by
  rw [List.take_succ_eq_append_getElem hx, List.take_succ_eq_append_getElem hy, h]
  simp only [rowOf, List.getD, List.getElem?_eq_getElem hx, List.getElem?_eq_getElem hy, Option.getD_some] at he
  rw [he]

set_option maxHeartbeats 400000 in
theorem SAME_rate (r r' : Int) (A A' : Option Addr) (n c m c' : Nat) (xss yss : List (List Int)) (hne : r ≠ r') (w : World) :
    Calls Try.prog 24 #[.agg #[.int .i64 r, .slice A n c], .agg #[.int .i64 r', .slice A' m c']] w fun e w' => e = .returned (.bool (sameS r xss r' yss)) ∧ Below w.heap.size w w' := by
  have hq : (r != r') = true := by simpa using hne
  have HN := Lib.hid hne
  clear hne
  go_enter Try.func24, Try.ntmps24
  go_wp2
  go_ret
  exact ⟨ret_bool (by simp [sameS, HN.out]), ((Below.refl _ _).alloc (Nat.le_refl _) _).alloc (by simp) _⟩
set_option maxHeartbeats 400000 in
theorem SAME_many (r : Int) (A A' : Option Addr) (n c m c' : Nat) (xss yss : List (List Int)) (hne : n ≠ m) (hx : Hid (xss.length = n)) (hy : Hid (yss.length = m)) (w : World) :
    Calls Try.prog 24 #[.agg #[.int .i64 r, .slice A n c], .agg #[.int .i64 r, .slice A' m c']] w fun e w' => e = .returned (.bool (sameS r xss r yss)) ∧ Below w.heap.size w w' := by
  have hq0 : (r != r) = false := by simp
  have hq : ((n : Int) != (m : Int)) = true := by simp; omega
  go_enter Try.func24, Try.ntmps24
  go_wp2
  go_ret
  exact ⟨ret_bool (by have h : xss ≠ yss := fun e => hne (by rw [← hx.out, ← hy.out, e]); simp [sameS, h]), ((Below.refl _ _).alloc (Nat.le_refl _) _).alloc (by simp) _⟩
set_option maxHeartbeats 800000 in
theorem SAME_rows (r : Int) (A A' : Option Addr) (n c c' : Nat) (xss yss : List (List Int)) (w : World) (B : Nat) (hB : B ≤ w.heap.size) (hx : Hid (RowsAt w B A n xss)) (hy : Hid (RowsAt w B A' n yss)) :
    Calls Try.prog 24 #[.agg #[.int .i64 r, .slice A n c], .agg #[.int .i64 r, .slice A' n c']] w fun e w' => e = .returned (.bool (sameS r xss r yss)) ∧ Below w.heap.size w w' := by
  have hq0 : (r != r) = false := by simp
  have hq : ((n : Int) != (n : Int)) = false := by simp
  have hxl := Lib.hid hx.out.1
  have hyl := Lib.hid hy.out.1
  have hn63 : n ≤ 9223372036854775807 := by have := hx.out.2.1; unfold maxLen at this; omega
  go_enter Try.func24, Try.ntmps24
  go_wp2_with fail
  refine wp_later (w.heap.size + 2) ?_
  intro W hW hsW
  obtain ⟨hcW, hfW⟩ := bcell hW
  simp only [World.size_alloc] at hsW
  have hbB : Below B w W := (((Below.refl B w).alloc hB _).alloc (by simp; omega) _).trans (hW.mono (by omega))
  have hbW : Below w.heap.size w W := (((Below.refl _ w).alloc (Nat.le_refl _) _).alloc (by simp) _).trans (hW.mono (by omega))
  go_wp2
  go_loopw [5] (fun i wr => ∃ k : Nat, k ≤ n ∧ i = .int .i64 k ∧ Hid (xss.take k = yss.take k) ∧ Hid (Below (w.heap.size + 2) W wr)) (fun i _ => n - (intOf i).toNat)
  case atStart => exact ⟨0, Nat.zero_le _, rfl, rfl, Below.refl _ _⟩
  case round =>
    obtain ⟨k, hk, rfl, HT, hb⟩ := hrel
    have hz := pcell hb.out
    by_cases hlt : k < n
    · obtain ⟨ad, rfl⟩ := hx.out.addr (by omega)
      obtain ⟨ad', rfl⟩ := hy.out.addr (by omega)
      obtain ⟨A1, n1, c1, hb1, hc1, hn1, hm1, hi1⟩ := (hx.out.below hbB (Nat.le_refl _)).row hlt
      obtain ⟨A2, n2, c2, hb2, hc2, hn2, hm2, hi2⟩ := (hy.out.below hbB (Nat.le_refl _)).row hlt
      unfold maxLen at hm1 hm2
      have hi1' := Lib.hid hi1
      have hi2' := Lib.hid hi2
      clear hi1 hi2
      have hk0 : (0 : Int) ≤ (k : Int) := by omega
      have hkn : (k : Int) < (n : Int) := by omega
      have hadk : (ad.add k).block < w.heap.size + 2 := by rw [block_of_add]; omega
      have hadk' : (ad'.add k).block < w.heap.size + 2 := by rw [block_of_add]; omega
      by_cases he : rowOf xss k = rowOf yss k
      · have HE := Lib.hid he
        clear he
        go_wp2
        go_quiet ((go_at_call 64; exact Calls.quiet_of ((EQINTS_any A1 A2 n1 c1 n2 c2 (rowOf xss k) (rowOf yss k) _ B (by omega) ((hi1'.out.below hb.out (by omega)).below (belowN (Below.refl _ _) _) (Nat.le_refl _)) ((hi2'.out.below hb.out (by omega)).below (belowN (Below.refl _ _) _) (Nat.le_refl _))).mono fun e w' h => (⟨h.1.trans (ret_bool (by simp [HE.out])), h.2⟩ : e = .returned (.bool true) ∧ _))))
        go_wp2
        go_roundw
        case rel => exact ⟨k + 1, by omega, by go_num, rows_take HT.out (by rw [hxl.out]; exact hlt) (by rw [hyl.out]; exact hlt) HE.out, belowN hb.out _⟩
        case measure => simp [intOf]; omega
      · have HE := Lib.hid he
        clear he
        go_wp2
        go_quiet ((go_at_call 64; exact Calls.quiet_of ((EQINTS_any A1 A2 n1 c1 n2 c2 (rowOf xss k) (rowOf yss k) _ B (by omega) ((hi1'.out.below hb.out (by omega)).below (belowN (Below.refl _ _) _) (Nat.le_refl _)) ((hi2'.out.below hb.out (by omega)).below (belowN (Below.refl _ _) _) (Nat.le_refl _))).mono fun e w' h => (⟨h.1.trans (ret_bool (by simp [HE.out])), h.2⟩ : e = .returned (.bool false) ∧ _))))
        go_wp2
        go_ret
        exact ⟨ret_bool (by have h : xss ≠ yss := fun e => HE.out (by rw [e]); simp [sameS, h]), belowN (hbW.trans (hb.out.mono (by omega))) _⟩
    · obtain rfl : k = n := by omega
      go_wp2
      go_ret
      exact ⟨ret_bool (by have := HT.out; rw [List.take_of_length_le (by rw [hxl.out]; omega), List.take_of_length_le (by rw [hyl.out]; omega)] at this; simp [sameS, this]), hbW.trans (hb.out.mono (by omega))⟩

theorem SAME_any (r r' : Int) (A A' : Option Addr) (n c m c' : Nat) (xss yss : List (List Int)) (w : World) (B : Nat) (hB : B ≤ w.heap.size) (hx : RowsAt w B A n xss) (hy : RowsAt w B A' m yss) :
    Calls Try.prog 24 #[.agg #[.int .i64 r, .slice A n c], .agg #[.int .i64 r', .slice A' m c']] w fun e w' => e = .returned (.bool (sameS r xss r' yss)) ∧ Below w.heap.size w w' := by
  by_cases hr : r = r'
  · subst hr
    by_cases hn : n = m
    · subst hn; exact SAME_rows r A A' n c c' xss yss w B hB hx hy
    · exact SAME_many r A A' n c m c' xss yss hn hx.1 hy.1 w
  · exact SAME_rate r r' A A' n c m c' xss yss hr w
end Go.Proofs.Ytpnbkkpbgpcgiaa
