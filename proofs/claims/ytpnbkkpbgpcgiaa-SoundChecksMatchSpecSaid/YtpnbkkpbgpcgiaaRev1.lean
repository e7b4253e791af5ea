/- slices.Reverse at []int, over a row of the call's own. -/
import Derived.Test.YtpnbkkpbgpcgiaaEach
import Derived.Test.YtpnbkkpbgpcgiaaSpecE
import Derived.RegionTactic
import Derived.BigRegion
set_option linter.unusedSimpArgs false
set_option linter.unusedVariables false
namespace Go.Proofs.Ytpnbkkpbgpcgiaa
open Go.RowKit Go.Dw

/-- one row is written anew, in its place -/
theorem OwnRowsL.rewrite {w w' : World} {B : Nat} {v r : Value} {k b : Nat} {xs : List Int} {xss : List (List Int)} {rows : List Value} (h : OwnRowsL w B v xss rows) (hr : rows[k]? = some r) (hb : r.ownBlock = some b) (hg : w.grownBy w' (some b)) (hn : w'.ownsRow B 3 1 r xs.length (xs.map (Value.int .i64))) :
    OwnRowsL w' B v (xss.set k xs) rows := by
  have hl : rows.length = xss.length := by simpa using h.outer.1
  have hk : k < xss.length := by have := (List.getElem?_eq_some_iff.1 hr).1; omega
  have hin := h.inner k _ hr
  refine ⟨?_, fun i q hq => ?_, h.apart⟩
  · rw [List.length_set]
    refine h.outer.kept hg ?_
    rcases own_ne h.outer hin (by decide) with h1 | h1
    · exact .inl h1
    · exact .inr (by rw [← hb]; exact h1)
  · rw [rowOf_set _ _ _ _ hk]
    by_cases hik : i = k
    · subst hik
      rw [if_pos rfl]
      rw [hr] at hq
      injection hq with hq
      subst hq
      exact hn
    · rw [if_neg hik]
      refine (h.inner i q hq).kept hg ?_
      rcases Nat.lt_or_gt_of_ne hik with hlt | hlt
      · rcases h.apart i k q _ hlt hq hr with h1 | h1
        · exact .inl h1
        · exact .inr (by rw [← hb]; exact h1)
      · rcases h.apart k i _ q hlt hr hq with h1 | h1
        · rw [hb] at h1; cases h1
        · exact .inr (by rw [← hb]; exact Ne.symm h1)

theorem grown_own (w : World) (b j : Nat) (u : Value) : w.grownBy (w.setCell ⟨b, j, none⟩ u) (some b) :=
  ⟨rfl, rfl, rfl, by simp [World.setCell], fun i hi hne => Below.heap_setCell _ _ _ _ (by simpa using fun e => hne (by rw [e]))⟩
set_option maxHeartbeats 800000 in
theorem SLREV_nil (A : Option Addr) (c : Nat) (w : World) : Calls Try.prog 74 #[.slice A 0 c] w fun e w' => e = .returned (.tuple #[]) ∧ w = w' := by
  go_enter Try.func74, Try.ntmps74
  go_wp2
  go_loop [2, 3] (fun i j => i = .int .i64 0 ∧ j = .int .i64 (-1)) (fun _ _ => 0)
  case atStart => exact ⟨rfl, rfl⟩
  case round =>
    obtain ⟨rfl, rfl⟩ := hrel
    go_wp2
    go_end0
    exact ⟨rfl, rfl⟩
set_option maxHeartbeats 800000 in
theorem SLREV_any (base b m cap : Nat) (xs : List Int) (hm : m ≤ 1000000000) (h0 : 0 < m) (w : World) (h : Hid (w.ownsRow base 3 1 (.slice (some ⟨b, 0, none⟩) m cap) m (xs.map (Value.int .i64)))) :
    Calls Try.prog 74 #[.slice (some ⟨b, 0, none⟩) m cap] w fun e w' => e = .returned (.tuple #[]) ∧ w'.ownsRow base 3 1 (.slice (some ⟨b, 0, none⟩) m cap) m (xs.reverse.map (Value.int .i64)) ∧ w.grownBy w' (some b) := by
  have hl : Hid (xs.length = m) := by show _ = _; have := h.out.1; simpa using this
  go_enter Try.func74, Try.ntmps74
  go_wp2
  go_loopw [2, 3] (fun i j wr => ∃ k : Nat, 2 * k ≤ m ∧ i = .int .i64 k ∧ j = .int .i64 ((m : Int) - 1 - k) ∧ Hid (wr.ownsRow base 3 1 (.slice (some ⟨b, 0, none⟩) m cap) m ((revK xs k).map (Value.int .i64))) ∧ Hid (w.grownBy wr (some b))) (fun i _ _ => m - (intOf i).toNat)
  case atStart => exact ⟨0, Nat.zero_le _, rfl, by simp, by rw [revK_start]; exact h.out, World.grownBy.refl _ _⟩
  case round =>
    obtain ⟨k, hk, rfl, rfl, ho, hg⟩ := hrel
    by_cases hlt : (k : Int) < (m : Int) - 1 - k
    · go_wp2
      obtain ⟨j, hj⟩ : ∃ j : Nat, j = m - 1 - k := ⟨_, rfl⟩
      have hji : (m : Int) - 1 - (k : Int) = (j : Int) := by omega
      have hkj : k < j := by omega
      have hjm : j < m := by omega
      rw [hji]
      have Hj := Lib.hid hj
      have hx : ∀ a, a < m → (((revK xs k).map (Value.int .i64))[a]?) = some (.int .i64 (elOf (revK xs k) a)) := fun a ha => by
        rw [List.getElem?_map, List.getElem?_eq_getElem (by rw [revK_length]; have := hl.out; omega), elOf_lt (by rw [revK_length]; have := hl.out; omega)]; rfl
      have hl' := hl.out
      have c1 : wr.cell? ⟨b, k, none⟩ = some (.int .i64 (elOf xs k)) := by
        rw [ho.out.cellAt k (by omega), hx k (by omega), revK_el (by omega), if_neg (by omega)]
      have c2 : wr.cell? ⟨b, j, none⟩ = some (.int .i64 (elOf xs j)) := by
        rw [ho.out.cellAt j (by omega), hx j (by omega), revK_el (by omega), if_neg (by omega)]
      have f1 := ho.out.frozenAt k
      have f2 := ho.out.frozenAt j
      have hcap : m ≤ cap := by
        obtain ⟨A, c, e, h1, h2⟩ := own_form ho.out
        injection e with _ _ e3; omega
      have hne1 : ¬ k = j := by omega
      have hne2 : ¬ j = k := by omega
      have hkm : k < m := by omega
      clear hl' hx hj hji hlt
      go_region
      go_wp2
      go_roundw
      case rel =>
        have hj := Hj.out
        refine ⟨k + 1, by omega, by go_num, val_int (by omega), ?_, ?_⟩
        · have h1 := ((ho.out.stored k (.int .i64 (elOf xs j))).1.stored j (.int .i64 (elOf xs k))).1
          have h2 := revK_step (xs := xs) (i := k) (by rw [hl.out, ← Hj.out]; exact hkj)
          rw [hl.out, ← Hj.out] at h2
          rw [← List.map_set, ← List.map_set, h2] at h1
          exact h1
        · exact grownBy_drew (World.grownBy.trans (World.grownBy.trans hg.out (grown_own _ _ _ _)) (grown_own _ _ _ _))
      case measure => simp [intOf]; omega
    · go_wp2
      go_end0
      exact ⟨rfl, by have := ho.out; rw [revK_end (by rw [hl.out]; omega) (by rw [hl.out]; exact hk)] at this; first | exact this | (rw [List.map_reverse] at this; exact this), hg.out⟩
end Go.Proofs.Ytpnbkkpbgpcgiaa
