/- clock.Decimal. -/
import Derived.Test.YtcjdmffflepplaaGreatDoorCwl
import Derived.Test.YtcjdmffflepplaaGreatDoorRegion3
import Derived.Test.YtcjdmffflepplaaGreatDoorYp
set_option linter.unusedSimpArgs false
set_option linter.unusedVariables false
namespace Go.Proofs.YtcjdmffflepplaaGreatDoor
open Go.RowKit Go.Dw Go.Joins
def txtZ (z : Int) : List UInt8 := (if z < 0 then [45] else []) ++ Lib.decDigits z.natAbs
theorem txtZ_parts {s : ByteArray} {z : Int} (h : s.data.toList = txtZ z) : negT s = decide (z < 0) ∧ bodyT s = Lib.decDigits z.natAbs := by
  unfold negT bodyT
  rw [h]
  unfold txtZ
  by_cases hz : z < 0
  · rw [if_pos hz, decide_eq_true hz, List.singleton_append]
    refine ⟨neg_cons _, ?_⟩
    unfold Lib.trimPrefix
    rw [if_pos (neg_cons _)]
    rfl
  · rw [if_neg hz, decide_eq_false hz, List.nil_append]
    exact ⟨good_noneg (allDig_decDigits _), prefix_false (good_noneg (allDig_decDigits _))⟩
def padZ (l : List UInt8) (p : Nat) : List UInt8 := List.replicate (p + 1 - l.length) 48 ++ l
def padT (l : List UInt8) (p : Nat) : List UInt8 := if 0 < p then (padZ l p).take ((padZ l p).length - p) ++ ([46] ++ (padZ l p).drop ((padZ l p).length - p)) else padZ l p
def scQ (p : Nat) : Rat := ((10 ^ p : Nat) : Int)
def decT (q : Rat) (p : Nat) : List UInt8 := (if nearQ (q * scQ p) < 0 then [45] else []) ++ padT (Lib.decDigits (nearQ (q * scQ p)).natAbs) p
noncomputable def decS (s t : ByteArray) (places : Int) : ByteArray × Int := if chkQ s t = 0 then (if places < 0 ∨ 30 < places then (noB, 1) else (⟨(decT (valQ s t) places.toNat).toArray⟩, 0)) else (noB, chkQ s t)
theorem decV_one (p : Nat) : decV (49 :: List.replicate p (48 : UInt8)) = 10 ^ p := by
  have h := decV_append [49] (List.replicate p 48)
  rw [List.singleton_append, decV_zeros, List.length_replicate] at h
  rw [h]
  have : decV [49] = 1 := rfl
  rw [this]; omega
theorem one_all (p : Nat) : AllDig (49 :: List.replicate p (48 : UInt8)) := fun c hc => by
  rcases List.mem_cons.1 hc with h | h
  · subst h; decide
  · exact allDig_zeros p c h
set_option maxRecDepth 100000 in
set_option maxHeartbeats 1000000 in
theorem ITEXT_any (neg : Bool) (A : Option Addr) (n c : Nat) (z : Int) (hn : n ≤ 900000) (w : World) (B : Nat) (hB : B ≤ w.heap.size) (hh : Hid (IntAt w B neg A n c z)) :
    Calls Tryz.prog 46 #[.agg #[.bool neg, .slice A n c]] w fun e w' => (∃ s : ByteArray, e = .returned (.string s) ∧ s.data.toList = txtZ z) ∧ Below w.heap.size w w' := by
  obtain ⟨W, gx, hW, hgx, HHW, HBW, HSW⟩ := cell_new w 44 #[.bool neg, .slice A n c]
  obtain ⟨x0, x1, _, _⟩ := two_cells HHW.out
  have hsw := HSW.out
  have HNW : Hid (IntAt W W.heap.size neg A n c z) := hh.out.to HBW.out hB (by omega)
  clear hsw
  have HNEG := Lib.hid hh.out.1
  obtain ⟨s, hs⟩ : ∃ s : ByteArray, s = ⟨(Lib.decDigits z.natAbs).toArray⟩ := ⟨_, rfl⟩
  have HSS : Hid (s.data.toList = Lib.decDigits z.natAbs) := by show _ = _; rw [hs]
  have hsz : s.size ≤ 10000000 := by
    rw [← len_data, HSS.out]
    have h1 := hh.out.2.lt_pow
    have h2 : (4294967296 : Nat) ^ n ≤ 10 ^ (10 * n + 1) := by
      refine Nat.le_trans (Nat.pow_le_pow_left (show (4294967296 : Nat) ≤ 10 ^ 10 by decide) n) ?_
      rw [← Nat.pow_mul]
      exact Nat.pow_le_pow_right (by omega) (by omega)
    have h3 := dec_len (10 * n + 1) z.natAbs (Nat.succ_pos _) (Nat.lt_of_lt_of_le h1 h2)
    omega
  go_enter Tryz.func46, Tryz.ntmps46
  go_upto_region 1 with (fail)
  rw [← hW, ← hgx]
  clear hW hgx
  cases neg with
  | true =>
    have HZ : Hid (z < 0) := by have := HNEG.out; show z < 0; simpa using this
    go_wp2_with fail
    refine (NTEXT_any A n c _ (by omega) _ W.heap.size (Nat.le_refl _) (Lib.hid HNW.out.2)).mono ?_
    rintro e w1 ⟨rfl, hb1⟩
    have HB1 := Lib.hid (HBW.out.trans (hb1.mono HBW.out.size))
    rw [← hs]
    clear hb1 hs
    have h45 : (⟨#[45]⟩ : ByteArray).size = 1 := rfl
    go_wp2_with fail
    go_ret
    refine ⟨⟨_, rfl, ?_⟩, HB1.out⟩
    unfold txtZ
    rw [if_pos HZ.out, ← HSS.out]
    simp [ByteArray.data_append]
  | false =>
    have HZ : Hid ((if z < 0 then [45] else []) = ([] : List UInt8)) := by
      have h9 : ¬ z < 0 := of_decide_eq_false HNEG.out.symm
      exact if_neg h9
    go_wp2_with fail
    refine (NTEXT_any A n c _ (by omega) _ W.heap.size (Nat.le_refl _) (Lib.hid HNW.out.2)).mono ?_
    rintro e w1 ⟨rfl, hb1⟩
    have HB1 := Lib.hid (HBW.out.trans (hb1.mono HBW.out.size))
    rw [← hs]
    clear hb1 hs
    go_wp2_with fail
    go_ret
    refine ⟨⟨_, rfl, ?_⟩, HB1.out⟩
    unfold txtZ
    rw [HZ.out, ← HSS.out, List.nil_append]
theorem scQ_num (p : Nat) : (scQ p).num = ((10 ^ p : Nat) : Int) ∧ (scQ p).den = 1 := ⟨rfl, rfl⟩
end Go.Proofs.YtcjdmffflepplaaGreatDoor
