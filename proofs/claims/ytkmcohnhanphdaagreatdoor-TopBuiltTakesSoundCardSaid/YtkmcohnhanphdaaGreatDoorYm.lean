/- Ratios: what Sum, Product, Inverse, Order, Rounded and RatioOf answer, plain. -/
import Derived.Test.YtkmcohnhanphdaaGreatDoorYk
import Derived.Test.YtkmcohnhanphdaaGreatDoorYl
set_option linter.unusedSimpArgs false
set_option linter.unusedVariables false
namespace Go.Proofs.YtkmcohnhanphdaaGreatDoor
open Go.RowKit Go.Dw
def noB : ByteArray := ⟨#[]⟩
abbrev R3 := ByteArray × ByteArray × Int
def tup3 (p : R3) : Value := .tuple #[.agg #[.string p.1, .string p.2.1], .int .i64 p.2.2]
def resP (q : Rat) : R3 := if fewT q 2000 = true then (txN q, txD q, 0) else (noB, noB, 2)
noncomputable def chk2 (s t s' t' : ByteArray) : Int := if chkQ s t = 0 then chkQ s' t' else chkQ s t
noncomputable def sumS (s t s' t' : ByteArray) : R3 := if chk2 s t s' t' = 0 then resP (valQ s t + valQ s' t') else (noB, noB, chk2 s t s' t')
noncomputable def prodS (s t s' t' : ByteArray) : R3 := if chk2 s t s' t' = 0 then resP (valQ s t * valQ s' t') else (noB, noB, chk2 s t s' t')
noncomputable def invS (s t : ByteArray) : R3 := if chkQ s t = 0 then (if valQ s t = 0 then (noB, noB, 13) else resP (1 / valQ s t)) else (noB, noB, chkQ s t)
noncomputable def ordS (s t s' t' : ByteArray) : Int × Int := if chk2 s t s' t' = 0 then (cmpQ (valQ s t) (valQ s' t'), 0) else (0, chk2 s t s' t')
def ratioS (a b : Int) : R3 := if b = 0 then (noB, noB, 13) else resP ((a : Rat) / b)
def rndZ (z : Int) : Int × Int := if z.natAbs ≤ 4611686018427387904 then (z, 0) else (0, 1)
noncomputable def rndS (s t : ByteArray) (way : Int) : Int × Int := if chkQ s t = 0 then (if okWay way = false then (0, 4) else rndZ (roundQ (valQ s t) way)) else (0, chkQ s t)
/-- a right ratio with its number -/
structure Rt (s t : ByteArray) (q : Rat) : Prop where
  few : fewT q 2000 = true
  num : s = txN q
  den : t = txD q
theorem Rt.of {s t : ByteArray} (h : chkQ s t = 0) : Rt s t (valQ s t) := ⟨(chk_right h).fewT, (chk_right h).tx.1, (chk_right h).tx.2⟩
theorem Rt.tx {q : Rat} (h : fewT q 2000 = true) : Rt (txN q) (txD q) q := ⟨h, rfl, rfl⟩
theorem Rt.chk {s t : ByteArray} {q : Rat} (h : Rt s t q) : chkQ s t = 0 := by rw [h.num, h.den]; exact chk_few h.few
theorem Rt.val {s t : ByteArray} {q : Rat} (h : Rt s t q) : valQ s t = q := by rw [h.num, h.den]; exact valQ_tx q
theorem Rt.size {s t : ByteArray} {q : Rat} (h : Rt s t q) : s.size ≤ 2001 ∧ t.size ≤ 2000 := by
  have h1 := (few_iff q 2000).1 h.few
  rw [h.num, h.den]
  refine ⟨?_, by rw [txD_size]; exact h1.2⟩
  rw [← len_data, txN_data]
  unfold numT
  rw [List.length_append]
  split <;> simp <;> omega
theorem Rt.chk2 {s t s' t' : ByteArray} {q r : Rat} (h : Rt s t q) (h' : Rt s' t' r) : chk2 s t s' t' = 0 := by unfold Go.Proofs.YtkmcohnhanphdaaGreatDoor.chk2; rw [if_pos h.chk, h'.chk]
theorem chk2_zero {s t s' t' : ByteArray} (h : chk2 s t s' t' = 0) : Rt s t (valQ s t) ∧ Rt s' t' (valQ s' t') := by
  unfold chk2 at h
  by_cases h1 : chkQ s t = 0
  · rw [if_pos h1] at h; exact ⟨Rt.of h1, Rt.of h⟩
  · rw [if_neg h1] at h; exact absurd h h1
theorem resP_few {q : Rat} (h : fewT q 2000 = true) : resP q = (txN q, txD q, 0) := by unfold resP; rw [if_pos h]
theorem resP_ok {q : Rat} (h : (resP q).2.2 = 0) : fewT q 2000 = true := by
  unfold resP at h
  by_cases h1 : fewT q 2000 = true
  · exact h1
  · rw [if_neg h1] at h; exact absurd h (by decide)
theorem sumS_rt {s t s' t' : ByteArray} {q r : Rat} (h : Rt s t q) (h' : Rt s' t' r) : sumS s t s' t' = resP (q + r) := by unfold sumS; rw [if_pos (h.chk2 h'), h.val, h'.val]
theorem prodS_rt {s t s' t' : ByteArray} {q r : Rat} (h : Rt s t q) (h' : Rt s' t' r) : prodS s t s' t' = resP (q * r) := by unfold prodS; rw [if_pos (h.chk2 h'), h.val, h'.val]
theorem ordS_rt {s t s' t' : ByteArray} {q r : Rat} (h : Rt s t q) (h' : Rt s' t' r) : ordS s t s' t' = (cmpQ q r, 0) := by unfold ordS; rw [if_pos (h.chk2 h'), h.val, h'.val]
theorem invS_rt {s t : ByteArray} {q : Rat} (h : Rt s t q) : invS s t = if q = 0 then (noB, noB, 13) else resP (1 / q) := by unfold invS; rw [if_pos h.chk, h.val]
theorem rndS_rt {s t : ByteArray} {q : Rat} (h : Rt s t q) {way : Int} (hw : okWay way = true) : rndS s t way = rndZ (roundQ q way) := by unfold rndS; rw [if_pos h.chk, if_neg (by rw [hw]; simp), h.val]
theorem prodS_ok {s t s' t' : ByteArray} (h : (prodS s t s' t').2.2 = 0) : ∃ q r, Rt s t q ∧ Rt s' t' r ∧ fewT (q * r) 2000 = true := by
  by_cases h1 : chk2 s t s' t' = 0
  · obtain ⟨a, b⟩ := chk2_zero h1
    rw [prodS_rt a b] at h
    exact ⟨_, _, a, b, resP_ok h⟩
  · unfold prodS at h
    rw [if_neg h1] at h
    exact absurd h h1
/-! SumsAreExact -/
theorem sums_comm (s t s' t' : ByteArray) :
    (∃ q r, Rt s t q ∧ Rt s' t' r ∧ fewT (q + r) 2000 = true ∧ sumS s t s' t' = (txN (q + r), txD (q + r), 0) ∧ sumS s' t' s t = (txN (q + r), txD (q + r), 0)) ∨
    ((sumS s t s' t').2.2 ≠ 0 ∧ (sumS s' t' s t).2.2 ≠ 0 ∧ (chkQ s t ≠ 0 ∨ chkQ s' t' ≠ 0 ∨ (sumS s t s' t').2.2 = (sumS s' t' s t).2.2)) := by
  by_cases h1 : chkQ s t = 0
  · by_cases h2 : chkQ s' t' = 0
    · have a := Rt.of h1
      have b := Rt.of h2
      by_cases h3 : fewT (valQ s t + valQ s' t') 2000 = true
      · refine .inl ⟨_, _, a, b, h3, by rw [sumS_rt a b, resP_few h3], ?_⟩
        rw [sumS_rt b a, Rat.add_comm, resP_few h3]
      · refine .inr ?_
        rw [sumS_rt a b, sumS_rt b a, Rat.add_comm (valQ s' t')]
        exact ⟨fun h => h3 (resP_ok h), fun h => h3 (resP_ok h), .inr (.inr rfl)⟩
    · have hn : chk2 s t s' t' ≠ 0 := by unfold chk2; rw [if_pos h1]; exact h2
      have hm : chk2 s' t' s t ≠ 0 := by unfold chk2; rw [if_neg h2]; exact h2
      refine .inr ⟨?_, ?_, .inr (.inl h2)⟩
      · unfold sumS; rw [if_neg hn]; exact hn
      · unfold sumS; rw [if_neg hm]; exact hm
  · have hn : chk2 s t s' t' ≠ 0 := by unfold chk2; rw [if_neg h1]; exact h1
    have hm : chk2 s' t' s t ≠ 0 := by
      unfold chk2
      by_cases h2 : chkQ s' t' = 0
      · rw [if_pos h2]; exact h1
      · rw [if_neg h2]; exact h2
    refine .inr ⟨?_, ?_, .inl h1⟩
    · unfold sumS; rw [if_neg hn]; exact hn
    · unfold sumS; rw [if_neg hm]; exact hm
theorem sums_dist {s t s' t' s2 t2 u v : ByteArray} {q r : Rat} (h : Rt s t q) (h' : Rt s' t' r) (hs : Rt s2 t2 (q + r)) (h3 : (prodS s2 t2 u v).2.2 = 0) (h4 : (prodS s t u v).2.2 = 0) (h5 : (prodS s' t' u v).2.2 = 0) :
    sumS (prodS s t u v).1 (prodS s t u v).2.1 (prodS s' t' u v).1 (prodS s' t' u v).2.1 = prodS s2 t2 u v ∧ (prodS s t u v).1.size ≤ 2001 ∧ (prodS s t u v).2.1.size ≤ 2001 ∧ (prodS s' t' u v).1.size ≤ 2001 ∧ (prodS s' t' u v).2.1.size ≤ 2001 := by
  obtain ⟨x, y, hx, hy, hf⟩ := prodS_ok h3
  obtain rfl : x = q + r := by rw [← hx.val, hs.val]
  rw [prodS_rt h hy] at h4 ⊢
  rw [prodS_rt h' hy] at h5 ⊢
  rw [prodS_rt hs hy, resP_few (resP_ok h4), resP_few (resP_ok h5)]
  have a := Rt.tx (resP_ok h4)
  have b := Rt.tx (resP_ok h5)
  have a1 := a.size
  have b1 := b.size
  refine ⟨?_, a1.1, Nat.le_succ_of_le a1.2, b1.1, Nat.le_succ_of_le b1.2⟩
  rw [sumS_rt a b, Rat.add_mul]
theorem few_inv {q : Rat} (h0 : q ≠ 0) (m : Nat) : fewT (1 / q) m = fewT q m := by
  have hn : q.num ≠ 0 := fun h => h0 (Rat.num_eq_zero.1 h)
  have e : (1 : Rat) / q = q⁻¹ := by rw [Rat.div_def, Rat.one_mul]
  have h1 : (1 / q).num.natAbs = q.den := by
    rw [e, Rat.num_inv, Int.natAbs_mul, Int.natAbs_sign, if_neg hn]
    simp
  have h2 : (1 / q).den = q.num.natAbs := by rw [e, Rat.den_inv, if_neg hn]
  unfold fewT
  rw [h1, h2, Bool.and_comm]
theorem tx_one : txN 1 = ⟨#[49]⟩ ∧ txD 1 = ⟨#[49]⟩ ∧ fewT 1 2000 = true := by
  have h : Lib.decDigits 1 = [49] := by rw [Lib.decDigits, dif_pos (by omega)]; rfl
  refine ⟨?_, ?_, ?_⟩
  · unfold txN numT
    rw [Rat.one_num, if_neg (by omega), show (1 : Int).natAbs = 1 from rfl, h]
    rfl
  · unfold txD
    rw [Rat.one_den, h]
  · rw [few_iff, Rat.one_num, Rat.one_den, show (1 : Int).natAbs = 1 from rfl, h]
    simp
theorem tx_zero : txN 0 = ⟨#[48]⟩ := by
  unfold txN numT
  rw [Rat.zero_num, if_neg (by omega), show (0 : Int).natAbs = 0 from rfl, dec_zero]
  rfl
theorem sums_inv {s t : ByteArray} {q : Rat} (h : Rt s t q) : ((invS s t).2.2 ≠ 0 ∧ s = ⟨#[48]⟩) ∨ ((invS s t).2.2 = 0 ∧ (invS s t).1.size ≤ 2001 ∧ (invS s t).2.1.size ≤ 2001 ∧ prodS s t (invS s t).1 (invS s t).2.1 = (⟨#[49]⟩, ⟨#[49]⟩, 0)) := by
  rw [invS_rt h]
  by_cases h0 : q = 0
  · rw [if_pos h0]
    exact .inl ⟨by decide, by rw [h.num, h0, tx_zero]⟩
  · rw [if_neg h0]
    have hf : fewT (1 / q) 2000 = true := by rw [few_inv h0]; exact h.few
    rw [resP_few hf]
    have a := Rt.tx hf
    have a1 := a.size
    refine .inr ⟨rfl, a1.1, Nat.le_succ_of_le a1.2, ?_⟩
    obtain ⟨o1, o2, o3⟩ := tx_one
    rw [prodS_rt h a, show q * (1 / q) = 1 by rw [Rat.div_def, Rat.one_mul, Rat.mul_inv_cancel q h0], resP_few o3, o1, o2]
end Go.Proofs.YtkmcohnhanphdaaGreatDoor

/- clock: result, checkTwo, RatioOf, Rounded. -/
set_option linter.unusedSimpArgs false
set_option linter.unusedVariables false
namespace Go.Proofs.YtkmcohnhanphdaaGreatDoor
open Go.RowKit Go.Dw
theorem FROM_ok {s t : ByteArray} {q : Rat} (h : Rt s t q) (w : World) : Calls Tryz.prog 67 #[.agg #[.string s, .string t]] w (OutQ w q 2001 2000) := by
  have hr := chk_right h.chk
  have hz := h.size
  refine (QFROM_any s t (Lib.hid hr.body.1) (by omega) (Lib.hid hr.den.1) (by omega) w).mono ?_
  rintro e w' ⟨neg, A, n, c, A', n', c', rfl, h1, h2, h3, h4⟩
  refine ⟨neg, A, n, c, A', n', c', rfl, ?_, by omega, by omega, h4⟩
  have := h1.rat hr.pos (by rw [parseZ_abs]; exact hr.low)
  rw [show mkRat (parseZ s) (decV t.data.toList) = q from h.val] at this
  exact this
theorem end_ratio_new {fn : Func} {R : Ending → World → Prop} {a : Act} {w : World} {p u : Tmp} {g : Nat} {v0 v1 o0 o1 : Value} {o : Obj} (h : fn.results = #[.cell p 66, .tmp u]) (hp : a.tmps.getD p undef = .pointer (some ⟨g, 0, none⟩)) (hd : a.defers = []) (c0 : w.cell? ⟨g, 0, none⟩ = some o0) (c1 : w.cell? ⟨g, 1, none⟩ = some o1)
    (hR : R (.returned (.tuple #[.agg #[v0, v1], a.tmps.getD u undef])) (((w.setCell ⟨g, 0, none⟩ v0).setCell ⟨g, 1, none⟩ v1).alloc o)) : bodyPost Tryz.prog fn R .ret a (((w.setCell ⟨g, 0, none⟩ v0).setCell ⟨g, 1, none⟩ v1).alloc o) := by
  have hg : g < w.heap.size := World.block_lt_of_cell? w ⟨g, 0, none⟩ c0
  obtain ⟨k0, k1⟩ := two_set' w g o0 o1 v0 v1 c0 c1
  have hs : ((w.setCell ⟨g, 0, none⟩ v0).setCell ⟨g, 1, none⟩ v1).heap.size = w.heap.size := by simp
  have hb := (Below.refl ((w.setCell ⟨g, 0, none⟩ v0).setCell ⟨g, 1, none⟩ v1).heap.size ((w.setCell ⟨g, 0, none⟩ v0).setCell ⟨g, 1, none⟩ v1)).alloc (Nat.le_refl _) o
  exact bodyPost_ret (res_ratio h hp ((hb.cell (p := ⟨g, 0, none⟩) (by rw [hs]; exact hg)).trans k0) ((hb.cell (p := ⟨g, 1, none⟩) (by rw [hs]; exact hg)).trans k1)) hd hR
theorem ratioS_frac {a b : Int} (hb : b ≠ 0) : ratioS a b = resP ((a : Rat) / b) := by unfold ratioS; rw [if_neg hb]
theorem rnd_small (z : Int) : (rndZ z = (z, 0) ∧ z.natAbs ≤ 4611686018427387904) ∨ (rndZ z = (0, 1) ∧ 4611686018427387904 < z.natAbs) := by
  unfold rndZ
  by_cases h : z.natAbs ≤ 4611686018427387904
  · rw [if_pos h]; exact .inl ⟨rfl, h⟩
  · rw [if_neg h]; exact .inr ⟨rfl, by omega⟩
end Go.Proofs.YtkmcohnhanphdaaGreatDoor
