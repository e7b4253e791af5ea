/- Ratios: what Sum, Product, Inverse, Order, Rounded and RatioOf answer, plain. -/
import Derived.Test.YtkmcohnhanphdaaGreatDoorYk
import Derived.Test.YtkmcohnhanphdaaGreatDoorYl
set_option linter.unusedSimpArgs false
set_option linter.unusedVariables false
namespace Go.Proofs.YtkmcohnhanphdaaGreatDoor
open Go.RowKit Go.Dw
structure Rt (s t : ByteArray) (q : Rat) : Prop where
  few : fewT q 2000 = true
  num : s = txN q
  den : t = txD q
theorem Rt.of {s t : ByteArray} (h : chkQ s t = 0) : Rt s t (valQ s t) := ⟨(chk_right h).fewT, (chk_right h).tx.1, (chk_right h).tx.2⟩
theorem Rt.chk {s t : ByteArray} {q : Rat} (h : Rt s t q) : chkQ s t = 0 := by rw [h.num, h.den]; exact chk_few h.few
theorem Rt.val {s t : ByteArray} {q : Rat} (h : Rt s t q) : valQ s t = q := by rw [h.num, h.den]; exact valQ_tx q
theorem Rt.size {s t : ByteArray} {q : Rat} (h : Rt s t q) : s.size ≤ 2001 ∧ t.size ≤ 2000 := by
  have h1 := (few_iff q 2000).1 h.few
  rw [h.num, h.den]
  refine ⟨?_, by rw [txD_size]; exact h1.2⟩
  rw [← len_data, txN_data]
  unfold numT
  rw [List.length_append]
  split <;> simp <;> omega
/-! SumsAreExact -/
end Go.Proofs.YtkmcohnhanphdaaGreatDoor
/- clock: result, checkTwo, RatioOf, Rounded. -/
namespace Go.Proofs.YtkmcohnhanphdaaGreatDoor
open Go.RowKit Go.Dw
theorem FROM_ok {s t : ByteArray} {q : Rat} (h : Rt s t q) (w : World) : Calls Tryz.prog 67 #[.agg #[.string s, .string t]] w (OutQ w q 2001 2000) := by
  have hr := chk_right h.chk
  have hz := h.size
  refine (QFROM_any s t (Lib.hid hr.body.1) (by omega) (Lib.hid hr.den.1) (by omega) w).mono ?_
  rintro e w' ⟨neg, A, n, c, A', n', c', rfl, h1, h2, h3, h4⟩
  refine ⟨neg, A, n, c, A', n', c', rfl, ?_, by omega, by omega, h4⟩
  have := h1.rat hr.pos (by rw [parseZ_abs]; exact hr.low)
  rw [show mkRat (parseZ s) (decV t.data.toList) = q from h.val] at this
  exact this
end Go.Proofs.YtkmcohnhanphdaaGreatDoor
