/- The plain functions of chapter 2, continued: what is cut is joined again. -/
import Derived.Test.YtpnbkkpbgpcgiaaJoin
import Derived.Test.YtpnbkkpbgpcgiaaRev3
import Derived.Test.YtpnbkkpbgpcgiaaCut
set_option linter.unusedSimpArgs false
set_option linter.unusedVariables false
namespace Go.Proofs.Ytpnbkkpbgpcgiaa
open Go.RowKit Go.Dw
theorem cutXs_row {p q : Int} {xss : List (List Int)} {k : Nat} (hk : k < xss.length) : rowOf (cutXs p q xss) k = ((rowOf xss k).drop p.toNat).take (q.toNat - p.toNat) := by
  simp [cutXs, rowOf, List.getD, hk]
theorem OkS.cut_ {r : Int} {xss : List (List Int)} {p q : Int} (h : OkS r xss) (hp : 0 ≤ p) (hpq : p ≤ q) (hq : q ≤ len0 xss) : OkS r (cutXs p q xss) ∧ len0 (cutXs p q xss) = q.toNat - p.toNat := by
  have hl : len0 (cutXs p q xss) = q.toNat - p.toNat := by
    show (rowOf (cutXs p q xss) 0).length = _
    rw [cutXs_row h.some, List.length_take, List.length_drop, (h.row h.some).1]; omega
  refine ⟨⟨h.rate, by rw [cutXs_length]; exact h.some, by rw [cutXs_length]; exact h.few, by have := h.long; omega, fun t ht => ?_⟩, hl⟩
  obtain ⟨u, hu, rfl⟩ := List.mem_map.1 ht
  have hr := h.rows u hu
  refine ⟨by rw [hl, List.length_take, List.length_drop, hr.1]; omega, ?_⟩
  rw [List.all_eq_true] at hr ⊢
  exact fun x hx => hr.2 x (List.mem_of_mem_drop (List.mem_of_mem_take hx))
theorem joinS_ok {r : Int} {xss yss : List (List Int)} (h : OkS r xss) (h' : OkS r yss) (hl : xss.length = yss.length) (hL : len0 xss + len0 yss ≤ 100000) : joinS r r xss yss = (r, jnK xss yss xss.length, 0) := by
  have h1 : both1 r r xss yss = 0 := by unfold both1; rw [if_neg (by simp [chkS_mk h]), chkS_mk h']
  have h2 : both2 r r xss yss = 0 := by unfold both2 alikeB; rw [if_neg (by simp [h1]), if_neg (by simp [hl])]
  unfold joinS
  rw [if_neg (by simp [h2]), if_neg (by omega)]
theorem jnK_row {xss yss : List (List Int)} {n k : Nat} (hk : k < n) : rowOf (jnK xss yss n) k = rowOf xss k ++ rowOf yss k := by
  simp [jnK, rowOf, List.getD, hk]
theorem cut_join {r : Int} {xss : List (List Int)} (h : OkS r xss) {a : Int} (h0 : 0 ≤ a) (h1 : a ≤ len0 xss) : joinS r r (cutXs 0 a xss) (cutXs a (len0 xss : Int) xss) = (r, xss, 0) := by
  obtain ⟨o1, l1⟩ := OkS.cut_ h (p := 0) (q := a) (by omega) h0 h1
  obtain ⟨o2, l2⟩ := OkS.cut_ h (p := a) (q := (len0 xss : Int)) h0 h1 (by omega)
  rw [joinS_ok o1 o2 (by simp [cutXs_length]) (by have := h.long; omega)]
  congr 2
  rw [cutXs_length]
  refine ext_rows jnK_length fun k hk => ?_
  rw [jnK_length] at hk
  rw [jnK_row hk, cutXs_row hk, cutXs_row hk]
  have hr := (h.row hk).1
  have e : List.take ((len0 xss : Int).toNat - a.toNat) (List.drop a.toNat (rowOf xss k)) = List.drop a.toNat (rowOf xss k) := List.take_of_length_le (by rw [List.length_drop]; omega)
  rw [e]
  simp
theorem cut_join_rev {r : Int} {xss : List (List Int)} (h : OkS r xss) {a : Int} (h0 : 0 ≤ a) (h1 : a ≤ len0 xss) : joinS r r ((cutXs a (len0 xss : Int) xss).map List.reverse) ((cutXs 0 a xss).map List.reverse) = (r, xss.map List.reverse, 0) := by
  obtain ⟨o1, l1⟩ := OkS.cut_ h (p := 0) (q := a) (by omega) h0 h1
  obtain ⟨o2, l2⟩ := OkS.cut_ h (p := a) (q := (len0 xss : Int)) h0 h1 (by omega)
  obtain ⟨o3, l3⟩ := o1.reversed
  obtain ⟨o4, l4⟩ := o2.reversed
  rw [joinS_ok o4 o3 (by simp [cutXs_length]) (by have := h.long; omega)]
  congr 2
  rw [List.length_map, cutXs_length]
  refine ext_rows (by rw [jnK_length, List.length_map]) fun k hk => ?_
  rw [jnK_length] at hk
  rw [jnK_row hk, rev_row (by rw [cutXs_length]; exact hk), rev_row (by rw [cutXs_length]; exact hk), rev_row hk, cutXs_row hk, cutXs_row hk, ← List.reverse_append]
  have hr := (h.row hk).1
  have e : List.take ((len0 xss : Int).toNat - a.toNat) (List.drop a.toNat (rowOf xss k)) = List.drop a.toNat (rowOf xss k) := List.take_of_length_le (by rw [List.length_drop]; omega)
  rw [e]
  simp
end Go.Proofs.Ytpnbkkpbgpcgiaa
