/- Sounds that are mixed: the order, silence, the opposite: plain. -/
import Derived.Test.YtnhmhjhfoonakaaNpl
import Derived.Test.YtnhmhjhfoonakaaMxa
set_option linter.unusedSimpArgs false
set_option linter.unusedVariables false
namespace Go.Proofs.Ytnhmhjhfoonakaa
open Go.RowKit Go.Dw
theorem both2_parts {r r' : Int} {xss yss : List (List Int)} (h : both2 r r' xss yss = 0) : chkS r xss = 0 ∧ chkS r' yss = 0 ∧ r = r' ∧ xss.length = yss.length := by
  unfold both2 at h
  by_cases h1 : both1 r r' xss yss = 0
  · rw [if_neg (by simp [h1])] at h
    unfold both1 at h1
    by_cases h2 : chkS r xss = 0
    · rw [if_neg (by simp [h2])] at h1
      unfold alikeB at h
      by_cases h3 : r ≠ r' ∨ xss.length ≠ yss.length
      · rw [if_pos h3] at h; cases h
      · exact ⟨h2, h1, by omega, by omega⟩
    · rw [if_pos h2] at h1; exact absurd h1 h2
  · rw [if_pos h1] at h; exact absurd h h1
theorem both2_mk {r : Int} {xss yss : List (List Int)} (h1 : chkS r xss = 0) (h2 : chkS r yss = 0) (h3 : xss.length = yss.length) : both2 r r xss yss = 0 := by
  unfold both2 both1 alikeB
  rw [if_neg (by simp [h1, h2]), if_neg (by simp [h3])]
theorem both2_swap {r r' : Int} {xss yss : List (List Int)} (h : both2 r r' xss yss = 0) : both2 r' r yss xss = 0 := by
  obtain ⟨h1, h2, rfl, h4⟩ := both2_parts h
  exact both2_mk h2 h1 h4.symm
theorem mixS_ok {r : Int} {xss yss : List (List Int)} (h : both2 r r xss yss = 0) : mixS r r xss yss = (r, clipS (mixT xss yss), stS clipU 0 (mixT xss yss), 0) := by
  unfold mixS; rw [if_neg (by simp [h])]
theorem mixS_no {r r' : Int} {xss yss : List (List Int)} (h : both2 r r' xss yss ≠ 0) : mixS r r' xss yss = (0, [], 0, both2 r r' xss yss) := by
  unfold mixS; rw [if_pos h]
theorem mixT_comm {xss yss : List (List Int)} (h : xss.length = yss.length) : mixT xss yss = mixT yss xss := by
  unfold mixT
  rw [h, Nat.max_comm, show sumV xss yss = sumV yss xss from funext fun k => funext fun i => Int.add_comm _ _]
/-- the two orders -/
theorem mix_comm (r r' : Int) (xss yss : List (List Int)) :
    (∃ f g : Int, f ≠ 0 ∧ g ≠ 0 ∧ mixS r r' xss yss = (0, [], 0, f) ∧ mixS r' r yss xss = (0, [], 0, g) ∧ both2 r r' xss yss ≠ 0) ∨
    (∃ z n, r = r' ∧ OkS r xss ∧ OkS r yss ∧ mixS r r' xss yss = (r, z, n, 0) ∧ mixS r' r yss xss = (r, z, n, 0)) := by
  by_cases h : both2 r r' xss yss = 0
  · obtain ⟨h1, h2, rfl, h4⟩ := both2_parts h
    refine .inr ⟨_, _, rfl, chkS_ok h1, chkS_ok h2, mixS_ok h, ?_⟩
    rw [mixS_ok (both2_swap h), mixT_comm h4]
  · exact .inl ⟨_, _, h, fun h' => h (both2_swap h'), mixS_no h, mixS_no (fun h' => h (both2_swap h')), h⟩
theorem clip_stay {T : List (List Int)} (h : ∀ t ∈ T, ∀ x ∈ t, smpB x = true) : clipS T = T ∧ ∀ c : Int, stS clipU c T = c := by
  have hv : ∀ x, smpB x = true → clipV x = x ∧ clipN x = 0 := fun x hx => by
    obtain ⟨h1, h2⟩ := smpB_yes hx
    exact ⟨clipV_id h1 h2, by unfold clipN; rw [if_neg (by omega), if_neg (by omega)]⟩
  refine ⟨?_, ?_⟩
  · unfold clipS
    conv => rhs; rw [← List.map_id T]
    refine List.map_congr_left fun t ht => ?_
    show t.map clipV = t
    conv => rhs; rw [← List.map_id t]
    exact List.map_congr_left fun x hx => (hv x (h t ht x hx)).1
  · induction T with
    | nil => intro c; rfl
    | cons t ts ih =>
      intro c
      show stS clipU (stR clipU c t) ts = c
      have h1 : ∀ (xs : List Int) (c : Int), (∀ x ∈ xs, smpB x = true) → stR clipU c xs = c := by
        intro xs
        induction xs with
        | nil => intro c _; rfl
        | cons x xs ih2 =>
          intro c hx
          show stR clipU (clipU c x) xs = c
          rw [ih2 _ (fun y hy => hx y (by simp [hy]))]
          unfold clipU
          rw [(hv x (hx x (by simp))).2, Int.add_zero]
      rw [h1 t c (h t (by simp))]
      exact ih (fun u hu => h u (by simp [hu])) c
theorem mtx_is {f : Nat → Nat → Int} {n m : Nat} {xss : List (List Int)} (hl : xss.length = n) (hm : ∀ k, k < n → (rowOf xss k).length = m) (hf : ∀ k i, k < n → i < m → f k i = elOf (rowOf xss k) i) : mtx f n m = xss := by
  refine ext_rows (by rw [mtx_length, hl]) (fun k hk => ?_)
  rw [mtx_length] at hk
  rw [mtx_row hk]
  apply List.ext_getElem (by simp [hm k hk])
  intro i h1 h2
  have hi : i < m := by simpa using h1
  have := hf k i hk hi
  have h3 : i < (rowOf xss k).length := by rw [hm k hk]; exact hi
  simp only [List.getElem_map, List.getElem_range]
  rw [this]
  simp [elOf, List.getD, List.getElem?_eq_getElem h3]
theorem len0_zero {T n : Nat} (h : 0 < T) : len0 (zeroS T n) = n := by
  unfold len0
  have := zeroS_row (T := T) (n := n) (k := 0) h
  unfold rowOf at this
  rw [this]; simp
theorem ok_zero {r : Int} {xss : List (List Int)} (h : OkS r xss) : OkS r (zeroS xss.length (len0 xss)) := by
  have hs := h.some
  refine ⟨h.rate, by rw [zeroS_length]; exact hs, by rw [zeroS_length]; exact h.few, by rw [len0_zero hs]; exact h.long, fun t ht => ?_⟩
  rw [len0_zero hs]
  obtain ⟨_, rfl⟩ := List.mem_replicate.1 ht
  refine ⟨by simp, ?_⟩
  rw [List.all_eq_true]
  intro x hx
  obtain ⟨_, rfl⟩ := List.mem_replicate.1 hx
  rfl
theorem el_zero (n i : Nat) : elOf (List.replicate n (0 : Int)) i = 0 := by
  unfold elOf
  rw [List.getD, List.getElem?_replicate]
  split <;> rfl
/-- silence changes nothing -/
theorem mix_silent {r : Int} {xss : List (List Int)} (h : OkS r xss) : mixS r r xss (zeroS xss.length (len0 xss)) = (r, xss, 0, 0) := by
  have hs := h.some
  have hb : both2 r r xss (zeroS xss.length (len0 xss)) = 0 := both2_mk (chk_of_ok h) (chk_of_ok (ok_zero h)) (zeroS_length _ _).symm
  have e : mixT xss (zeroS xss.length (len0 xss)) = xss := by
    unfold mixT
    rw [len0_zero hs, Nat.max_self]
    refine mtx_is rfl (fun k hk => (h.row hk).1) (fun k i hk hi => ?_)
    unfold sumV
    rw [zeroS_row hk, el_zero, Int.add_zero]
  obtain ⟨c1, c2⟩ := clip_stay h.smp
  rw [mixS_ok hb, e, c1, c2]
theorem sil_ok {r : Int} {xss : List (List Int)} (h : OkS r xss) : silS r (xss.length : Nat) (len0 xss : Nat) = (r, zeroS xss.length (len0 xss), 0) := by
  have h1 := h.some
  have h2 := h.few
  have h3 := h.long
  unfold silS silB
  rw [if_pos (by simp [h.rate]; omega)]
  simp
theorem tx_neg : txN (-1) = ⟨#[45, 49]⟩ ∧ txD (-1) = ⟨#[49]⟩ ∧ fewT (-1) 2000 = true := by
  have h : Lib.decDigits 1 = [49] := by rw [Lib.decDigits, dif_pos (by omega)]; rfl
  have hn : (-1 : Rat).num = -1 := rfl
  have hd : (-1 : Rat).den = 1 := rfl
  refine ⟨?_, ?_, ?_⟩
  · unfold txN numT
    rw [hn, if_pos (by omega), show (-1 : Int).natAbs = 1 from rfl, h]
    rfl
  · unfold txD
    rw [hd, h]
  · rw [few_iff, hn, hd, show (-1 : Int).natAbs = 1 from rfl, h]
    simp
theorem rt_neg : Rt ⟨#[45, 49]⟩ ⟨#[49]⟩ (-1) := ⟨tx_neg.2.2, tx_neg.1.symm, tx_neg.2.1.symm⟩
theorem near_neg (x : Int) : nearQ ((x : Rat) * -1) = -x := by
  have e : (x : Rat) * -1 = ((-x : Int) : Rat) := by rw [Rat.mul_neg, Rat.mul_one, Rat.intCast_neg]
  rw [e]
  unfold nearQ
  rw [Rat.num_intCast, Rat.den_intCast]
  have : ((-x).natAbs * 2 + 1) / (1 * 2) = x.natAbs := by omega
  rw [this]
  split <;> omega
/-- the opposite -/
theorem gain_neg {r : Int} {xss : List (List Int)} (h : OkS r xss) : gainS r xss ⟨#[45, 49]⟩ ⟨#[49]⟩ = (r, xss.map (List.map (gnV (-1))), stS (gnU (-1)) 0 xss, 0) := by
  unfold gainS
  rw [if_neg (by simp [chk_of_ok h]), if_neg (by simp [rt_neg.chk]), rt_neg.val]
theorem gnU_row (q : Rat) : ∀ (xs : List Int) (c : Int), c ≤ stR (gnU q) c xs ∧ (stR (gnU q) c xs = c → ∀ x ∈ xs, gnN q x = 0)
  | [], c => ⟨Int.le_refl _, fun _ x h => by cases h⟩
  | y :: ys, c => by
    have h := gnU_row q ys (gnU q c y)
    have b := gnN_bd q y
    show c ≤ stR (gnU q) (gnU q c y) ys ∧ (stR (gnU q) (gnU q c y) ys = c → ∀ x ∈ y :: ys, gnN q x = 0)
    have e : gnU q c y = c + gnN q y := rfl
    refine ⟨by omega, fun h0 x hx => ?_⟩
    rcases List.mem_cons.1 hx with rfl | hx
    · omega
    · exact h.2 (by omega) x hx
theorem gnU_rows (q : Rat) : ∀ (xss : List (List Int)) (c : Int), c ≤ stS (gnU q) c xss ∧ (stS (gnU q) c xss = c → ∀ t ∈ xss, ∀ x ∈ t, gnN q x = 0)
  | [], c => ⟨Int.le_refl _, fun _ t h => by cases h⟩
  | u :: us, c => by
    have h := gnU_rows q us (stR (gnU q) c u)
    have b := gnU_row q u c
    show c ≤ stS (gnU q) (stR (gnU q) c u) us ∧ (stS (gnU q) (stR (gnU q) c u) us = c → ∀ t ∈ u :: us, ∀ x ∈ t, gnN q x = 0)
    refine ⟨by omega, fun h0 t ht x hx => ?_⟩
    rcases List.mem_cons.1 ht with rfl | ht
    · exact b.2 (by omega) x hx
    · exact h.2 (by omega) t ht x hx
/-- a sound with its opposite is silent -/
theorem mix_against {r : Int} {xss : List (List Int)} (h : OkS r xss) (h0 : stS (gnU (-1)) 0 xss = 0) : mixS r r xss (xss.map (List.map (gnV (-1)))) = (r, zeroS xss.length (len0 xss), 0, 0) := by
  have hok2 := ok_mapped8 h (gnV (-1)) (gnV_smp _)
  have hb : both2 r r xss (xss.map (List.map (gnV (-1)))) = 0 := both2_mk (chk_of_ok h) (chk_of_ok hok2) (by simp)
  have hz := (gnU_rows (-1) xss 0).2 h0
  have e : mixT xss (xss.map (List.map (gnV (-1)))) = zeroS xss.length (len0 xss) := by
    unfold mixT
    rw [len0_map, Nat.max_self]
    refine mtx_is (zeroS_length _ _) (fun k hk => by rw [zeroS_row hk]; simp) (fun k i hk hi => ?_)
    unfold sumV
    rw [zeroS_row hk, el_zero]
    have hr : rowOf (xss.map (List.map (gnV (-1)))) k = (rowOf xss k).map (gnV (-1)) := by simp [rowOf, List.getD, hk]
    have hi2 : i < (rowOf xss k).length := by rw [(h.row hk).1]; exact hi
    have he : elOf ((rowOf xss k).map (gnV (-1))) i = gnV (-1) (elOf (rowOf xss k) i) := by simp [elOf, List.getD, hi2]
    rw [hr, he]
    have hm1 : rowOf xss k ∈ xss := by
      simp only [rowOf, List.getD, List.getElem?_eq_getElem hk, Option.getD_some]
      exact List.getElem_mem hk
    have hm2 : elOf (rowOf xss k) i ∈ rowOf xss k := by
      simp only [elOf, List.getD, List.getElem?_eq_getElem hi2, Option.getD_some]
      exact List.getElem_mem hi2
    have h9 := hz _ hm1 _ hm2
    unfold gnN at h9
    unfold gnV
    rw [near_neg] at h9 ⊢
    unfold clipN at h9
    unfold clipV
    split at h9
    · cases h9
    · split at h9
      · cases h9
      · omega
  obtain ⟨c1, c2⟩ := clip_stay (ok_zero h).smp
  rw [mixS_ok hb, e, c1, c2]
end Go.Proofs.Ytnhmhjhfoonakaa
