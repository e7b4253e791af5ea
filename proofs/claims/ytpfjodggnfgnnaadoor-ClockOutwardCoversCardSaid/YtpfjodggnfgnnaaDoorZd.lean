/- Outward, of both sides. -/
import Derived.Test.YtpfjodggnfgnnaaDoorZb
import Derived.Test.YtpfjodggnfgnnaaDoorRp
import Derived.Test.YtpfjodggnfgnnaaDoorZc
set_option linter.unusedSimpArgs false
set_option linter.unusedVariables false
namespace Go.Proofs.YtpfjodggnfgnnaaDoor
open Go.RowKit Go.Dw Go.Joins
def outK (l : List Pr) (frm tr : Int) : Nat → Option (List Pr)
  | 0 => some []
  | k + 1 => (outK l frm tr k).bind fun acc => if (convS (prOf l k).1 frm tr 1).2 ≠ 0 ∨ (convS (prOf l k).2 frm tr 3).2 ≠ 0 then none else some (appS acc ((convS (prOf l k).1 frm tr 1).1, (convS (prOf l k).2 frm tr 3).1))
/-- Outward -/
def outS (l : List Pr) (frm tr : Int) : List Pr × Int := if chkSp l ≠ 0 then ([], chkSp l) else if okRate frm = false ∨ okRate tr = false then ([], 1) else match outK l frm tr l.length with | none => ([], 1) | some acc => (acc, 0)
theorem outK_none {l : List Pr} {frm tr : Int} {k : Nat} (h : outK l frm tr k = none) : ∀ d : Nat, outK l frm tr (k + d) = none
  | 0 => h
  | d + 1 => by
    show (outK l frm tr (k + d)).bind _ = none
    rw [outK_none h d]; rfl
theorem outK_len {l : List Pr} {frm tr : Int} : ∀ {k : Nat} {acc : List Pr}, outK l frm tr k = some acc → acc.length ≤ k
  | 0, acc, h => by injection h with h; subst h; exact Nat.le_refl _
  | k + 1, acc, h => by
    change (outK l frm tr k).bind _ = some acc at h
    cases h1 : outK l frm tr k with
    | none => rw [h1] at h; cases h
    | some a =>
      rw [h1] at h
      have ih := outK_len h1
      change (if _ then none else some _) = some acc at h
      split at h
      · cases h
      · injection h with h
        subst h
        exact Nat.le_trans (appS_len _ _) (by omega)
theorem outK_step {l : List Pr} {frm tr x y a f b g : Int} {k : Nat} {acc : List Pr} (h : outK l frm tr k = some acc) (hp : prOf l k = (x, y)) (ha : convS x frm tr 1 = (a, f)) (hb : convS y frm tr 3 = (b, g)) :
    outK l frm tr (k + 1) = if f ≠ 0 ∨ g ≠ 0 then none else some (appS acc (a, b)) := by
  show (outK l frm tr k).bind _ = _
  rw [h, Option.bind_some, hp]
  dsimp only
  rw [ha, hb]
theorem conv_01 (n frm tr way : Int) (hw : okWay way = true) : (convS n frm tr way).2 = 0 ∨ (convS n frm tr way).2 = 1 := by
  unfold convS
  split
  · exact .inr rfl
  · rw [if_neg (by rw [hw]; simp)]
    unfold posI
    split
    · exact .inl rfl
    · exact .inr rfl
theorem outS_none {l : List Pr} {frm tr : Int} {k n : Nat} (hc : chkSp l = 0) (h1 : okRate frm = true) (h2 : okRate tr = true) (hl : l.length = n) (hk : k < n) (h : outK l frm tr (k + 1) = none) : outS l frm tr = ([], 1) := by
  unfold outS
  rw [if_neg (by rw [hc]; simp), if_neg (by rw [h1, h2]; simp)]
  have := outK_none h (n - (k + 1))
  rw [show k + 1 + (n - (k + 1)) = l.length by omega] at this
  rw [this]
theorem outS_some {l acc : List Pr} {frm tr : Int} {n : Nat} (hc : chkSp l = 0) (h1 : okRate frm = true) (h2 : okRate tr = true) (hl : l.length = n) (h : outK l frm tr n = some acc) : outS l frm tr = (acc, 0) := by
  unfold outS
  rw [if_neg (by rw [hc]; simp), if_neg (by rw [h1, h2]; simp), hl, h]
set_option maxRecDepth 100000 in
set_option maxHeartbeats 8000000 in
theorem OUTWARD_any (A : Option Addr) (n c : Nat) (l : List Pr) (frm tr : Int) (w : World) (B : Nat) (hB : B ≤ w.heap.size) (hh : Hid (PrsAt w B A n l)) :
    Calls Tryd.prog 33 #[.slice A n c, .int .i64 frm, .int .i64 tr] w (OutT2 29 w (outS l frm tr)) := by
  have hl := Lib.hid hh.out.1
  obtain ⟨x, hx⟩ : ∃ x, chkSp l = x := ⟨_, rfl⟩
  have HX := Lib.hid hx
  obtain ⟨bf, HF⟩ : ∃ q, Hid ((decide (1 ≤ frm) && decide (frm ≤ 1000000)) = q) := ⟨_, rfl⟩
  obtain ⟨bt, HR⟩ : ∃ q, Hid ((decide (1 ≤ tr) && decide (tr ≤ 1000000)) = q) := ⟨_, rfl⟩
  have HFa : Hid (okRate frm = bf) := HF.out
  have HRa : Hid (okRate tr = bt) := HR.out
  clear hx
  by_cases h0 : x = 0
  rotate_left
  · have hq : ((x : Int) != 0) = true := by simpa using h0
    have HV : Hid (outS l frm tr = ([], x)) := by show _ = _; unfold outS; rw [HX.out, if_pos h0]
    go_enter Tryd.func33, Tryd.ntmps33
    go_wp2_with (first
      | (go_at_call 11; refine (CCHECKSPANS_any A n c l _ B hB hh).mono ?_; rintro e w1 ⟨rfl, hb1⟩; rw [HX.out])
      | (go_at_call 69; (with_reducible refine (ISRATE_any frm _).mono ?_); rintro e w2 ⟨rfl, rfl⟩; rw [HF.out])
      | (go_at_call 69; (with_reducible refine (ISRATE_any tr _).mono ?_); rintro e w2 ⟨rfl, rfl⟩; rw [HR.out]))
    refine bodyPost_ret (v := .tuple #[.slice none 0 0, .int .i64 x]) (by simp [results, Tryd.results33, go_sem]) rfl ?_
    unfold OutT2
    rw [HV.out]
    exact ⟨_, rfl, OwnPrs.nil _ _ _, hb1⟩
  subst h0
  have hn1 : n ≤ 1000 := by rw [← hl.out]; exact chkSp_few HX.out
  cases bf with
  | false =>
    have HV : Hid (outS l frm tr = ([], 1)) := by show _ = _; unfold outS; rw [HX.out, if_neg (by simp), if_pos (by rw [HFa.out, HRa.out]; simp)]
    go_enter Tryd.func33, Tryd.ntmps33
    go_wp2_with (first
      | (go_at_call 11; refine (CCHECKSPANS_any A n c l _ B hB hh).mono ?_; rintro e w1 ⟨rfl, hb1⟩; rw [HX.out])
      | (go_at_call 69; (with_reducible refine (ISRATE_any frm _).mono ?_); rintro e w2 ⟨rfl, rfl⟩; rw [HF.out])
      | (go_at_call 69; (with_reducible refine (ISRATE_any tr _).mono ?_); rintro e w2 ⟨rfl, rfl⟩; rw [HR.out]))
    refine bodyPost_ret (v := .tuple #[.slice none 0 0, .int .i64 1]) (by simp [results, Tryd.results33, go_sem]) rfl ?_
    unfold OutT2
    rw [HV.out]
    exact ⟨_, rfl, OwnPrs.nil _ _ _, hb1⟩
  | true =>
  cases bt with
  | false =>
    have HV : Hid (outS l frm tr = ([], 1)) := by show _ = _; unfold outS; rw [HX.out, if_neg (by simp), if_pos (by rw [HFa.out, HRa.out]; simp)]
    go_enter Tryd.func33, Tryd.ntmps33
    go_wp2_with (first
      | (go_at_call 11; refine (CCHECKSPANS_any A n c l _ B hB hh).mono ?_; rintro e w1 ⟨rfl, hb1⟩; rw [HX.out])
      | (go_at_call 69; (with_reducible refine (ISRATE_any frm _).mono ?_); rintro e w2 ⟨rfl, rfl⟩; rw [HF.out])
      | (go_at_call 69; (with_reducible refine (ISRATE_any tr _).mono ?_); rintro e w2 ⟨rfl, rfl⟩; rw [HR.out]))
    refine bodyPost_ret (v := .tuple #[.slice none 0 0, .int .i64 1]) (by simp [results, Tryd.results33, go_sem]) rfl ?_
    unfold OutT2
    rw [HV.out]
    exact ⟨_, rfl, OwnPrs.nil _ _ _, hb1⟩
  | true =>
  go_enter Tryd.func33, Tryd.ntmps33
  go_wp2_with (first
    | (go_at_call 11; refine (CCHECKSPANS_any A n c l _ B hB hh).mono ?_; rintro e w1 ⟨rfl, hb1⟩; rw [HX.out])
    | (go_at_call 69; (with_reducible refine (ISRATE_any frm _).mono ?_); rintro e w2 ⟨rfl, rfl⟩; rw [HF.out])
    | (go_at_call 69; (with_reducible refine (ISRATE_any tr _).mono ?_); rintro e w2 ⟨rfl, rfl⟩; rw [HR.out]))
  have HB1 := Lib.hid hb1
  clear hb1
  go_loopw [9, 30] (fun v i wr => ∃ (k : Nat) (acc : List Pr), k ≤ n ∧ i = .int .i64 k ∧ Hid (outK l frm tr k = some acc) ∧ Hid (OwnPrs 29 wr w.heap.size v acc) ∧ Hid (Below w.heap.size w wr)) (fun _ i _ => n - (intOf i).toNat)
  case atStart => exact ⟨0, [], Nat.zero_le _, rfl, rfl, OwnPrs.nil _ _ _, HB1⟩
  case round =>
    obtain ⟨k, acc, hk, rfl, HK, hO, hb⟩ := hrel
    have hsz : w.heap.size ≤ wr.heap.size := hb.out.size
    have hal := outK_len HK.out
    obtain ⟨A5, c5, rfl, hc5, hc6⟩ := hO.out.len
    by_cases hlt : k < n
    · obtain ⟨bA, oA, rfl, hbA, k1, k2⟩ := (hh.out.below (hb.out.mono hB) (Nat.le_refl _)).2 k hlt
      have hbAw : bA < wr.heap.size := by omega
      obtain ⟨p, hp⟩ : ∃ p, prOf l k = p := ⟨_, rfl⟩
      obtain ⟨x, y⟩ := p
      have HPP := Lib.hid hp
      rw [hp] at k1 k2
      dsimp only at k1 k2
      have hk0 : (0 : Int) ≤ (k : Int) := by omega
      have hkn : (k : Int) < (n : Int) := by omega
      obtain ⟨W, gx, hW, hgx, HHW, HBW, _⟩ := cell_new0 wr 29 #[.int .i64 x, .int .i64 y]
      obtain ⟨b0, b1, _, _⟩ := pr_cells HHW.out
      have hgw := blk_lt HHW.out
      go_upto_region 10 with (fail)
      rw [← hW, ← hgx]
      clear hW hgx hp
      obtain ⟨⟨a, f⟩, ha⟩ : ∃ p, convS x frm tr 1 = p := ⟨_, rfl⟩
      obtain ⟨⟨b, g⟩, hbb⟩ : ∃ p, convS y frm tr 3 = p := ⟨_, rfl⟩
      have HA := Lib.hid ha
      have HBB := Lib.hid hbb
      have hf01 := conv_01 x frm tr 1 (by decide)
      have hg01 := conv_01 y frm tr 3 (by decide)
      rw [ha] at hf01
      rw [hbb] at hg01
      dsimp only at hf01 hg01
      have HST := Lib.hid (outK_step HK.out HPP.out ha hbb)
      clear ha hbb
      go_wp2_with (fail)
      refine (CONVERT_any x frm tr 1 _).mono ?_
      rintro e w1 ⟨rfl, hb1⟩
      rw [HA.out]
      have HBC1 := Lib.hid (HBW.out.trans (hb1.mono HBW.out.size))
      have b1' := (hb1.cell (p := ⟨gx, 1, none⟩) hgw).trans b1
      dsimp only
      clear hb1 b0 b1
      by_cases hf : f = 0
      rotate_left
      · have hf1 : f = 1 := by omega
        have hfb : (f != 0) = true := by simpa using hf
        have HV : Hid (outS l frm tr = ([], 1)) := outS_none HX.out HFa.out HRa.out hl.out hlt (by rw [HST.out, if_pos (.inl hf)])
        subst hf1
        clear hf hf01 hg01
        go_wp2_with (fail)
        refine bodyPost_ret (v := .tuple #[.slice none 0 0, .int .i64 1]) (by simp [results, Tryd.results33, go_sem]) rfl ?_
        unfold OutT2
        rw [HV.out]
        exact ⟨_, rfl, OwnPrs.nil _ _ _, hb.out.trans (HBC1.out.mono hsz)⟩
      subst hf
      go_wp2_with (fail)
      refine (CONVERT_any y frm tr 3 _).mono ?_
      rintro e w2 ⟨rfl, hb2⟩
      rw [HBB.out]
      have HBC2 := Lib.hid (HBC1.out.trans (hb2.mono HBC1.out.size))
      dsimp only
      clear hb2 b1'
      by_cases hg : g = 0
      rotate_left
      · have hg1 : g = 1 := by omega
        have hgb : (g != 0) = true := by simpa using hg
        have HV : Hid (outS l frm tr = ([], 1)) := outS_none HX.out HFa.out HRa.out hl.out hlt (by rw [HST.out, if_pos (.inr hg)])
        subst hg1
        clear hg hf01 hg01
        go_wp2_with (fail)
        refine bodyPost_ret (v := .tuple #[.slice none 0 0, .int .i64 1]) (by simp [results, Tryd.results33, go_sem]) rfl ?_
        unfold OutT2
        rw [HV.out]
        exact ⟨_, rfl, OwnPrs.nil _ _ _, hb.out.trans (HBC2.out.mono hsz)⟩
      subst hg
      have HN : Hid (outK l frm tr (k + 1) = some (appS acc (a, b))) := by show _ = _; rw [HST.out, if_neg (by simp)]
      have hO2 := Lib.hid (hO.out.below HBC2.out)
      have HB2 := Lib.hid (hb.out.trans (HBC2.out.mono hsz))
      clear hf01 hg01 HST
      go_wp2_with (fail)
      refine (SAPPEND_own A5 acc.length c5 acc a b _ w.heap.size HB2.out.size (by omega) hO2).mono ?_
      rintro e w3 ⟨v3, rfl, ho3, hb3⟩
      have HO3 := Lib.hid ho3
      have HB3 := Lib.hid (HB2.out.trans hb3)
      clear ho3 hb3
      go_wp2_with (fail)
      go_roundw
      case rel => exact ⟨k + 1, _, by omega, by go_num, HN, HO3, HB3⟩
      case measure => simp [intOf]; omega
    · obtain rfl : k = n := by omega
      have HV : Hid (outS l frm tr = (acc, 0)) := outS_some HX.out HFa.out HRa.out hl.out HK.out
      go_wp2_with fail
      refine bodyPost_ret (v := .tuple #[.slice A5 acc.length c5, .int .i64 0]) (by simp [results, Tryd.results33, go_sem]) rfl ?_
      unfold OutT2
      rw [HV.out]
      exact ⟨_, rfl, hO.out, hb.out⟩
end Go.Proofs.YtpfjodggnfgnnaaDoor

/- Outward covers: the plain law. -/
set_option linter.unusedSimpArgs false
set_option linter.unusedVariables false
namespace Go.Proofs.YtpfjodggnfgnnaaDoor
theorem ratA {a b : Rat} {d : Nat} (hd : 0 < d) : a ≤ b / (d : Rat) ↔ a * d ≤ b := by
  have := Rat.div_lt_iff (a := b) (b := (d : Rat)) (c := a) (by exact_mod_cast hd)
  rw [← Rat.not_lt, this, Rat.not_lt]
theorem ratB {a b : Rat} {d : Nat} (hd : 0 < d) : b / (d : Rat) ≤ a ↔ b ≤ a * d := by
  have := Rat.lt_div_iff (a := a) (b := b) (c := (d : Rat)) (by exact_mod_cast hd)
  rw [← Rat.not_lt, this, Rat.not_lt]
theorem floorA (n : Int) (d : Nat) (hd : 0 < d) : (mkRat n d).floor * d ≤ n := by
  have h := Rat.floor_le (mkRat n d)
  rw [Rat.mkRat_eq_div, ratA hd] at h
  rw [Rat.mkRat_eq_div]
  exact_mod_cast h
theorem ceilA (n : Int) (d : Nat) (hd : 0 < d) : n ≤ (mkRat n d).ceil * d := by
  have h := Rat.le_ceil (x := mkRat n d)
  rw [Rat.mkRat_eq_div, ratB hd] at h
  rw [Rat.mkRat_eq_div]
  exact_mod_cast h
theorem floorB (n : Int) (d : Nat) (hd : 0 < d) : n < ((mkRat n d).floor + 1) * d := by
  have h := Rat.lt_floor_add_one (mkRat n d)
  rw [Rat.mkRat_eq_div, Rat.div_lt_iff (by exact_mod_cast hd)] at h
  rw [Rat.mkRat_eq_div]
  exact_mod_cast h
theorem app_cover {out : List Pr} {x y : Int} (hc : Canon out) (he : ∀ q ∈ out, q.1 ≤ x) (hxy : x < y) :
    Canon (appS out (x, y)) ∧ (∀ q ∈ appS out (x, y), q.1 ≤ x) ∧ (∀ q ∈ out, ∃ r ∈ appS out (x, y), r.1 ≤ q.1 ∧ q.2 ≤ r.2) ∧ (∃ r ∈ appS out (x, y), r.1 ≤ x ∧ y ≤ r.2) ∧ (∀ e ∈ flatE (appS out (x, y)), e ∈ flatE out ∨ e = x ∨ e = y) := by
  rcases List.eq_nil_or_concat out with rfl | ⟨i, z, rfl⟩
  · rw [appS_nil]
    refine ⟨?_, ?_, ?_, ⟨(x, y), by simp, by simp, by simp⟩, ?_⟩
    · show (flatE [(x, y)]).Pairwise _
      rw [flatE_one]; simp [hxy]
    · intro q hq; simp at hq; subst hq; simp
    · intro q hq; cases hq
    · intro e h; rw [flatE_one] at h; simp at h; exact .inr h
  · rw [List.concat_eq_append] at *
    rw [appS_snoc]
    have hzx : z.1 ≤ x := he z (by simp)
    have hci := hc
    unfold Canon at hc
    rw [flatE_app, flatE_one, List.pairwise_append] at hc
    obtain ⟨h1, h2, h3⟩ := hc
    have hz : z.1 < z.2 := by simpa using h2
    by_cases hle : x ≤ z.2
    · rw [if_pos hle]
      refine ⟨?_, ?_, ?_, ⟨(z.1, max z.2 y), by simp, hzx, by simp; omega⟩, ?_⟩
      · unfold Canon
        rw [flatE_app, flatE_one, List.pairwise_append]
        refine ⟨h1, by simp; omega, fun a ha b hb => ?_⟩
        have q := h3 a ha z.1 (by simp)
        simp at hb
        omega
      · intro q hq
        simp at hq
        rcases hq with hq | rfl
        · exact he q (by simp [hq])
        · exact hzx
      · intro q hq
        simp at hq
        rcases hq with hq | rfl
        · exact ⟨q, by simp [hq], by omega, by omega⟩
        · exact ⟨(q.1, max q.2 y), by simp, by simp, by simp; omega⟩
      · intro e h
        rw [flatE_app, flatE_one] at h
        rw [flatE_app, flatE_one]
        simp at h ⊢
        rcases h with h | h | h
        · exact .inl (.inl h)
        · exact .inl (.inr (.inl h))
        · omega
    · rw [if_neg hle]
      refine ⟨?_, ?_, ?_, ⟨(x, y), by simp, by simp, by simp⟩, ?_⟩
      · unfold Canon
        rw [flatE_app, flatE_app, flatE_one, flatE_one, List.pairwise_append, List.pairwise_append]
        refine ⟨⟨h1, h2, h3⟩, by simp [hxy], fun a ha b hb => ?_⟩
        simp at hb
        have : a ≤ z.2 := by
          simp at ha
          rcases ha with ha | ha | ha
          · have := h3 a ha z.2 (by simp); omega
          · omega
          · omega
        omega
      · intro q hq
        rw [List.mem_append] at hq
        rcases hq with hq | hq
        · exact he q hq
        · simp at hq; subst hq; simp
      · intro q hq
        exact ⟨q, List.mem_append_left _ hq, by omega, by omega⟩
      · intro e h
        rw [flatE_app, flatE_one] at h
        simp at h
        simpa using h
theorem conv_way1 {n f t a : Int} (h : convS n f t 1 = (a, 0)) : okPos a = true ∧ okRate f = true ∧ okRate t = true ∧ a = (mkRat (n * t) f.natAbs).floor := by
  unfold convS at h
  split at h
  · injection h with _ h; exact absurd h (by decide)
  · rename_i hn
    rw [if_neg (by decide)] at h
    unfold posI at h
    split at h
    · rename_i hp
      injection h with h _
      have e : roundQ (mkRat (n * t) f.natAbs) 1 = (mkRat (n * t) f.natAbs).floor := by unfold roundQ; rw [if_pos rfl]
      rw [e] at h hp
      refine ⟨?_, by simp at hn; exact hn.2.1, by simp at hn; exact hn.2.2, h.symm⟩
      rw [← h]
      unfold okPos
      simp
      omega
    · injection h with _ h; exact absurd h (by decide)
theorem conv_way3 {n f t a : Int} (h : convS n f t 3 = (a, 0)) : okPos a = true ∧ a = (mkRat (n * t) f.natAbs).ceil := by
  unfold convS at h
  split at h
  · injection h with _ h; exact absurd h (by decide)
  · rename_i hn
    rw [if_neg (by decide)] at h
    unfold posI at h
    split at h
    · rename_i hp
      injection h with h _
      have e : roundQ (mkRat (n * t) f.natAbs) 3 = (mkRat (n * t) f.natAbs).ceil := by unfold roundQ; rw [if_neg (by decide), if_pos rfl]
      rw [e] at h hp
      refine ⟨?_, h.symm⟩
      rw [← h]
      unfold okPos
      simp
      omega
    · injection h with _ h; exact absurd h (by decide)
theorem conv_le {n f t a : Int} (h : convS n f t 1 = (a, 0)) : a * f ≤ n * t ∧ n * t < (a + 1) * f := by
  obtain ⟨_, hf, _, rfl⟩ := conv_way1 h
  have hf := (okRate_le hf).1
  have h1 := floorA (n * t) f.natAbs (by omega)
  have h2 := floorB (n * t) f.natAbs (by omega)
  have e : ((f.natAbs : Nat) : Int) = f := by omega
  rw [e] at h1 h2
  exact ⟨h1, h2⟩
theorem conv_ge {n f t a : Int} (hf : 1 ≤ f) (h : convS n f t 3 = (a, 0)) : n * t ≤ a * f := by
  obtain ⟨_, rfl⟩ := conv_way3 h
  have h1 := ceilA (n * t) f.natAbs (by omega)
  have e : ((f.natAbs : Nat) : Int) = f := by omega
  rw [e] at h1
  exact h1
theorem mul_lt {a b f : Int} (hf : 1 ≤ f) (h : a * f < b * f) : a < b := Int.lt_of_mul_lt_mul_right h (by omega)
theorem mul_le {a b f : Int} (hf : 1 ≤ f) (h : a * f ≤ b * f) : a ≤ b := Int.le_of_mul_le_mul_right h (by omega)
theorem outK_step1 {l : List Pr} {f t : Int} {k : Nat} {acc' : List Pr} (h : outK l f t (k + 1) = some acc') : ∃ acc a b, outK l f t k = some acc ∧ convS (prOf l k).1 f t 1 = (a, 0) ∧ convS (prOf l k).2 f t 3 = (b, 0) ∧ acc' = appS acc (a, b) := by
  change (outK l f t k).bind _ = some acc' at h
  cases h1 : outK l f t k with
  | none => rw [h1] at h; cases h
  | some acc =>
    rw [h1, Option.bind_some] at h
    split at h
    · cases h
    · rename_i hn
      injection h with h
      simp only [not_or, ne_eq, Decidable.not_not] at hn
      exact ⟨acc, _, _, rfl, Prod.ext rfl hn.1, Prod.ext rfl hn.2, h.symm⟩
theorem outK_all {l : List Pr} {f t : Int} (hl : Canon l) (hf : 1 ≤ f) (ht : 1 ≤ t) : ∀ {k : Nat} {acc : List Pr}, k ≤ l.length → outK l f t k = some acc →
    Canon acc ∧ (∀ q ∈ acc, ∃ j, j < k ∧ convS (prOf l j).1 f t 1 = (q.1, 0)) ∧ (∀ j, j < k → ∃ a b, convS (prOf l j).1 f t 1 = (a, 0) ∧ convS (prOf l j).2 f t 3 = (b, 0) ∧ ∃ r ∈ acc, r.1 ≤ a ∧ b ≤ r.2) ∧ (∀ e ∈ flatE acc, okPos e = true)
  | 0, acc, _, h => by injection h with h; subst h; exact ⟨List.Pairwise.nil, (fun q hq => by cases hq), (fun j hj => by omega), (fun e he => by cases he)⟩
  | k + 1, acc', hk, h => by
    obtain ⟨acc, a, b, h1, h2, h3, rfl⟩ := outK_step1 h
    obtain ⟨i1, i2, i3, i4⟩ := outK_all hl hf ht (by omega) h1
    have mono : ∀ d, k < l.length → d ≤ k → (prOf l (k - d)).1 ≤ (prOf l k).1 := by
      intro d hkl
      induction d with
      | zero => intro _; simp
      | succ d ih =>
        intro hd
        have := ih (by omega)
        have := canon_next hl (k := k - (d + 1)) (by omega)
        have := canon_pair hl (pr_in (l := l) (k := k - (d + 1)) (by omega))
        rw [show k - (d + 1) + 1 = k - d by omega] at *
        omega
    have hq : ∀ q ∈ acc, q.1 ≤ a := fun q hq => by
      obtain ⟨j, hj, hq⟩ := i2 q hq
      have m := mono (k - j) (by omega) (by omega)
      rw [show k - (k - j) = j by omega] at m
      have := (conv_le hq).1
      have := (conv_le h2).2
      have : (prOf l j).1 * t ≤ (prOf l k).1 * t := Int.mul_le_mul_of_nonneg_right m (by omega)
      have : q.1 < a + 1 := mul_lt hf (by omega)
      omega
    have hab : a < b := by
      have := (conv_le h2).1
      have := conv_ge hf h3
      have : (prOf l k).1 * t < (prOf l k).2 * t := Int.mul_lt_mul_of_pos_right (canon_pair hl (pr_in (by omega))) (by omega)
      exact mul_lt hf (by omega)
    obtain ⟨c1, c2, c3, c4, c5⟩ := app_cover i1 hq hab
    refine ⟨c1, fun q hq9 => ?_, fun j hj => ?_, fun e he => ?_⟩
    · have key : ∀ q ∈ appS acc (a, b), q.1 = a ∨ ∃ r ∈ acc, r.1 = q.1 := by
        intro q hq
        rcases List.eq_nil_or_concat acc with rfl | ⟨i, z, rfl⟩
        · rw [appS_nil] at hq; simp at hq; subst hq; exact .inl rfl
        · rw [List.concat_eq_append] at *
          rw [appS_snoc] at hq
          split at hq
          · simp at hq
            rcases hq with hq | rfl
            · exact .inr ⟨q, by simp [hq], rfl⟩
            · exact .inr ⟨z, by simp, rfl⟩
          · rw [List.mem_append] at hq
            rcases hq with hq | hq
            · exact .inr ⟨q, hq, rfl⟩
            · simp at hq; subst hq; exact .inl rfl
      rcases key q hq9 with e | ⟨r, hr, e⟩
      · exact ⟨k, by omega, by rw [e]; exact h2⟩
      · obtain ⟨j, hj, hc⟩ := i2 r hr
        exact ⟨j, by omega, by rw [← e]; exact hc⟩
    · by_cases e : j = k
      · subst e; exact ⟨a, b, h2, h3, c4⟩
      · obtain ⟨a', b', q1, q2, r, hr, q3, q4⟩ := i3 j (by omega)
        obtain ⟨s, hs, q5, q6⟩ := c3 r hr
        exact ⟨a', b', q1, q2, s, hs, by omega, by omega⟩
    · rcases c5 e he with h | h | h
      · exact i4 e h
      · subst h; exact (conv_way1 h2).1
      · subst h; exact (conv_way3 h3).1
theorem outS_key {l r : List Pr} {f t : Int} (h : outS l f t = (r, 0)) : chkSp l = 0 ∧ okRate f = true ∧ okRate t = true ∧ outK l f t l.length = some r := by
  unfold outS at h
  by_cases q1 : chkSp l = 0
  · rw [if_neg (by simp [q1])] at h
    by_cases q2 : okRate f = false ∨ okRate t = false
    · rw [if_pos q2] at h; injection h with _ h; exact absurd h (by decide)
    · rw [if_neg q2] at h
      simp at q2
      cases hk : outK l f t l.length with
      | none => rw [hk] at h; injection h with _ h; exact absurd h (by decide)
      | some acc =>
        rw [hk] at h
        injection h with h _
        subst h
        exact ⟨q1, q2.1, q2.2, rfl⟩
  · rw [if_pos q1] at h; injection h with _ h; exact absurd h q1
theorem law_covers {l a b : List Pr} {f t : Int} (h1 : outS l f t = (a, 0)) (h2 : outS a t f = (b, 0)) : setS (fun x y => x && !y) l b = ([], 0) := by
  obtain ⟨cl, of_, ot, ka⟩ := outS_key h1
  obtain ⟨ca, _, _, kb⟩ := outS_key h2
  have hf := (okRate_le of_).1
  have ht := (okRate_le ot).1
  obtain ⟨nl, ll, _⟩ := chkSp_canon cl
  obtain ⟨na, la, _⟩ := chkSp_canon ca
  obtain ⟨_, _, a3, _⟩ := outK_all nl hf ht (Nat.le_refl _) ka
  obtain ⟨b1, _, b3, b4⟩ := outK_all na ht hf (Nat.le_refl _) kb
  have lb := outK_len kb
  have cb : chkSp b = 0 := canon_chkSp b1 (by omega) (ok_ends b4)
  have e : sweepS (fun x y => x && !y) l b = [] := by
    refine canon_none (sweep_law _ rfl _ _).1 (fun z => ?_)
    rw [(sweep_law _ rfl _ _).2.1]
    by_cases hz : inS l z = true
    · have : inS b z = true := by
        obtain ⟨p, hp, hp1, hp2⟩ := inS_iff.1 hz
        obtain ⟨k, hk, rfl⟩ := List.getElem_of_mem hp
        have e : l[k] = prOf l k := by simp [prOf, List.getD, List.getElem?_eq_getElem hk]
        rw [e] at hp1 hp2
        obtain ⟨x, y, c1, c2, r, hr, r1, r2⟩ := a3 k hk
        obtain ⟨j, hj, rfl⟩ := List.getElem_of_mem hr
        have e : a[j] = prOf a j := by simp [prOf, List.getD, List.getElem?_eq_getElem hj]
        rw [e] at r1 r2
        obtain ⟨x', y', d1, d2, s, hs, s1, s2⟩ := b3 j hj
        refine inS_iff.2 ⟨s, hs, ?_, ?_⟩
        · have g1 := (conv_le d1).1
          have g2 := (conv_le c1).1
          have g3 : (prOf a j).1 * f ≤ x * f := Int.mul_le_mul_of_nonneg_right r1 (by omega)
          have : x' ≤ (prOf l k).1 := mul_le ht (by omega)
          omega
        · have g1 := conv_ge ht d2
          have g2 := conv_ge hf c2
          have g3 : y * f ≤ (prOf a j).2 * f := Int.mul_le_mul_of_nonneg_right r2 (by omega)
          have : (prOf l k).2 ≤ y' := mul_le ht (by omega)
          omega
      rw [hz, this]; rfl
    · rw [Bool.not_eq_true] at hz
      rw [hz]; rfl
  unfold setS
  rw [if_neg (by simp [cl]), if_neg (by simp [cb]), e, if_neg (by simp)]
end Go.Proofs.YtpfjodggnfgnnaaDoor
