/- slices.BinarySearchFunc at points. -/
import Derived.Test.YtkmcohnhanphdaaGreatDoorVb
import Derived.Test.YtkmcohnhanphdaaGreatDoorYm
import Derived.Test.YtkmcohnhanphdaaGreatDoorWc
import Derived.Test.YtkmcohnhanphdaaGreatDoorVc
set_option linter.unusedSimpArgs false
set_option linter.unusedVariables false
namespace Go.Proofs.YtkmcohnhanphdaaGreatDoor
open Go.RowKit Go.Dw
def UpP (l : List Pt) : Prop := ∀ a b, a < b → b < l.length → (ptOf l a).at_ < (ptOf l b).at_
theorem envK_at {l : List Pt} {t : Int} {i : Nat} (hi : i ≤ l.length) (h1 : ∀ m, m < i → (ptOf l m).at_ < t) (h2 : ∀ m, i ≤ m → m < l.length → t ≤ (ptOf l m).at_) : envK l t = i := by
  unfold envK
  have e : l = l.take i ++ l.drop i := (List.take_append_drop i l).symm
  rw [e, List.countP_append]
  have a1 : (l.take i).countP (fun p => decide (p.at_ < t)) = (l.take i).length := by
    rw [List.countP_eq_length]
    intro p hp
    obtain ⟨m, hm, rfl⟩ := List.getElem_of_mem hp
    have hm' : m < i := by simp at hm; omega
    have := h1 m hm'
    rw [ptOf, List.getD_eq_getElem?_getD, List.getElem?_eq_getElem (by omega)] at this
    simpa using this
  have a2 : (l.drop i).countP (fun p => decide (p.at_ < t)) = 0 := by
    rw [List.countP_eq_zero]
    intro p hp
    obtain ⟨m, hm, rfl⟩ := List.getElem_of_mem hp
    have hm' : i + m < l.length := by simp at hm; omega
    have := h2 (i + m) (by omega) hm'
    rw [ptOf, List.getD_eq_getElem?_getD, List.getElem?_eq_getElem hm'] at this
    simp only [Option.getD_some] at this
    simp only [List.getElem_drop, decide_eq_true_eq]
    omega
  rw [a1, a2, List.length_take]; omega
def ptAgg (p : Pt) : Value := .agg #[.int .i64 p.at_, .string p.num, .string p.den]
set_option maxRecDepth 100000 in
set_option maxHeartbeats 4000000 in
theorem BSEARCH_any (A : Option Addr) (n cap : Nat) (l : List Pt) (t : Int) (cf : Pt → Int) (fid : FuncId) (caps : Array Value) (hn : n ≤ 1000000) (hup : Hid (UpP l)) (w : World) (B : Nat) (hB : B ≤ w.heap.size) (hh : Hid (PtsAt w B A n l))
    (hcf : ∀ (args : Array Value) (W : World), (callFunc fid args).run Tryz.prog W = .ok (.enter fid args) W)
    (hlt : Hid (∀ p ∈ l, (cf p < 0 ↔ p.at_ < t) ∧ (cf p = 0 ↔ p.at_ = t)))
    (hf : Hid (∀ p w1, p ∈ l → Calls Tryz.prog fid (#[ptAgg p, .int .i64 t] ++ caps) w1 fun e w2 => e = .returned (.int .i64 (cf p)) ∧ Below w1.heap.size w1 w2)) :
    Calls Tryz.prog 64 #[.slice A n cap, .int .i64 t, .func (.func fid) #[] caps] w fun e w' => e = .returned (.tuple #[.int .i64 (envK l t : Nat), .bool (decide (envK l t < l.length ∧ (ptOf l (envK l t)).at_ = t))]) ∧ Below w.heap.size w w' := by
  have hl := Lib.hid hh.out.1
  go_enter Tryz.func64, Tryz.ntmps64
  go_wp2_with fail
  go_loopw [9, 10] (fun i j wr => ∃ a b : Nat, a ≤ b ∧ b ≤ n ∧ i = .int .i64 a ∧ j = .int .i64 b ∧ Hid (∀ m, m < a → (ptOf l m).at_ < t) ∧ Hid (∀ m, b ≤ m → m < l.length → t ≤ (ptOf l m).at_) ∧ Hid (Below w.heap.size w wr)) (fun i j _ => (intOf j).toNat - (intOf i).toNat)
  case atStart => exact ⟨0, n, Nat.zero_le _, Nat.le_refl _, rfl, rfl, (fun m hm => by omega), (fun m h1 h2 => by have := hl.out; omega), Below.refl _ _⟩
  case round =>
    obtain ⟨a, b, hab, hbn, rfl, rfl, H1, H2, HB⟩ := hrel
    have hsz := HB.out.size
    have ha0 : (0 : Int) ≤ (a : Int) := by omega
    by_cases hlt2 : a < b
    · have hab2 : (a : Int) < (b : Int) := by omega
      obtain ⟨h, hh2, hah, hhb⟩ : ∃ h : Nat, (((a : Int) + (b : Int)) / 2 = (h : Int)) ∧ a ≤ h ∧ h < b := ⟨(a + b) / 2, by omega, by omega, by omega⟩
      obtain ⟨bb, o, e, hb, k1, k2, k3⟩ := (hh.out.below HB.out hB).2 h (by omega)
      subst e
      have hhn : (h : Int) < (n : Int) := by omega
      have hh0 : (0 : Int) ≤ (h : Int) := by omega
      have hpm := pt_mem (l := l) (k := h) (by rw [hl.out]; omega)
      obtain ⟨hc1, hc2⟩ := hlt.out _ hpm
      have HF := Lib.hid (hf.out (ptOf l h) wr hpm)
      have HUP := Lib.hid hup.out
      obtain ⟨cv, hcv⟩ : ∃ cv, cf (ptOf l h) = cv := ⟨_, rfl⟩
      rw [hcv] at HF hc1
      have HC1 := Lib.hid hc1
      clear hc1 hc2 hcv hpm
      go_wp2_with fail
      refine (HF.out).mono ?_
      rintro e w2 ⟨rfl, hb2⟩
      have HB2 := Lib.hid (HB.out.trans (hb2.mono hsz))
      clear hb2 k1 k2 k3
      by_cases hcv0 : cv < 0
      · have hpt := HC1.out.1 hcv0
        have H1' : Hid (∀ m, m < h + 1 → (ptOf l m).at_ < t) := fun m hm => by
          rcases Nat.lt_or_ge m h with h3 | h3
          · have := HUP.out m h h3 (by rw [hl.out]; omega); omega
          · obtain rfl : m = h := by omega
            exact hpt
        clear hpt
        go_wp2_with fail
        go_roundw
        case rel => exact ⟨h + 1, b, by omega, hbn, by go_num, rfl, H1', H2, HB2⟩
        case measure => simp [intOf]; omega
      · have hpt : ¬ (ptOf l h).at_ < t := fun h9 => hcv0 (HC1.out.2 h9)
        have H2' : Hid (∀ m, h ≤ m → m < l.length → t ≤ (ptOf l m).at_) := fun m hm hml => by
          rcases Nat.lt_or_ge h m with h3 | h3
          · have := HUP.out h m h3 hml; omega
          · obtain rfl : m = h := by omega
            omega
        clear hpt
        go_wp2_with fail
        go_roundw
        case rel => exact ⟨a, h, hah, by omega, rfl, rfl, H1, H2', HB2⟩
        case measure => simp [intOf]; omega
    · obtain rfl : a = b := by omega
      have HV : Hid (envK l t = a) := envK_at (by rw [hl.out]; exact hbn) H1.out H2.out
      clear H1 H2 hlt2 hab
      by_cases han : a < n
      · have hai : (a : Int) < (n : Int) := by omega
        obtain ⟨bb, o, e, hb, k1, k2, k3⟩ := (hh.out.below HB.out hB).2 a han
        subst e
        have hpm := pt_mem (l := l) (k := a) (by rw [hl.out]; omega)
        obtain ⟨hc1, hc2⟩ := hlt.out _ hpm
        have HF := Lib.hid (hf.out (ptOf l a) wr hpm)
        have HC2 := Lib.hid hc2
        obtain ⟨cv, hcv⟩ : ∃ cv, cf (ptOf l a) = cv := ⟨_, rfl⟩
        rw [hcv] at HF HC2
        clear hc1 hc2 hcv hpm
        go_wp2_with fail
        refine (HF.out).mono ?_
        rintro e w2 ⟨rfl, hb2⟩
        have HB2 := Lib.hid (HB.out.trans (hb2.mono hsz))
        clear hb2 k1 k2 k3
        have hdec : (cv == 0) = decide (a < l.length ∧ (ptOf l a).at_ = t) := by
          by_cases h9 : cv = 0
          · have h8 := HC2.out.1 h9
            rw [h9, decide_eq_true ⟨by rw [hl.out]; exact han, h8⟩]; rfl
          · have h8 := fun h7 => h9 (HC2.out.2 h7)
            rw [decide_eq_false (fun h6 => h8 h6.2)]
            simpa using h9
        have HD := Lib.hid hdec
        clear hdec
        go_wp2_with fail
        refine bodyPost_ret (results_tmp2 rfl _ _ _) rfl ?_
        rw [HV.out, ← HD.out]
        exact ⟨rfl, HB2.out⟩
      · have hai : ¬ (a : Int) < (n : Int) := by omega
        have hdec : (decide (a < l.length) && decide ((ptOf l a).at_ = t)) = false := by rw [decide_eq_false (fun h6 => han (by rw [← hl.out]; exact h6))]; rfl
        have HD := Lib.hid hdec
        clear hdec
        go_wp2_with fail
        refine bodyPost_ret (results_tmp2 rfl _ _ _) rfl ?_
        rw [HV.out, HD.out]
        exact ⟨rfl, HB.out⟩
end Go.Proofs.YtkmcohnhanphdaaGreatDoor
/- edit.value where no line is drawn between two points. -/
namespace Go.Proofs.YtkmcohnhanphdaaGreatDoor
open Go.RowKit Go.Dw
attribute [local go_sem ↓] Go.wp_at_zero Go.wp_at_succ
theorem cmpI_lt (x y : Int) : (Lib.compareInt x y < 0 ↔ x < y) ∧ (Lib.compareInt x y = 0 ↔ x = y) := by
  unfold Lib.compareInt
  split
  · omega
  · split <;> omega
set_option maxHeartbeats 1000000 in
theorem EVALUE1_any (p : Pt) (i : Int) (w : World) : Calls Tryz.prog 112 #[ptAgg p, .int .i64 i] w fun e w' => e = .returned (.int .i64 (Lib.compareInt p.at_ i)) ∧ Below w.heap.size w w' := by
  obtain ⟨pa, pn, pd⟩ := p
  unfold ptAgg
  obtain ⟨W, g, hW, hg, HG, HBW, HSW⟩ := cell_new w 68 #[.int .i64 pa, .string pn, .string pd]
  obtain ⟨p0, p1, p2, _, _, _⟩ := three_cells HG.out
  go_enter Tryz.func112, Tryz.ntmps112
  go_upto_region 1 with (fail)
  rw [← hW, ← hg]
  clear hW hg
  go_wp2_with (go_at_call 91; refine (CMPINT_any _ _ _).mono ?_; rintro e w5 ⟨rfl, rfl⟩)
  go_ret
  exact ⟨rfl, HBW.out⟩
structure EnvOk (len : Int) (l : List Pt) : Prop where
  some_ : 0 < l.length
  few : l.length ≤ 50
  up : UpP l
  in_ : ∀ p ∈ l, 0 ≤ p.at_ ∧ p.at_ < len
  right : ∀ p ∈ l, Rt p.num p.den (ptV p)
theorem envL_ok {len : Int} : ∀ (l : List Pt) (prev : Option Int), envL len prev l = 0 → (∀ p ∈ l, 0 ≤ p.at_ ∧ p.at_ < len ∧ chkQ p.num p.den = 0) ∧ UpP l ∧ (∀ y, prev = some y → ∀ p ∈ l, y < p.at_)
  | [], _, _ => ⟨fun p hp => by simp at hp, fun a b h1 h2 => by simp at h2, fun y _ p hp => by simp at hp⟩
  | p :: t, prev, h => by
    rw [envL] at h
    by_cases h0 : ptF len prev p = 0
    · rw [if_neg (by simp [h0])] at h
      obtain ⟨g1, g2, g3⟩ := envL_ok t (some p.at_) h
      unfold ptF at h0
      by_cases c1 : p.at_ < 0 ∨ len ≤ p.at_
      · rw [if_pos c1] at h0; omega
      rw [if_neg c1] at h0
      by_cases c2 : notAfter prev p.at_ = true
      · rw [if_pos c2] at h0; omega
      rw [if_neg c2] at h0
      by_cases c3 : chkQ p.num p.den = 0
      case neg => rw [if_pos c3] at h0; exact absurd h0 c3
      have g4 := g3 p.at_ rfl
      refine ⟨fun q hq => ?_, fun a b hab hb => ?_, fun y hy q hq => ?_⟩
      · rcases List.mem_cons.1 hq with rfl | hq
        · exact ⟨by omega, by omega, c3⟩
        · exact g1 q hq
      · obtain ⟨b', rfl⟩ : ∃ b', b = b' + 1 := ⟨b - 1, by omega⟩
        have hb' : b' < t.length := by simpa using hb
        have e : ptOf (p :: t) (b' + 1) = ptOf t b' := by simp [ptOf]
        rw [e]
        rcases a with _ | a
        · show p.at_ < _
          exact g4 _ (pt_mem hb')
        · have e2 : ptOf (p :: t) (a + 1) = ptOf t a := by simp [ptOf]
          rw [e2]
          exact g2 a b' (by omega) hb'
      · subst hy
        have : y < p.at_ := by simp [notAfter] at c2; omega
        rcases List.mem_cons.1 hq with rfl | hq
        · exact this
        · have := g4 q hq; omega
    · rw [if_pos h0] at h; exact absurd h h0
theorem envF_ok {len : Int} {l : List Pt} (h : envF len l = 0) : EnvOk len l := by
  unfold envF at h
  by_cases c1 : l.length = 0
  · rw [if_pos c1] at h; omega
  rw [if_neg c1] at h
  by_cases c2 : 50 < l.length
  · rw [if_pos c2] at h; omega
  rw [if_neg c2] at h
  obtain ⟨g1, g2, _⟩ := envL_ok l none h
  exact ⟨by omega, by omega, g2, fun p hp => ⟨(g1 p hp).1, (g1 p hp).2.1⟩, fun p hp => Rt.of (g1 p hp).2.2⟩
theorem envK_le (l : List Pt) (i : Int) : envK l i ≤ l.length := List.countP_le_length
set_option maxRecDepth 100000 in
set_option maxHeartbeats 8000000 in
theorem EVALUE_flat (c : Cp) (A : Option Addr) (n cap : Nat) (i : Int) (hi : -9223372036854775808 ≤ i ∧ i ≤ 9223372036854775807) (hok : Hid (EnvOk c.len c.env)) (hfl : (envK c.env i < c.env.length ∧ (ptOf c.env (envK c.env i)).at_ = i) ∨ envK c.env i = 0 ∨ envK c.env i = c.env.length) (w : World) (B : Nat) (hB : B ≤ w.heap.size) (hh : Hid (PtsAt w B A n c.env)) :
    Calls Tryz.prog 66 #[cpV c (.slice A n cap), .int .i64 i] w (OutQ w (envV c.env i) 20000 20000) := by
  obtain ⟨m, ch, fr, tr, at9, ln, env⟩ := c
  unfold cpV
  dsimp only at hok hfl hh ⊢
  have hl := Lib.hid hh.out.1
  have HRT := Lib.hid hok.out.right
  have hn50 : n ≤ 50 := by have := hok.out.few; have := hl.out; omega
  have hn0 : 0 < n := by have := hok.out.some_; have := hl.out; omega
  obtain ⟨W, g, hW, hg, HW, HBW, HSW⟩ := boxes2c w (.cells #[.string m, .int .i64 ch, .int .i64 fr, .int .i64 tr, .int .i64 at9, .int .i64 ln, .slice A n cap] 58) (.cells #[.bool false, .slice none 0 0, .slice none 0 0] 88)
  have HG9 := Lib.hid hg
  obtain ⟨_, _, _, _, _, _, p6⟩ := seven_cells HW.out.1
  have hgW : g < W.heap.size := blk_lt HW.out.1
  have hgW1 : g + 1 < W.heap.size := blk_lt HW.out.2
  have hhW : Hid (PtsAt W B A n env) := hh.out.below HBW.out hB
  have hBW : B ≤ W.heap.size := Nat.le_trans hB HBW.out.size
  obtain ⟨k, hk⟩ : ∃ k, envK env i = k := ⟨_, rfl⟩
  have HK := Lib.hid hk
  have hkn : k ≤ n := by rw [← hk, ← hl.out]; exact envK_le _ _
  rw [hk] at hfl
  clear hk
  go_enter Tryz.func66, Tryz.ntmps66
  go_upto_region 1 with (fail)
  rw [← hW, ← hg]
  clear hW hg
  go_upto_region 2 with (fail)
  go_wp2_with fail
  refine (BSEARCH_any A n cap env i (fun p => Lib.compareInt p.at_ i) 112 #[] (by omega) (Lib.hid hok.out.up) W B hBW hhW (fun _ _ => rfl) (Lib.hid (fun p _ => cmpI_lt p.at_ i)) (Lib.hid (fun p w1 _ => EVALUE1_any p i w1))).mono ?_
  rintro e w1 ⟨rfl, hb1⟩
  rw [HK.out]
  have HB1 := Lib.hid hb1
  have HX := Lib.hid ((hb1.block (g + 1) hgW1).trans HW.out.2)
  have HP1 : Hid (PtsAt w1 B A n env) := hhW.out.below hb1 hBW
  clear hb1 p6
  obtain ⟨fnd, hfnd⟩ : ∃ fnd, decide (k < env.length ∧ (ptOf env k).at_ = i) = fnd := ⟨_, rfl⟩
  rw [hfnd]
  have HF := Lib.hid hfnd
  clear hfnd
  cases fnd with
  | true =>
    have hfd := of_decide_eq_true HF.out
    have hkl : k < n := by rw [← hl.out]; exact hfd.1
    have HV : Hid (envV env i = ptV (ptOf env k)) := by show _ = _; unfold envV; rw [HK.out, if_pos hfd]
    have hk0 : (0 : Int) ≤ (k : Int) := by omega
    have hkni : (k : Int) < (n : Int) := by omega
    obtain ⟨b, o, e, hb, k1, k2, k3⟩ := HP1.out.2 k hkl
    subst e
    clear hfd
    go_wp2_with fail
    refine (FROM_ok (HRT.out _ (pt_mem (by rw [hl.out]; omega))) _).mono ?_
    rintro e w2 ⟨ng, A2, n2, c2, D2, m2, d2, rfl, h2, hk2, hl2, hb2⟩
    have H2 := Lib.hid h2
    have HB2 := Lib.hid (HB1.out.trans (hb2.mono HB1.out.size))
    have hhx := (hb2.block (g + 1) (by have := HB1.out.size; have := HSW.out; omega)).trans HX.out
    clear h2 hb2
    obtain ⟨hr0, hr1, hr2, hf0, hf1, hf2⟩ := three_cells hhx
    have HHX := Lib.hid hhx
    clear hhx
    go_wp2_with fail
    refine end_rat rfl rfl rfl hr0 hr1 hr2 ?_
    rw [HV.out]
    exact outQ_set (q := ptV (ptOf env k)) H2.out.1.1 (by have := HG9.out; omega) ⟨_, _, HHX.out⟩ H2.out.1.2 H2.out.2 (HBW.out.trans (HB2.out.mono (by have := HSW.out; omega))) (by omega) (by omega)
  | false =>
    have hnf := of_decide_eq_false HF.out
    by_cases hk0 : k = 0
    · have HV : Hid (envV env i = ptV (ptOf env 0)) := by show _ = _; unfold envV; rw [HK.out, if_neg hnf, if_pos hk0]
      subst hk0
      obtain ⟨b, o, e, hb, k1, k2, k3⟩ := HP1.out.2 0 hn0
      subst e
      clear hnf
      have hnn : (0 : Int) < (n : Int) := by omega
      go_wp2_with fail
      refine (FROM_ok (HRT.out _ (pt_mem (by rw [hl.out]; omega))) _).mono ?_
      rintro e w2 ⟨ng, A2, n2, c2, D2, m2, d2, rfl, h2, hk2, hl2, hb2⟩
      have H2 := Lib.hid h2
      have HB2 := Lib.hid (HB1.out.trans (hb2.mono HB1.out.size))
      have hhx := (hb2.block (g + 1) (by have := HB1.out.size; have := HSW.out; omega)).trans HX.out
      clear h2 hb2
      obtain ⟨hr0, hr1, hr2, hf0, hf1, hf2⟩ := three_cells hhx
      have HHX := Lib.hid hhx
      clear hhx
      go_wp2_with fail
      refine end_rat rfl rfl rfl hr0 hr1 hr2 ?_
      rw [HV.out]
      exact outQ_set (q := ptV (ptOf env 0)) H2.out.1.1 (by have := HG9.out; omega) ⟨_, _, HHX.out⟩ H2.out.1.2 H2.out.2 (HBW.out.trans (HB2.out.mono (by have := HSW.out; omega))) (by omega) (by omega)
    · have hkn2 : k = n := by rcases hfl with h | h | h; exact absurd h hnf; exact absurd h hk0; rw [h]; exact hl.out
      have HV : Hid (envV env i = ptV (ptOf env (k - 1))) := by show _ = _; unfold envV; rw [HK.out, if_neg hnf, if_neg hk0, if_pos (by rw [hl.out]; exact hkn2)]
      obtain ⟨j, rfl⟩ : ∃ j, k = j + 1 := ⟨k - 1, by omega⟩
      subst hkn2
      rw [Nat.add_sub_cancel] at HV
      obtain ⟨b, o, e, hb, k1, k2, k3⟩ := HP1.out.2 j (by omega)
      subst e
      clear hnf hfl
      have hji : IntKind.i64.wrap (j : Int) = (j : Int) := IntWalk.i64_in _ (by omega)
      have hj1 : ((j + 1 : Nat) : Int) - 1 = (j : Int) := by omega
      have hjn : (j : Int) < ((j + 1 : Nat) : Int) := by omega
      have hj0 : (0 : Int) ≤ (j : Int) := by omega
      have hd1 : (((j + 1 : Nat) : Int) == 0) = false := by simp; omega
      have hd2 : (((j + 1 : Nat) : Int) == ((j + 1 : Nat) : Int)) = true := by simp
      go_wp2_with fail
      refine (FROM_ok (HRT.out _ (pt_mem (by rw [hl.out]; omega))) _).mono ?_
      rintro e w2 ⟨ng, A2, n2, c2, D2, m2, d2, rfl, h2, hk2, hl2, hb2⟩
      have H2 := Lib.hid h2
      have HB2 := Lib.hid (HB1.out.trans (hb2.mono HB1.out.size))
      have hhx := (hb2.block (g + 1) (by have := HB1.out.size; have := HSW.out; omega)).trans HX.out
      clear h2 hb2
      obtain ⟨hr0, hr1, hr2, hf0, hf1, hf2⟩ := three_cells hhx
      have HHX := Lib.hid hhx
      clear hhx
      go_wp2_with fail
      refine end_rat rfl rfl rfl hr0 hr1 hr2 ?_
      rw [HV.out]
      exact outQ_set (q := ptV (ptOf env j)) H2.out.1.1 (by have := HG9.out; omega) ⟨_, _, HHX.out⟩ H2.out.1.2 H2.out.2 (HBW.out.trans (HB2.out.mono (by have := HSW.out; omega))) (by omega) (by omega)
end Go.Proofs.YtkmcohnhanphdaaGreatDoor
/- edit.walk over clips of one point. -/
namespace Go.Proofs.YtkmcohnhanphdaaGreatDoor
open Go.RowKit Go.Dw
attribute [local go_sem ↓] Go.wp_at_zero Go.wp_at_succ
theorem envK_zero {l : List Pt} {t : Int} (h : envK l t = 0) : ∀ p ∈ l, t ≤ p.at_ := by
  intro p hp
  have := (List.countP_eq_zero.1 h) p hp
  simp at this
  exact this
theorem envK_full {l : List Pt} {t : Int} (h : envK l t = l.length) : ∀ p ∈ l, p.at_ < t := by
  intro p hp
  have := (List.countP_eq_length.1 h) p hp
  simpa using this
theorem envK_zero_of {l : List Pt} {t : Int} (h : ∀ p ∈ l, t ≤ p.at_) : envK l t = 0 := List.countP_eq_zero.2 (fun p hp => by simpa using h p hp)
theorem envK_full_of {l : List Pt} {t : Int} (h : ∀ p ∈ l, p.at_ < t) : envK l t = l.length := List.countP_eq_length.2 (fun p hp => by simpa using h p hp)
theorem env_before {l : List Pt} {i : Int} (h0 : 0 < l.length) (h : ∀ p ∈ l, i ≤ p.at_) : envV l i = ptV (ptOf l 0) := by
  unfold envV
  rw [envK_zero_of h]
  by_cases h1 : 0 < l.length ∧ (ptOf l 0).at_ = i
  · rw [if_pos h1]
  · rw [if_neg h1, if_pos rfl]
theorem env_after {l : List Pt} {i : Int} (h0 : 0 < l.length) (hu : UpP l) (h : ∀ p ∈ l, p.at_ ≤ i) : envV l i = ptV (ptOf l (l.length - 1)) ∧ ((envK l i < l.length ∧ (ptOf l (envK l i)).at_ = i) ∨ envK l i = l.length) := by
  by_cases h1 : (ptOf l (l.length - 1)).at_ = i
  · have hk : envK l i = l.length - 1 := envK_at (by omega) (fun m hm => by have := hu m (l.length - 1) hm (by omega); omega) (fun m hm hml => by
      obtain rfl : m = l.length - 1 := by omega
      omega)
    unfold envV
    rw [hk, if_pos ⟨by omega, h1⟩]
    exact ⟨rfl, .inl ⟨by omega, h1⟩⟩
  · have hk : envK l i = l.length := envK_full_of (fun p hp => by
      obtain ⟨m, hm, rfl⟩ := List.getElem_of_mem hp
      have h2 := h _ (pt_mem (l := l) (k := l.length - 1) (by omega))
      have h3 : ptOf l m = l[m] := by simp [ptOf, List.getD, hm]
      rw [← h3]
      rcases Nat.lt_or_ge m (l.length - 1) with h4 | h4
      · have := hu m (l.length - 1) h4 (by omega); omega
      · obtain rfl : m = l.length - 1 := by omega
        omega)
    unfold envV
    rw [hk, if_neg (by rintro ⟨h2, _⟩; omega), if_neg (by omega), if_pos rfl]
    exact ⟨rfl, .inr rfl⟩
set_option maxHeartbeats 1000000 in
theorem EWALK1_any (p : Pt) (i : Int) (h1 : -2305843009213693952 ≤ p.at_ ∧ p.at_ ≤ 2305843009213693952) (h2 : -2305843009213693952 ≤ i ∧ i ≤ 2305843009213693952) (w : World) : Calls Tryz.prog 65 #[ptAgg p, .int .i64 i] w fun e w' => e = .returned (.int .i64 (p.at_ - i)) ∧ Below w.heap.size w w' := by
  obtain ⟨pa, pn, pd⟩ := p
  unfold ptAgg
  dsimp only at h1 ⊢
  obtain ⟨W, g, hW, hg, HG, HBW, HSW⟩ := cell_new w 68 #[.int .i64 pa, .string pn, .string pd]
  obtain ⟨p0, p1, p2, _, _, _⟩ := three_cells HG.out
  have hw9 := IntWalk.i64_in (pa - i) (by omega)
  go_enter Tryz.func65, Tryz.ntmps65
  go_upto_region 1 with (fail)
  rw [← hW, ← hg]
  clear hW hg
  go_wp2_with fail
  go_ret
  exact ⟨rfl, HBW.out⟩
def WalkF (G : Nat → World → Prop) (c : Cp) (till : Nat) (fid : FuncId) (caps : Array Value) (g0 : Nat) (w : World) : Prop :=
  ∀ (i : Nat) (w1 : World) (neg : Bool) (A D : Option Addr) (n n' m m' : Nat) (z : Int) (x : Nat), i < till → G i w1 → Alt g0 (g0 + 1) w w1 → RawAt w1 w1.heap.size neg A n n' D m m' z x → 0 < x → mkRat z x = envV c.env i → n ≤ 20000 → m ≤ 20000 →
    Calls Tryz.prog fid (#[.int .i64 (i : Int), .agg #[.bool neg, .slice A n n'], .slice D m m'] ++ caps) w1 fun e w2 => e = .returned (.tuple #[]) ∧ G (i + 1) w2 ∧ Alt g0 (g0 + 1) w1 w2
end Go.Proofs.YtkmcohnhanphdaaGreatDoor
