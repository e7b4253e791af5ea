/- match.Build without fades. -/
import Derived.Test.YtkmcohnhanphdaaGreatDoorVg
import Derived.Deep.QuietTactic
import Derived.Test.YtkmcohnhanphdaaGreatDoorRegion
set_option linter.unusedSimpArgs false
set_option linter.unusedVariables false
namespace Go.Proofs.YtkmcohnhanphdaaGreatDoor
open Go.RowKit Go.Dw
attribute [local go_sem ↓] Go.wp_at_zero Go.wp_at_succ
theorem below_self3 {N : Nat} {w : World} (h : N ≤ w.heap.size) : Below N w w := (Below.refl _ _).mono h
theorem bClips_len (l : List Tk) (R : List Rw) : ∀ c, (bClips l R c).length = c * R.length
  | 0 => by simp [bClips]
  | c + 1 => by rw [bClips, List.length_append, bClips_len l R c, List.length_map, Nat.succ_mul]
theorem keep6b {W w1 : World} {a b c d e f : Addr} {v0 v1 v2 v3 v4 v5 : Value} (h : W.cell? a = some v0 ∧ W.cell? b = some v1 ∧ W.cell? c = some v2 ∧ W.cell? d = some v3 ∧ W.cell? e = some v4 ∧ W.cell? f = some v5)
    (hb : Below W.heap.size W w1) (ha : a.block < W.heap.size) (hbb : b.block < W.heap.size) (hc : c.block < W.heap.size) (hd : d.block < W.heap.size) (he : e.block < W.heap.size) (hf : f.block < W.heap.size) :
    w1.cell? a = some v0 ∧ w1.cell? b = some v1 ∧ w1.cell? c = some v2 ∧ w1.cell? d = some v3 ∧ w1.cell? e = some v4 ∧ w1.cell? f = some v5 :=
  ⟨(hb.cell ha).trans h.1, (hb.cell hbb).trans h.2.1, (hb.cell hc).trans h.2.2.1, (hb.cell hd).trans h.2.2.2.1, (hb.cell he).trans h.2.2.2.2.1, (hb.cell hf).trans h.2.2.2.2.2⟩
theorem bfits {l : List Tk} {R : List Rw} (hz : ∀ t ∈ l, t.media.size ≤ maxLen) (hf : ∀ r ∈ R, 0 ≤ r.take ∧ r.take < (l.length : Int)) : ∀ ch : Nat, ∀ c ∈ bClips l R ch, CpFits c
  | 0, c, h => by simp [bClips] at h
  | ch + 1, c, h => by
    rcases List.mem_append.1 h with h | h
    · exact bfits hz hf ch c h
    · obtain ⟨r, hr, rfl⟩ := List.mem_map.1 h
      have hr2 := hf r hr
      refine ⟨hz _ (tk_mem (by omega)), fun p hp => ?_⟩
      have hp' : p = ⟨0, ⟨#[49]⟩, ⟨#[49]⟩⟩ := by simpa [bClip, one1] using hp
      subst hp'
      exact ⟨by unfold maxLen; show 1 ≤ _; omega, by unfold maxLen; show 1 ≤ _; omega⟩
set_option maxRecDepth 100000 in
set_option maxHeartbeats 16000000 in
theorem MBUILD_any (A A1 A2 : Option Addr) (n n1 n2 cap cap1 cap2 : Nat) (l : List Tk) (lens takes : List Int) (hz : Hid (∀ t ∈ l, t.media.size ≤ maxLen)) (w : World) (B : Nat) (hB : B ≤ w.heap.size) (hh : Hid (TakesAt w B A n l)) (h1 : Hid (IntsAt w B A1 n1 lens)) (h2 : Hid (IntsAt w B A2 n2 takes)) :
    Calls Tryz.prog 11 #[.slice A n cap, .slice A1 n1 cap1, .slice A2 n2 cap2, .int .i64 0] w fun e w' => Below w.heap.size w w' ∧ ((∃ f : Int, f ≠ 0 ∧ e = .returned (.tuple #[.agg #[.int .i64 0, .int .i64 0, .slice none 0 0], .int .i64 f])) ∨
      (∃ (ch : Nat) (A' : Option Addr) (m c' : Nat), e = .returned (.tuple #[.agg #[.int .i64 (tkOf l 0).rate, .int .i64 (ch : Int), .slice A' m c'], .int .i64 0]) ∧ TakesOk l lens takes ∧ chkE (tkOf l 0).rate (ch : Int) (bClips l (rowsK l lens takes n1) ch) = 0 ∧ ClipsAt w' w'.heap.size A' m (bClips l (rowsK l lens takes n1) ch))) := by
  have hl := Lib.hid hh.out.1
  have hl1 := Lib.hid h1.out.1
  have hl2 := Lib.hid h2.out.1
  obtain ⟨W, g8, hW, hg8e, HG, HBW, HSW⟩ := cell_new w 24 #[.int .i64 0, .int .i64 0, .slice none 0 0]
  have hg8 : w.heap.size ≤ g8 := by omega
  have hg8W := blk_lt HG.out
  have hBW : B ≤ W.heap.size := Nat.le_trans hB HBW.out.size
  go_enter Tryz.func11, Tryz.ntmps11
  go_upto_region 1 with (fail)
  rw [← hW, ← hg8e]
  clear hW hg8e
  go_wp2_with fail
  refine (CHECKTAKES_any A A1 A2 n n1 n2 cap cap1 cap2 l lens takes hz W B hBW (Lib.hid (hh.out.below HBW.out hB)) (Lib.hid (h1.out.below HBW.out hB)) (Lib.hid (h2.out.below HBW.out hB))).mono ?_
  rintro e w1 ⟨f, rfl, hb1, hok⟩
  have HBR := Lib.hid (HBW.out.trans (hb1.mono HBW.out.size))
  have HG1 := Lib.hid ((hb1.block g8 hg8W).trans HG.out)
  have hg81 := blk_lt HG1.out
  have HOK' := Lib.hid hok
  clear hb1 hok HG
  by_cases hf0 : f = 0
  case neg =>
    have hq : (f != 0) = true := by simpa using hf0
    obtain ⟨x0, x1, x2, _, _, _⟩ := three_cells HG1.out
    have HF0 := Lib.hid hf0
    clear hf0
    go_wp2_with fail
    refine end_edit2 rfl rfl rfl x0 x1 x2 ?_
    refine ⟨set3_below HBR.out hg8, .inl ⟨_, ?_, rfl⟩⟩
    exact HF0.out
  subst hf0
  have HOK := Lib.hid (HOK'.out rfl)
  clear HOK'
  have hn20 : n ≤ 20 := by have := HOK.out.few; have := hl.out; omega
  have hn0 : 0 < n := by have := HOK.out.some_; have := hl.out; omega
  have hn60 : n1 ≤ 60 := by have := HOK.out.short; have := hl1.out; omega
  have hn12 : n2 = n1 := by have := HOK.out.same; have := hl1.out; have := hl2.out; omega
  subst hn12
  by_cases hlz : n2 = 0
  · have d0 : decide (0 < n2) = false := by simp; omega
    have HLZ := Lib.hid hlz
    clear hlz
    go_wp2_with fail
    refine (ROWSOF_any A A1 A2 n n2 n2 cap cap1 cap2 l lens takes HOK w1 B (by have := HBR.out.size; omega) (Lib.hid (hh.out.below HBR.out hB)) (Lib.hid (h1.out.below HBR.out hB)) (Lib.hid (h2.out.below HBR.out hB))).mono ?_
    rintro e w2 ⟨v, rfl, hrows, hb2⟩
    obtain ⟨AR, cR, hve, _, _⟩ := hrows.form
    subst hve
    rw [List.length_map] at hrows ⊢
    obtain ⟨L, hL⟩ : ∃ L, (rowsK l lens takes n2).length = L := ⟨_, rfl⟩
    rw [hL] at hrows ⊢
    have HLEN := Lib.hid hL
    have HLN2 : Hid (L ≤ n2) := by rw [← hL]; exact rows_len n2
    have hL60 : L ≤ 60 := by rw [← hL]; have := rows_len (l := l) (lens := lens) (takes := takes) n2; omega
    have HROWS := Lib.hid hrows
    have HBR := Lib.hid (HBR.out.trans (hb2.mono HBR.out.size))
    have HG2 := Lib.hid ((hb2.block g8 hg81).trans HG1.out)
    have hg82 := blk_lt HG2.out
    clear hb2 hrows hL HG1
    have d1 : decide ((0 : Int) < 0) = false := decide_eq_false (by omega)
    obtain ⟨b, o, A9, n9, c9, e9, hb9, ⟨_, k1, k2, _⟩, _, _, _⟩ := (hh.out.below HBR.out hB).2 0 hn0
    subst e9
    rw [Nat.zero_mul, Nat.add_zero] at k1 k2
    obtain ⟨ch, hch⟩ : ∃ ch : Nat, (tkOf l 0).chans = (ch : Int) := ⟨(tkOf l 0).chans.toNat, by have := HOK.out.starts _ (tk_mem (l := l) (k := 0) (by rw [hl.out]; omega)); unfold startsOk at this; omega⟩
    have hch16 : ch ≤ 16 := by have := HOK.out.starts _ (tk_mem (l := l) (k := 0) (by rw [hl.out]; omega)); unfold startsOk at this; omega
    rw [hch] at k2
    have hnn : (0 : Int) < (n : Int) := by omega
    clear hch
    go_wp2_with fail
    have hbw2 : b < w2.heap.size := by have := HBR.out.size; omega
    go_region
    obtain ⟨X0, hX0⟩ : ∃ X, X = (w2.alloc (.cells #[.int .i64 (tkOf l 0).rate, .int .i64 (ch : Int), .slice none 0 0] 24)).drew := ⟨_, rfl⟩
    obtain ⟨g13, hg13⟩ : ∃ g, w2.heap.size = g := ⟨_, rfl⟩
    have HX0 : Hid (X0.heap[g13]? = some (.cells #[.int .i64 (tkOf l 0).rate, .int .i64 (ch : Int), .slice none 0 0] 24 (0, 0))) := by rw [hX0, ← hg13]; exact heap_alloc_new _ _
    have HB0 : Hid (Below g13 w2 X0) := by rw [hX0, ← hg13]; exact ((Below.refl _ _).alloc (Nat.le_refl _) _).drew
    have HS0 : Hid (X0.heap.size = g13 + 1) := by rw [hX0, ← hg13]; show _ = _; simp
    rw [hg13] at hg82 hbw2
    rw [hg13, ← hX0]
    have HG13 := Lib.hid hg13
    have hw13 : w.heap.size ≤ g13 := by rw [← hg13]; exact HBR.out.size
    have hB13 : B ≤ g13 := by omega
    have hsX0 : g13 < X0.heap.size := by rw [HS0.out]; omega
    have HBR0 := Lib.hid (HBR.out.trans (HB0.out.mono hw13))
    obtain ⟨p0, p1, p2, _, _, _⟩ := three_cells HX0.out
    obtain ⟨R, hR⟩ : ∃ R, rowsK l lens takes n2 = R := ⟨_, rfl⟩
    have HRR := Lib.hid hR
    have HFIT := Lib.hid (rows_fit HOK.out n2 (by rw [hl1.out]; exact Nat.le_refl _))
    rw [hR] at HROWS HLEN HFIT
    clear hX0 hg13 hR k1 k2 d0 d1
    go_wp2_with fail
    clear p0 p1 p2
    go_loopw [60] (fun i wr => ∃ (c : Nat) (A' : Option Addr) (m9 c' : Nat) (ls : List (List Value)), c ≤ ch ∧ i = .int .i64 c ∧ Hid (Below g13 X0 wr) ∧ Hid (wr.heap[g13]? = some (.cells #[.int .i64 (tkOf l 0).rate, .int .i64 (ch : Int), .slice A' m9 c'] 24 (0, 0))) ∧ Hid (ClipsB wr (g13 + 1) (.slice A' m9 c') (bClips l R c) ls)) (fun i _ => ch - (intOf i).toNat)
    case atStart => exact ⟨0, none, 0, 0, [], Nat.zero_le _, rfl, below_self3 (by omega), HX0.out, ClipsB.nil _ _⟩
    case round =>
      obtain ⟨c, A', m9, c', ls, hc, rfl, HBc, HBOXc, HCLc⟩ := hrel
      have hszc : g13 < wr.heap.size := blk_lt HBOXc.out
      by_cases hlt : c < ch
      · have hk0 : (0 : Int) ≤ (c : Int) := by omega
        have hkn : (c : Int) < (ch : Int) := by omega
        go_wp2_with fail
        go_loopw [65] (fun i wx => ∃ (k : Nat) (A' : Option Addr) (m9 c' : Nat) (ls : List (List Value)), k ≤ L ∧ i = .int .i64 k ∧ Hid (Below g13 X0 wx) ∧ Hid (wx.heap[g13]? = some (.cells #[.int .i64 (tkOf l 0).rate, .int .i64 (ch : Int), .slice A' m9 c'] 24 (0, 0))) ∧ Hid (ClipsB wx (g13 + 1) (.slice A' m9 c') (bClips l R c ++ (R.take k).map (bClip l (c : Int))) ls)) (fun i _ => L - (intOf i).toNat)
        case atStart => exact ⟨0, A', m9, c', ls, Nat.zero_le _, rfl, HBc.out, HBOXc.out, by show ClipsB _ _ _ _ _; rw [List.take_zero, List.map_nil, List.append_nil]; exact HCLc.out⟩
        case round =>
          clear HBc HBOXc HCLc hszc
          obtain ⟨k, A', m9, c', ls, hk, rfl, HBx, HBOX, HCL⟩ := hrel
          have hszx : g13 < wr.heap.size := blk_lt HBOX.out
          by_cases hkl : k < L
          · have hk0' : (0 : Int) ≤ (k : Int) := by omega
            exact absurd hkl (by have := HLZ.out; have := HLN2.out; omega)
          · obtain rfl : k = L := by omega
            have HCLE : Hid (ClipsB wr (g13 + 1) (.slice A' m9 c') (bClips l R (c + 1)) ls) := by
              have h9 := HCL.out
              rw [List.take_of_length_le (by rw [HLEN.out]; exact Nat.le_refl _)] at h9
              exact h9
            clear HCL
            go_wp2_with fail
            go_roundw
            case rel => exact ⟨c + 1, A', m9, c', ls, by omega, by go_num, HBx.out, HBOX.out, HCLE.out⟩
            case measure => simp [intOf]; omega
      · obtain rfl : c = ch := by omega
        obtain ⟨p0, p1, p2, _, _, _⟩ := three_cells HBOXc.out
        have HZC := Lib.hid (bfits hz.out (fun r hr => by have := HFIT.out r hr; have := hl.out; omega) c)
        have HBRc := Lib.hid (HBR0.out.trans (HBc.out.mono hw13))
        have HG2c := Lib.hid (((HB0.out.trans HBc.out).block g8 hg82).trans HG2.out)
        have HATc := Lib.hid HCLc.out.at_
        go_wp2_with fail
        refine (ECHECK_any (tkOf l 0).rate (c : Int) A' m9 c' (bClips l R c) HZC wr wr.heap.size (Nat.le_refl _) HATc).mono ?_
        rintro e w5 ⟨rfl, hb5⟩
        obtain ⟨f, hf⟩ : ∃ f, chkE (tkOf l 0).rate (c : Int) (bClips l R c) = f := ⟨_, rfl⟩
        rw [hf]
        have HF := Lib.hid hf
        clear hf
        have hszc := hszc
        have HG25 := Lib.hid ((hb5.block g8 (by omega)).trans HG2c.out)
        have HBX5 := Lib.hid ((hb5.block g13 hszc).trans HBOXc.out)
        have HBR := Lib.hid (HBRc.out.trans (hb5.mono HBRc.out.size))
        have HCL5 := Lib.hid (HCLc.out.below hb5)
        clear hb5 p0 p1 p2
        have hg85 := blk_lt HG25.out
        by_cases hf0 : f = 0
        case neg =>
          have hq : (f != 0) = true := by simpa using hf0
          obtain ⟨x0, x1, x2, _, _, _⟩ := three_cells HG25.out
          have HF0 := Lib.hid hf0
          clear hf0
          go_wp2_with fail
          refine end_edit2 rfl rfl rfl x0 x1 x2 ?_
          refine ⟨set3_below HBR.out hg8, .inl ⟨_, ?_, rfl⟩⟩
          exact HF0.out
        subst hf0
        obtain ⟨x0, x1, x2, _, _, _⟩ := three_cells HG25.out
        obtain ⟨p0, p1, p2, _, _, _⟩ := three_cells HBX5.out
        go_wp2_with fail
        clear x0 x1 x2 p0 p1 p2
        go_loopw [124] (fun i wx => ∃ t : Nat, t ≤ c ∧ i = .int .i64 t ∧ wx = w5) (fun i _ => c - (intOf i).toNat)
        case atStart => exact ⟨0, Nat.zero_le _, rfl, rfl⟩
        case round =>
          obtain ⟨t, ht, rfl, rfl⟩ := hrel
          by_cases htl : t < c
          · have hk0 : (0 : Int) ≤ (t : Int) := by omega
            have hkn : (t : Int) < (c : Int) := by omega
            go_wp2_with fail
            go_loopw [19] (fun i wx => i = .int .i64 1 ∧ wx = wr) (fun _ _ => 0)
            case atStart => exact ⟨rfl, rfl⟩
            case round =>
              obtain ⟨rfl, rfl⟩ := hrel
              by_cases hL1 : (1 : Int) < (L : Int)
              · have hd1 : decide ((1 : Int) < (L : Int)) = true := decide_eq_true hL1
                go_wp2_with fail
                go_roundw
                case rel => exact ⟨t + 1, by omega, by go_num, trivial⟩
                case measure => simp [intOf]; omega
              · have hd1 : decide ((1 : Int) < (L : Int)) = false := decide_eq_false hL1
                go_wp2_with fail
                go_roundw
                case rel => exact ⟨t + 1, by omega, by go_num, trivial⟩
                case measure => simp [intOf]; omega
          · obtain rfl : t = c := by omega
            obtain ⟨x0, x1, x2, _, _, _⟩ := three_cells HG25.out
            obtain ⟨p0, p1, p2, _, _, _⟩ := three_cells HBX5.out
            have HRES : Hid (TakesOk l lens takes ∧ chkE (tkOf l 0).rate (t : Int) (bClips l (rowsK l lens takes n2) t) = 0 ∧ ClipsAt (((wr.setCell ⟨g8, 0, none⟩ (.int .i64 (tkOf l 0).rate)).setCell ⟨g8, 1, none⟩ (.int .i64 (t : Int))).setCell ⟨g8, 2, none⟩ (.slice A' m9 c')) (((wr.setCell ⟨g8, 0, none⟩ (.int .i64 (tkOf l 0).rate)).setCell ⟨g8, 1, none⟩ (.int .i64 (t : Int))).setCell ⟨g8, 2, none⟩ (.slice A' m9 c')).heap.size A' m9 (bClips l (rowsK l lens takes n2) t)) := by
              rw [HRR.out]
              have e8 : g8 < g13 + 1 := by omega
              exact ⟨HOK.out, HF.out, (((HCL5.out.far (p := ⟨g8, 0, none⟩) e8 _).far (p := ⟨g8, 1, none⟩) e8 _).far (p := ⟨g8, 2, none⟩) e8 _).at_⟩
            go_wp2_with fail
            refine end_edit2 rfl rfl rfl x0 x1 x2 ?_
            exact ⟨set3_below HBR.out hg8, .inr ⟨t, A', m9, c', rfl, HRES.out⟩⟩
  · have d0 : decide (0 < n2) = true := by simp; omega
    have hn2p : 0 < n2 := by omega
    clear hlz
    go_wp2_with fail
    refine (SLMIN_any A1 n2 cap1 lens (by omega) (by omega) (Lib.hid HOK.out.long) w1 B (by exact Lib.hid (h1.out.below HBR.out hB))).mono ?_
    rintro e w9 ⟨⟨m, hm1, hm2, rfl⟩, hw9⟩
    subst hw9
    have hwm := IntWalk.i64_in (m - 1) (by omega)
    have hm9 : 0 ≤ m - 1 := by omega
    have hm8 : m - 1 ≤ 100000 := by omega
    go_wp2_with fail
    refine (ROWSOF_any A A1 A2 n n2 n2 cap cap1 cap2 l lens takes HOK w1 B (by have := HBR.out.size; omega) (Lib.hid (hh.out.below HBR.out hB)) (Lib.hid (h1.out.below HBR.out hB)) (Lib.hid (h2.out.below HBR.out hB))).mono ?_
    rintro e w2 ⟨v, rfl, hrows, hb2⟩
    obtain ⟨AR, cR, hve, _, _⟩ := hrows.form
    subst hve
    rw [List.length_map] at hrows ⊢
    obtain ⟨L, hL⟩ : ∃ L, (rowsK l lens takes n2).length = L := ⟨_, rfl⟩
    rw [hL] at hrows ⊢
    have HLEN := Lib.hid hL
    have HLN2 : Hid (L ≤ n2) := by rw [← hL]; exact rows_len n2
    have hL60 : L ≤ 60 := by rw [← hL]; have := rows_len (l := l) (lens := lens) (takes := takes) n2; omega
    have HROWS := Lib.hid hrows
    have HBR := Lib.hid (HBR.out.trans (hb2.mono HBR.out.size))
    have HG2 := Lib.hid ((hb2.block g8 hg81).trans HG1.out)
    have hg82 := blk_lt HG2.out
    clear hb2 hrows hL HG1
    have d1 : decide ((m - 1) < 0) = false := decide_eq_false (by omega)
    obtain ⟨b, o, A9, n9, c9, e9, hb9, ⟨_, k1, k2, _⟩, _, _, _⟩ := (hh.out.below HBR.out hB).2 0 hn0
    subst e9
    rw [Nat.zero_mul, Nat.add_zero] at k1 k2
    obtain ⟨ch, hch⟩ : ∃ ch : Nat, (tkOf l 0).chans = (ch : Int) := ⟨(tkOf l 0).chans.toNat, by have := HOK.out.starts _ (tk_mem (l := l) (k := 0) (by rw [hl.out]; omega)); unfold startsOk at this; omega⟩
    have hch16 : ch ≤ 16 := by have := HOK.out.starts _ (tk_mem (l := l) (k := 0) (by rw [hl.out]; omega)); unfold startsOk at this; omega
    rw [hch] at k2
    have hnn : (0 : Int) < (n : Int) := by omega
    clear hch
    go_wp2_with fail
    have hbw2 : b < w2.heap.size := by have := HBR.out.size; omega
    go_region
    obtain ⟨X0, hX0⟩ : ∃ X, X = (w2.alloc (.cells #[.int .i64 (tkOf l 0).rate, .int .i64 (ch : Int), .slice none 0 0] 24)).drew := ⟨_, rfl⟩
    obtain ⟨g13, hg13⟩ : ∃ g, w2.heap.size = g := ⟨_, rfl⟩
    have HX0 : Hid (X0.heap[g13]? = some (.cells #[.int .i64 (tkOf l 0).rate, .int .i64 (ch : Int), .slice none 0 0] 24 (0, 0))) := by rw [hX0, ← hg13]; exact heap_alloc_new _ _
    have HB0 : Hid (Below g13 w2 X0) := by rw [hX0, ← hg13]; exact ((Below.refl _ _).alloc (Nat.le_refl _) _).drew
    have HS0 : Hid (X0.heap.size = g13 + 1) := by rw [hX0, ← hg13]; show _ = _; simp
    rw [hg13] at hg82 hbw2
    rw [hg13, ← hX0]
    have HG13 := Lib.hid hg13
    have hw13 : w.heap.size ≤ g13 := by rw [← hg13]; exact HBR.out.size
    have hB13 : B ≤ g13 := by omega
    have hsX0 : g13 < X0.heap.size := by rw [HS0.out]; omega
    have HBR0 := Lib.hid (HBR.out.trans (HB0.out.mono hw13))
    obtain ⟨p0, p1, p2, _, _, _⟩ := three_cells HX0.out
    obtain ⟨R, hR⟩ : ∃ R, rowsK l lens takes n2 = R := ⟨_, rfl⟩
    have HRR := Lib.hid hR
    have HFIT := Lib.hid (rows_fit HOK.out n2 (by rw [hl1.out]; exact Nat.le_refl _))
    rw [hR] at HROWS HLEN HFIT
    clear hX0 hg13 hR k1 k2 d0 d1
    go_wp2_with fail
    clear p0 p1 p2
    go_loopw [60] (fun i wr => ∃ (c : Nat) (A' : Option Addr) (m9 c' : Nat) (ls : List (List Value)), c ≤ ch ∧ i = .int .i64 c ∧ Hid (Below g13 X0 wr) ∧ Hid (wr.heap[g13]? = some (.cells #[.int .i64 (tkOf l 0).rate, .int .i64 (ch : Int), .slice A' m9 c'] 24 (0, 0))) ∧ Hid (ClipsB wr (g13 + 1) (.slice A' m9 c') (bClips l R c) ls)) (fun i _ => ch - (intOf i).toNat)
    case atStart => exact ⟨0, none, 0, 0, [], Nat.zero_le _, rfl, below_self3 (by omega), HX0.out, ClipsB.nil _ _⟩
    case round =>
      obtain ⟨c, A', m9, c', ls, hc, rfl, HBc, HBOXc, HCLc⟩ := hrel
      have hszc : g13 < wr.heap.size := blk_lt HBOXc.out
      by_cases hlt : c < ch
      · have hk0 : (0 : Int) ≤ (c : Int) := by omega
        have hkn : (c : Int) < (ch : Int) := by omega
        go_wp2_with fail
        go_loopw [65] (fun i wx => ∃ (k : Nat) (A' : Option Addr) (m9 c' : Nat) (ls : List (List Value)), k ≤ L ∧ i = .int .i64 k ∧ Hid (Below g13 X0 wx) ∧ Hid (wx.heap[g13]? = some (.cells #[.int .i64 (tkOf l 0).rate, .int .i64 (ch : Int), .slice A' m9 c'] 24 (0, 0))) ∧ Hid (ClipsB wx (g13 + 1) (.slice A' m9 c') (bClips l R c ++ (R.take k).map (bClip l (c : Int))) ls)) (fun i _ => L - (intOf i).toNat)
        case atStart => exact ⟨0, A', m9, c', ls, Nat.zero_le _, rfl, HBc.out, HBOXc.out, by show ClipsB _ _ _ _ _; rw [List.take_zero, List.map_nil, List.append_nil]; exact HCLc.out⟩
        case round =>
          clear HBc HBOXc HCLc hszc
          obtain ⟨k, A', m9, c', ls, hk, rfl, HBx, HBOX, HCL⟩ := hrel
          have hszx : g13 < wr.heap.size := blk_lt HBOX.out
          by_cases hkl : k < L
          · have hk0' : (0 : Int) ≤ (k : Int) := by omega
            have hkn' : (k : Int) < (L : Int) := by omega
            have HB2x : Hid (Below w2.heap.size w2 wr) := by rw [HG13.out]; exact HB0.out.trans HBx.out
            have HRX := Lib.hid (HROWS.out.below HB2x.out)
            obtain ⟨ga, rfl⟩ : ∃ ga, AR = some ⟨ga, 0, none⟩ := by
              obtain ⟨g', cap', e', _⟩ := HRX.out.slot (by rw [List.length_map, HLEN.out]; omega) (by omega)
              exact ⟨g', by injection e'⟩
            have hkr : k < R.length := by rw [HLEN.out]; exact hkl
            have hml : k < (R.map rwC).length := by rw [List.length_map]; exact hkr
            have hRW := rec_rw hkr
            have hfit := HFIT.out _ (rw_mem hkr)
            have HTKR := Lib.hid (take_rw hkr)
            obtain ⟨r, hr⟩ : ∃ r, rwOf R k = r := ⟨_, rfl⟩
            rw [hr] at hRW hfit HTKR
            obtain ⟨rt, rf, ra, rl⟩ := r
            dsimp only at hfit
            obtain ⟨tn, rfl⟩ : ∃ tn : Nat, rt = (tn : Int) := ⟨rt.toNat, by omega⟩
            obtain ⟨m0, _⟩ := OwnK.cells HRX.out hml (by omega) 0 (.int .i64 (tn : Int)) (by rw [hRW]; rfl)
            obtain ⟨m1, _⟩ := OwnK.cells HRX.out hml (by omega) 1 (.int .i64 rf) (by rw [hRW]; rfl)
            obtain ⟨m2, _⟩ := OwnK.cells HRX.out hml (by omega) 2 (.int .i64 ra) (by rw [hRW]; rfl)
            obtain ⟨m3, _⟩ := OwnK.cells HRX.out hml (by omega) 3 (.int .i64 rl) (by rw [hRW]; rfl)
            rw [Nat.add_zero] at m0
            have HFT := Lib.hid hfit
            have htn : tn < n := by have := hl.out; omega
            have htn0 : (0 : Int) ≤ (tn : Int) := by omega
            have htnn : (tn : Int) < (n : Int) := by omega
            have hwf := IntWalk.i64_in rf (by omega)
            have hwa := IntWalk.i64_in ra (by omega)
            have hwl := IntWalk.i64_in rl (by omega)
            have hrf : decide (rf < 0) = false := decide_eq_false (by omega)
            clear hfit hRW hml hkr hr
            go_upto_region 17 with (fail)
            obtain ⟨X, g16, hX, hg16, HX, HBX, HSX⟩ := cell_new wr 96 #[.int .i64 (tn : Int), .int .i64 rf, .int .i64 ra, .int .i64 rl]
            rw [← hX, ← hg16]
            have HG16 := Lib.hid hg16
            clear hX hg16 m0 m1 m2 m3
            obtain ⟨x0, x1, x2, x3⟩ := four_cells HX.out
            by_cases hk00 : k = 0
            · have hd9 : decide (0 < k) = false := decide_eq_false (by omega)
              go_upto_region 21 with (fail)
              have HBXX := HBX
              have HX16 := HX
              have hg16X := blk_lt HX.out
              have HBX13 := Lib.hid (HBx.out.trans (HBXX.out.mono (by omega)))
              have HBXw := Lib.hid (HBR0.out.trans (HBX13.out.mono hw13))
              have HBOXX := Lib.hid ((HBXX.out.block g13 hszx).trans HBOX.out)
              have HCLX := Lib.hid (HCL.out.below HBXX.out)
              have hg13X := blk_lt HBOXX.out
              have c13 : X.cell? ⟨g13, 2, none⟩ = some (.slice A' m9 c') := by rw [own_cell1 HBOXX.out 2]; rfl
              obtain ⟨b2, o2, _, _, _, e2, hb2, ⟨kk0, _, _, _⟩, _, _, _⟩ := (hh.out.below HBXw.out hB).2 tn htn
              cases e2
              have hbX : b < X.heap.size := by omega
              have hm9 : m9 = c * L + k := by
                obtain ⟨_, _, e9, _, _⟩ := HCL.out.own.form
                injection e9 with _ e9 _
                rw [e9, HCL.out.len, List.length_append, bClips_len, List.length_map, List.length_take, HLEN.out]
                omega
              have hm960 : m9 ≤ 100000 := by
                rw [hm9]
                have h9 : c * L ≤ 16 * 60 := Nat.mul_le_mul (by omega) hL60
                omega
              clear hm9
              refine wp_region_head 22 (fun x9 => x9.cell? ⟨g13, 2, none⟩ = some (.slice A' m9 c') ∧ x9.cell? ⟨g16, 0, none⟩ = some (.int .i64 (tn : Int)) ∧ x9.cell? ⟨g16, 1, none⟩ = some (.int .i64 rf) ∧ x9.cell? ⟨g16, 2, none⟩ = some (.int .i64 ra) ∧ x9.cell? ⟨g16, 3, none⟩ = some (.int .i64 rl) ∧ x9.cell? ⟨b, o + tn * 4, none⟩ = some (.string (tkOf l tn).media)) (by kernel_rfl) (by kernel_rfl) ?_
              have hS0 := And.intro c13 (And.intro x0 (And.intro x1 (And.intro x2 (And.intro x3 kk0))))
              have hS : X.drew.cell? ⟨g13, 2, none⟩ = some (.slice A' m9 c') ∧ X.drew.cell? ⟨g16, 0, none⟩ = some (.int .i64 (tn : Int)) ∧ X.drew.cell? ⟨g16, 1, none⟩ = some (.int .i64 rf) ∧ X.drew.cell? ⟨g16, 2, none⟩ = some (.int .i64 ra) ∧ X.drew.cell? ⟨g16, 3, none⟩ = some (.int .i64 rl) ∧ X.drew.cell? ⟨b, o + tn * 4, none⟩ = some (.string (tkOf l tn).media) := hS0
              obtain ⟨Y, hY⟩ : ∃ Y, Y = X.drew := ⟨_, rfl⟩
              have HBY : Hid (Below X.heap.size X Y) := by rw [hY]; exact (Below.refl _ _).drew
              have HSY : Hid (Y.heap.size = X.heap.size) := by rw [hY]; rfl
              rw [← hY] at hS ⊢
              clear hY
              refine HL.take (i := 0) (oi := _) (v := ?_) rfl (by kernel_rfl) (by kernel_rfl) (by decide) (fun _ _ _ h => h) (Or.inl ⟨by rfl, ?_⟩) hS ?_
              rotate_left
              · intro wz hwz
                try dsimp only at hwz
                go_simp
                try with_reducible rfl
              simp only [Act.put, List.setIfInBounds_toArray, List.set_cons_zero, List.set_cons_succ]
              refine HL.take (i := 1) (oi := _) (v := ?_) rfl (by kernel_rfl) (by kernel_rfl) (by decide) (fun _ _ _ h => h) (Or.inl ⟨by rfl, ?_⟩) hS ?_
              rotate_left
              · intro wz hwz
                try dsimp only at hwz
                go_simp
                try with_reducible rfl
              simp only [Act.put, List.setIfInBounds_toArray, List.set_cons_zero, List.set_cons_succ]
              refine HL.take (i := 2) (oi := _) (v := ?_) rfl (by kernel_rfl) (by kernel_rfl) (by decide) (fun _ _ _ h => h) (Or.inl ⟨by rfl, ?_⟩) hS ?_
              rotate_left
              · intro wz hwz
                try dsimp only at hwz
                go_simp
                try with_reducible rfl
              simp only [Act.put, List.setIfInBounds_toArray, List.set_cons_zero, List.set_cons_succ]
              refine HL.take (i := 3) (oi := _) (v := ?_) rfl (by kernel_rfl) (by kernel_rfl) (by decide) (fun _ _ _ h => h) (Or.inl ⟨by rfl, ?_⟩) hS ?_
              rotate_left
              · intro wz hwz
                try dsimp only at hwz
                go_simp
                try with_reducible rfl
              simp only [Act.put, List.setIfInBounds_toArray, List.set_cons_zero, List.set_cons_succ]
              refine HL.take (i := 4) (oi := _) (v := ?_) rfl (by kernel_rfl) (by kernel_rfl) (by decide) (fun _ _ _ h => h) (Or.inl ⟨by rfl, ?_⟩) hS ?_
              rotate_left
              · intro wz hwz
                try dsimp only at hwz
                go_simp
                try with_reducible rfl
              simp only [Act.put, List.setIfInBounds_toArray, List.set_cons_zero, List.set_cons_succ]
              refine HL.take (i := 5) (oi := _) (v := ?_) rfl (by kernel_rfl) (by kernel_rfl) (by decide) (fun _ _ _ h => h) (Or.inl ⟨by rfl, ?_⟩) hS ?_
              rotate_left
              · intro wz hwz
                try dsimp only at hwz
                go_simp
                try with_reducible rfl
              simp only [Act.put, List.setIfInBounds_toArray, List.set_cons_zero, List.set_cons_succ]
              refine HL.take (i := 6) (oi := _) (v := ?_) rfl (by kernel_rfl) (by kernel_rfl) (by decide) (fun _ _ _ h => h) (Or.inl ⟨by rfl, ?_⟩) hS ?_
              rotate_left
              · intro wz hwz
                try dsimp only at hwz
                go_simp
                try with_reducible rfl
              simp only [Act.put, List.setIfInBounds_toArray, List.set_cons_zero, List.set_cons_succ]
              refine HL.take (i := 7) (oi := _) (v := ?_) rfl (by kernel_rfl) (by kernel_rfl) (by decide) (fun _ _ _ h => h) (Or.inl ⟨by rfl, ?_⟩) hS ?_
              rotate_left
              · intro wz hwz
                try dsimp only at hwz
                go_simp
                try with_reducible rfl
              simp only [Act.put, List.setIfInBounds_toArray, List.set_cons_zero, List.set_cons_succ]
              refine HL.take (i := 8) (oi := _) (v := ?_) rfl (by kernel_rfl) (by kernel_rfl) (by decide) (fun _ _ _ h => h) (Or.inl ⟨by rfl, ?_⟩) hS ?_
              rotate_left
              · intro wz hwz
                try dsimp only at hwz
                go_simp
                try with_reducible rfl
              simp only [Act.put, List.setIfInBounds_toArray, List.set_cons_zero, List.set_cons_succ]
              refine HL.take (i := 9) (oi := _) (v := ?_) rfl (by kernel_rfl) (by kernel_rfl) (by decide) (fun _ _ _ h => h) (Or.inl ⟨by rfl, ?_⟩) hS ?_
              rotate_left
              · intro wz hwz
                try dsimp only at hwz
                go_simp
                try with_reducible rfl
              simp only [Act.put, List.setIfInBounds_toArray, List.set_cons_zero, List.set_cons_succ]
              refine HL.take (i := 10) (oi := _) (v := ?_) rfl (by kernel_rfl) (by kernel_rfl) (by decide) (fun _ _ _ h => h) (Or.inl ⟨by rfl, ?_⟩) hS ?_
              rotate_left
              · intro wz hwz
                try dsimp only at hwz
                go_simp
                try with_reducible rfl
              simp only [Act.put, List.setIfInBounds_toArray, List.set_cons_zero, List.set_cons_succ]
              refine HL.take (i := 11) (oi := _) (v := ?_) rfl (by kernel_rfl) (by kernel_rfl) (by decide) (fun _ _ _ h => h) (Or.inl ⟨by rfl, ?_⟩) hS ?_
              rotate_left
              · intro wz hwz
                try dsimp only at hwz
                go_simp
                try with_reducible rfl
              simp only [Act.put, List.setIfInBounds_toArray, List.set_cons_zero, List.set_cons_succ]
              refine HL.take (i := 12) (oi := _) (v := ?_) rfl (by kernel_rfl) (by kernel_rfl) (by decide) (fun _ _ _ h => h) (Or.inl ⟨by rfl, ?_⟩) hS ?_
              rotate_left
              · intro wz hwz
                try dsimp only at hwz
                go_simp
                try with_reducible rfl
              simp only [Act.put, List.setIfInBounds_toArray, List.set_cons_zero, List.set_cons_succ]
              refine HL.take (i := 13) (oi := _) (v := ?_) rfl (by kernel_rfl) (by kernel_rfl) (by decide) (fun _ _ _ h => h) (Or.inl ⟨by rfl, ?_⟩) hS ?_
              rotate_left
              · intro wz hwz
                try dsimp only at hwz
                go_simp
                try with_reducible rfl
              simp only [Act.put, List.setIfInBounds_toArray, List.set_cons_zero, List.set_cons_succ]
              refine HL.take (i := 14) (oi := _) (v := ?_) rfl (by kernel_rfl) (by kernel_rfl) (by decide) (fun _ _ _ h => h) (Or.inl ⟨by rfl, ?_⟩) hS ?_
              rotate_left
              · intro wz hwz
                try dsimp only at hwz
                go_simp
                try with_reducible rfl
              simp only [Act.put, List.setIfInBounds_toArray, List.set_cons_zero, List.set_cons_succ]
              refine HL.take (i := 15) (oi := _) (v := ?_) rfl (by kernel_rfl) (by kernel_rfl) (by decide) (fun _ _ _ h => h) (Or.inl ⟨by rfl, ?_⟩) hS ?_
              rotate_left
              · intro wz hwz
                try dsimp only at hwz
                go_simp
                try with_reducible rfl
              simp only [Act.put, List.setIfInBounds_toArray, List.set_cons_zero, List.set_cons_succ]
              refine HL.take (i := 16) (oi := _) (v := ?_) rfl (by kernel_rfl) (by kernel_rfl) (by decide) (fun _ _ _ h => h) (Or.inl ⟨by rfl, ?_⟩) hS ?_
              rotate_left
              · intro wz hwz
                try dsimp only at hwz
                go_simp
                try with_reducible rfl
              simp only [Act.put, List.setIfInBounds_toArray, List.set_cons_zero, List.set_cons_succ]
              refine HL.take (i := 17) (oi := _) (v := ?_) rfl (by kernel_rfl) (by kernel_rfl) (by decide) (fun _ _ _ h => h) (Or.inl ⟨by rfl, ?_⟩) hS ?_
              rotate_left
              · intro wz hwz
                try dsimp only at hwz
                go_simp
                try with_reducible rfl
              simp only [Act.put, List.setIfInBounds_toArray, List.set_cons_zero, List.set_cons_succ]
              refine HL.one (i := 18) (o := _) rfl (by kernel_rfl) (by decide) (by rfl) ?_
              intro K hK
              go_simp
              have HB5 : Hid (Below X.heap.size X (Y.alloc (.cells pt1 68))) := HBY.out.alloc (by rw [HSY.out]; exact Nat.le_refl _) _
              have hS5 := keep6b hS0 HB5.out hg13X hg16X hg16X hg16X hg16X hbX
              refine hK.out _ _ hS5 ?_
              clear hK K hS
              have hS := hS5
              clear hS5
              try simp only [Act.put, List.setIfInBounds_toArray, List.set_cons_zero, List.set_cons_succ]
              refine HL.take (i := 19) (oi := _) (v := ?_) rfl (by kernel_rfl) (by kernel_rfl) (by decide) (fun _ _ _ h => h) (Or.inl ⟨by rfl, ?_⟩) hS ?_
              rotate_left
              · intro wz hwz
                try dsimp only at hwz
                go_simp
                try with_reducible rfl
              simp only [Act.put, List.setIfInBounds_toArray, List.set_cons_zero, List.set_cons_succ]
              refine HL.one (i := 20) (o := _) rfl (by kernel_rfl) (by decide) (by rfl) ?_
              intro K hK
              go_simp
              have HB6 : Hid (Below X.heap.size X ((Y.alloc (.cells pt1 68)).alloc (.cells #[.string (tkOf l tn).media, .int .i64 (c : Int), .int .i64 rf, .int .i64 (c : Int), .int .i64 ra, .int .i64 rl, .slice (some ⟨Y.heap.size, 0, none⟩) 1 1] 58))) := HB5.out.alloc HB5.out.size _
              have hS6 := keep6b hS0 HB6.out hg13X hg16X hg16X hg16X hg16X hbX
              refine hK.out _ _ hS6 ?_
              clear hK K hS
              have hS := hS6
              clear hS6
              try simp only [Act.put, List.setIfInBounds_toArray, List.set_cons_zero, List.set_cons_succ]
              refine HL.one (i := 21) (o := _) rfl (by kernel_rfl) (by decide) (by rfl) ?_
              intro K hK
              refine wp_push_k2 (w0 := Y.alloc (.cells pt1 68)) 22 58 7 80 (.agg #[.string ⟨#[]⟩, .int .i64 0, .int .i64 0, .int .i64 0, .int .i64 0, .int .i64 0, .slice none 0 0]) Tryz.underlying22 (by kernel_rfl) rfl (by omega) (by omega) (.tmp 92) (.tmp 111) (by rfl) (g13 + 1) A' m9 c' ls (cpL (bClip l (c : Int) ⟨(tn : Int), rf, ra, rl⟩) (.slice (some ⟨Y.heap.size, 0, none⟩) 1 1)) rfl (by intro u hu; simp [cpL, bClip] at hu; rcases hu with rfl | rfl | rfl | rfl | rfl | rfl | rfl <;> rfl) (Y.heap.size + 1) (by simp) _ rfl (by rfl) (by rfl) (HCLX.out.own.below HB5.out) (by omega) (by have := HB5.out.size; omega) ?_
              intro g9 cap9 w9 hO9 hg9
              have hown : ∀ b', (Value.slice A' m9 c').ownBlock = some b' → g13 + 1 ≤ b' := fun b' e => (own_lt HCLX.out.own.2 e).1
              have hn16 : (Value.slice A' m9 c').ownBlock ≠ some g16 := own_ne_blk HCLX.out.own.2 HX16.out (by decide)
              have hk9 : ∀ i, i < X.heap.size → some i ≠ (Value.slice A' m9 c').ownBlock → w9.heap[i]? = X.heap[i]? := fun i hi hne => (hg9.block i (Nat.lt_of_lt_of_le hi HB6.out.size) hne).trans (HB6.out.block i hi)
              have hb13 := hk9 g13 hg13X (fun e => by have := hown _ e.symm; omega)
              have hb16 := hk9 g16 hg16X (fun e => hn16 e.symm)
              have hbb := hk9 b hbX (fun e => by have := hown _ e.symm; omega)
              have hS9 : w9.cell? ⟨g13, 2, none⟩ = some (.slice A' m9 c') ∧ w9.cell? ⟨g16, 0, none⟩ = some (.int .i64 (tn : Int)) ∧ w9.cell? ⟨g16, 1, none⟩ = some (.int .i64 rf) ∧ w9.cell? ⟨g16, 2, none⟩ = some (.int .i64 ra) ∧ w9.cell? ⟨g16, 3, none⟩ = some (.int .i64 rl) ∧ w9.cell? ⟨b, o + tn * 4, none⟩ = some (.string (tkOf l tn).media) :=
                ⟨(World.cell?_of_block (w := X) (a := ⟨g13, 2, none⟩) hb13).trans hS0.1, (World.cell?_of_block (w := X) (a := ⟨g16, 0, none⟩) hb16).trans hS0.2.1, (World.cell?_of_block (w := X) (a := ⟨g16, 1, none⟩) hb16).trans hS0.2.2.1, (World.cell?_of_block (w := X) (a := ⟨g16, 2, none⟩) hb16).trans hS0.2.2.2.1, (World.cell?_of_block (w := X) (a := ⟨g16, 3, none⟩) hb16).trans hS0.2.2.2.2.1, (World.cell?_of_block (w := X) (a := ⟨b, o + tn * 4, none⟩) hbb).trans hS0.2.2.2.2.2⟩
              refine hK.out _ _ hS9 ?_
              clear hK K hS
              have hS := hS9
              try simp only [Act.put, List.setIfInBounds_toArray, List.set_cons_zero, List.set_cons_succ]
              refine HL.done (by kernel_rfl) ?_
              simp only [List.drop_succ_cons, List.drop_zero]
              have HBOX9 := Lib.hid (hb13.trans HBOXX.out)
              have c91 := hS9.1
              have f91 := frozen_of_row w9 g13 2 _ _ HBOX9.out
              have HPUSH := Lib.hid (ClipsB.push (w0 := Y) (cp := bClip l (c : Int) ⟨(tn : Int), rf, ra, rl⟩) (HCLX.out.below HBY.out) (by rw [HSY.out]; omega) rfl hO9 hg9)
              have HB9 : Hid (Below g13 X0 w9) := HBX13.out.trans ((HB6.out.mono (by omega)).grown hg9 (by have := HB6.out.size; omega) (fun b' e => by have := hown _ e; omega))
              clear hown hn16 hk9 hb13 hb16 hbb hS9 hS hO9 hg9
              go_wp2
              have HBXS := Lib.hid (heap_setCell_same w9 g13 2 _ _ (.slice (some ⟨g9, 0, none⟩) (m9 + 1) cap9) HBOX9.out)
              go_roundw
              case rel =>
                refine ⟨k + 1, some ⟨g9, 0, none⟩, m9 + 1, cap9, ls ++ [cpL (bClip l (c : Int) ⟨(tn : Int), rf, ra, rl⟩) (.slice (some ⟨Y.heap.size, 0, none⟩) 1 1)], by omega, by go_num, HB9.out.setCell (p := ⟨g13, 2, none⟩) (Nat.le_refl _) _, HBXS.out, ?_⟩
                show ClipsB _ _ _ _ _
                rw [HTKR.out, List.map_append, ← List.append_assoc]
                exact HPUSH.out.far (p := ⟨g13, 2, none⟩) (show g13 < g13 + 1 by omega) _
              case measure => simp [intOf]; omega
            · have hd9 : decide (0 < k) = true := decide_eq_true (by omega)
              have y1 := frozen_of_row X g16 1 _ _ HX.out
              have y2 := frozen_of_row X g16 2 _ _ HX.out
              have y3 := frozen_of_row X g16 3 _ _ HX.out
              go_upto_region 21 with (fail)
              clear x0 x1 x2 x3 y1 y2 y3
              obtain ⟨X2, hX2⟩ : ∃ X2, X2 = ((X.setCell ⟨g16, 1, none⟩ (.int .i64 rf)).setCell ⟨g16, 2, none⟩ (.int .i64 ra)).setCell ⟨g16, 3, none⟩ (.int .i64 rl) := ⟨_, rfl⟩
              have HX16 : Hid (X2.heap[g16]? = some (.cells #[.int .i64 (tn : Int), .int .i64 rf, .int .i64 ra, .int .i64 rl] 96 (0, 0))) := by
                rw [hX2]
                exact heap_setCell_same _ g16 3 _ _ (.int .i64 rl) (heap_setCell_same _ g16 2 _ _ (.int .i64 ra) (heap_setCell_same X g16 1 _ _ (.int .i64 rf) HX.out))
              have HBXX : Hid (Below wr.heap.size wr X2) := by
                rw [hX2]
                have e9 : wr.heap.size ≤ g16 := by have := HG16.out; omega
                exact ((HBX.out.setCell (p := ⟨g16, 1, none⟩) e9 _).setCell (p := ⟨g16, 2, none⟩) e9 _).setCell (p := ⟨g16, 3, none⟩) e9 _
              rw [← hX2]
              clear hX2
              obtain ⟨x0, x1, x2, x3⟩ := four_cells HX16.out
              have hg16X := blk_lt HX16.out
              have HBX13 := Lib.hid (HBx.out.trans (HBXX.out.mono (by omega)))
              have HBXw := Lib.hid (HBR0.out.trans (HBX13.out.mono hw13))
              have HBOXX := Lib.hid ((HBXX.out.block g13 hszx).trans HBOX.out)
              have HCLX := Lib.hid (HCL.out.below HBXX.out)
              have hg13X := blk_lt HBOXX.out
              have c13 : X2.cell? ⟨g13, 2, none⟩ = some (.slice A' m9 c') := by rw [own_cell1 HBOXX.out 2]; rfl
              obtain ⟨b2, o2, _, _, _, e2, hb2, ⟨kk0, _, _, _⟩, _, _, _⟩ := (hh.out.below HBXw.out hB).2 tn htn
              cases e2
              have hbX : b < X2.heap.size := by omega
              have hm9 : m9 = c * L + k := by
                obtain ⟨_, _, e9, _, _⟩ := HCL.out.own.form
                injection e9 with _ e9 _
                rw [e9, HCL.out.len, List.length_append, bClips_len, List.length_map, List.length_take, HLEN.out]
                omega
              have hm960 : m9 ≤ 100000 := by
                rw [hm9]
                have h9 : c * L ≤ 16 * 60 := Nat.mul_le_mul (by omega) hL60
                omega
              clear hm9
              refine wp_region_head 22 (fun x9 => x9.cell? ⟨g13, 2, none⟩ = some (.slice A' m9 c') ∧ x9.cell? ⟨g16, 0, none⟩ = some (.int .i64 (tn : Int)) ∧ x9.cell? ⟨g16, 1, none⟩ = some (.int .i64 rf) ∧ x9.cell? ⟨g16, 2, none⟩ = some (.int .i64 ra) ∧ x9.cell? ⟨g16, 3, none⟩ = some (.int .i64 rl) ∧ x9.cell? ⟨b, o + tn * 4, none⟩ = some (.string (tkOf l tn).media)) (by kernel_rfl) (by kernel_rfl) ?_
              have hS0 := And.intro c13 (And.intro x0 (And.intro x1 (And.intro x2 (And.intro x3 kk0))))
              have hS : X2.drew.cell? ⟨g13, 2, none⟩ = some (.slice A' m9 c') ∧ X2.drew.cell? ⟨g16, 0, none⟩ = some (.int .i64 (tn : Int)) ∧ X2.drew.cell? ⟨g16, 1, none⟩ = some (.int .i64 rf) ∧ X2.drew.cell? ⟨g16, 2, none⟩ = some (.int .i64 ra) ∧ X2.drew.cell? ⟨g16, 3, none⟩ = some (.int .i64 rl) ∧ X2.drew.cell? ⟨b, o + tn * 4, none⟩ = some (.string (tkOf l tn).media) := hS0
              obtain ⟨Y, hY⟩ : ∃ Y, Y = X2.drew := ⟨_, rfl⟩
              have HBY : Hid (Below X2.heap.size X2 Y) := by rw [hY]; exact (Below.refl _ _).drew
              have HSY : Hid (Y.heap.size = X2.heap.size) := by rw [hY]; rfl
              rw [← hY] at hS ⊢
              clear hY
              refine HL.take (i := 0) (oi := _) (v := ?_) rfl (by kernel_rfl) (by kernel_rfl) (by decide) (fun _ _ _ h => h) (Or.inl ⟨by rfl, ?_⟩) hS ?_
              rotate_left
              · intro wz hwz
                try dsimp only at hwz
                go_simp
                try with_reducible rfl
              simp only [Act.put, List.setIfInBounds_toArray, List.set_cons_zero, List.set_cons_succ]
              refine HL.take (i := 1) (oi := _) (v := ?_) rfl (by kernel_rfl) (by kernel_rfl) (by decide) (fun _ _ _ h => h) (Or.inl ⟨by rfl, ?_⟩) hS ?_
              rotate_left
              · intro wz hwz
                try dsimp only at hwz
                go_simp
                try with_reducible rfl
              simp only [Act.put, List.setIfInBounds_toArray, List.set_cons_zero, List.set_cons_succ]
              refine HL.take (i := 2) (oi := _) (v := ?_) rfl (by kernel_rfl) (by kernel_rfl) (by decide) (fun _ _ _ h => h) (Or.inl ⟨by rfl, ?_⟩) hS ?_
              rotate_left
              · intro wz hwz
                try dsimp only at hwz
                go_simp
                try with_reducible rfl
              simp only [Act.put, List.setIfInBounds_toArray, List.set_cons_zero, List.set_cons_succ]
              refine HL.take (i := 3) (oi := _) (v := ?_) rfl (by kernel_rfl) (by kernel_rfl) (by decide) (fun _ _ _ h => h) (Or.inl ⟨by rfl, ?_⟩) hS ?_
              rotate_left
              · intro wz hwz
                try dsimp only at hwz
                go_simp
                try with_reducible rfl
              simp only [Act.put, List.setIfInBounds_toArray, List.set_cons_zero, List.set_cons_succ]
              refine HL.take (i := 4) (oi := _) (v := ?_) rfl (by kernel_rfl) (by kernel_rfl) (by decide) (fun _ _ _ h => h) (Or.inl ⟨by rfl, ?_⟩) hS ?_
              rotate_left
              · intro wz hwz
                try dsimp only at hwz
                go_simp
                try with_reducible rfl
              simp only [Act.put, List.setIfInBounds_toArray, List.set_cons_zero, List.set_cons_succ]
              refine HL.take (i := 5) (oi := _) (v := ?_) rfl (by kernel_rfl) (by kernel_rfl) (by decide) (fun _ _ _ h => h) (Or.inl ⟨by rfl, ?_⟩) hS ?_
              rotate_left
              · intro wz hwz
                try dsimp only at hwz
                go_simp
                try with_reducible rfl
              simp only [Act.put, List.setIfInBounds_toArray, List.set_cons_zero, List.set_cons_succ]
              refine HL.take (i := 6) (oi := _) (v := ?_) rfl (by kernel_rfl) (by kernel_rfl) (by decide) (fun _ _ _ h => h) (Or.inl ⟨by rfl, ?_⟩) hS ?_
              rotate_left
              · intro wz hwz
                try dsimp only at hwz
                go_simp
                try with_reducible rfl
              simp only [Act.put, List.setIfInBounds_toArray, List.set_cons_zero, List.set_cons_succ]
              refine HL.take (i := 7) (oi := _) (v := ?_) rfl (by kernel_rfl) (by kernel_rfl) (by decide) (fun _ _ _ h => h) (Or.inl ⟨by rfl, ?_⟩) hS ?_
              rotate_left
              · intro wz hwz
                try dsimp only at hwz
                go_simp
                try with_reducible rfl
              simp only [Act.put, List.setIfInBounds_toArray, List.set_cons_zero, List.set_cons_succ]
              refine HL.take (i := 8) (oi := _) (v := ?_) rfl (by kernel_rfl) (by kernel_rfl) (by decide) (fun _ _ _ h => h) (Or.inl ⟨by rfl, ?_⟩) hS ?_
              rotate_left
              · intro wz hwz
                try dsimp only at hwz
                go_simp
                try with_reducible rfl
              simp only [Act.put, List.setIfInBounds_toArray, List.set_cons_zero, List.set_cons_succ]
              refine HL.take (i := 9) (oi := _) (v := ?_) rfl (by kernel_rfl) (by kernel_rfl) (by decide) (fun _ _ _ h => h) (Or.inl ⟨by rfl, ?_⟩) hS ?_
              rotate_left
              · intro wz hwz
                try dsimp only at hwz
                go_simp
                try with_reducible rfl
              simp only [Act.put, List.setIfInBounds_toArray, List.set_cons_zero, List.set_cons_succ]
              refine HL.take (i := 10) (oi := _) (v := ?_) rfl (by kernel_rfl) (by kernel_rfl) (by decide) (fun _ _ _ h => h) (Or.inl ⟨by rfl, ?_⟩) hS ?_
              rotate_left
              · intro wz hwz
                try dsimp only at hwz
                go_simp
                try with_reducible rfl
              simp only [Act.put, List.setIfInBounds_toArray, List.set_cons_zero, List.set_cons_succ]
              refine HL.take (i := 11) (oi := _) (v := ?_) rfl (by kernel_rfl) (by kernel_rfl) (by decide) (fun _ _ _ h => h) (Or.inl ⟨by rfl, ?_⟩) hS ?_
              rotate_left
              · intro wz hwz
                try dsimp only at hwz
                go_simp
                try with_reducible rfl
              simp only [Act.put, List.setIfInBounds_toArray, List.set_cons_zero, List.set_cons_succ]
              refine HL.take (i := 12) (oi := _) (v := ?_) rfl (by kernel_rfl) (by kernel_rfl) (by decide) (fun _ _ _ h => h) (Or.inl ⟨by rfl, ?_⟩) hS ?_
              rotate_left
              · intro wz hwz
                try dsimp only at hwz
                go_simp
                try with_reducible rfl
              simp only [Act.put, List.setIfInBounds_toArray, List.set_cons_zero, List.set_cons_succ]
              refine HL.take (i := 13) (oi := _) (v := ?_) rfl (by kernel_rfl) (by kernel_rfl) (by decide) (fun _ _ _ h => h) (Or.inl ⟨by rfl, ?_⟩) hS ?_
              rotate_left
              · intro wz hwz
                try dsimp only at hwz
                go_simp
                try with_reducible rfl
              simp only [Act.put, List.setIfInBounds_toArray, List.set_cons_zero, List.set_cons_succ]
              refine HL.take (i := 14) (oi := _) (v := ?_) rfl (by kernel_rfl) (by kernel_rfl) (by decide) (fun _ _ _ h => h) (Or.inl ⟨by rfl, ?_⟩) hS ?_
              rotate_left
              · intro wz hwz
                try dsimp only at hwz
                go_simp
                try with_reducible rfl
              simp only [Act.put, List.setIfInBounds_toArray, List.set_cons_zero, List.set_cons_succ]
              refine HL.take (i := 15) (oi := _) (v := ?_) rfl (by kernel_rfl) (by kernel_rfl) (by decide) (fun _ _ _ h => h) (Or.inl ⟨by rfl, ?_⟩) hS ?_
              rotate_left
              · intro wz hwz
                try dsimp only at hwz
                go_simp
                try with_reducible rfl
              simp only [Act.put, List.setIfInBounds_toArray, List.set_cons_zero, List.set_cons_succ]
              refine HL.take (i := 16) (oi := _) (v := ?_) rfl (by kernel_rfl) (by kernel_rfl) (by decide) (fun _ _ _ h => h) (Or.inl ⟨by rfl, ?_⟩) hS ?_
              rotate_left
              · intro wz hwz
                try dsimp only at hwz
                go_simp
                try with_reducible rfl
              simp only [Act.put, List.setIfInBounds_toArray, List.set_cons_zero, List.set_cons_succ]
              refine HL.take (i := 17) (oi := _) (v := ?_) rfl (by kernel_rfl) (by kernel_rfl) (by decide) (fun _ _ _ h => h) (Or.inl ⟨by rfl, ?_⟩) hS ?_
              rotate_left
              · intro wz hwz
                try dsimp only at hwz
                go_simp
                try with_reducible rfl
              simp only [Act.put, List.setIfInBounds_toArray, List.set_cons_zero, List.set_cons_succ]
              refine HL.one (i := 18) (o := _) rfl (by kernel_rfl) (by decide) (by rfl) ?_
              intro K hK
              go_simp
              have HB5 : Hid (Below X2.heap.size X2 (Y.alloc (.cells pt1 68))) := HBY.out.alloc (by rw [HSY.out]; exact Nat.le_refl _) _
              have hS5 := keep6b hS0 HB5.out hg13X hg16X hg16X hg16X hg16X hbX
              refine hK.out _ _ hS5 ?_
              clear hK K hS
              have hS := hS5
              clear hS5
              try simp only [Act.put, List.setIfInBounds_toArray, List.set_cons_zero, List.set_cons_succ]
              refine HL.take (i := 19) (oi := _) (v := ?_) rfl (by kernel_rfl) (by kernel_rfl) (by decide) (fun _ _ _ h => h) (Or.inl ⟨by rfl, ?_⟩) hS ?_
              rotate_left
              · intro wz hwz
                try dsimp only at hwz
                go_simp
                try with_reducible rfl
              simp only [Act.put, List.setIfInBounds_toArray, List.set_cons_zero, List.set_cons_succ]
              refine HL.one (i := 20) (o := _) rfl (by kernel_rfl) (by decide) (by rfl) ?_
              intro K hK
              go_simp
              have HB6 : Hid (Below X2.heap.size X2 ((Y.alloc (.cells pt1 68)).alloc (.cells #[.string (tkOf l tn).media, .int .i64 (c : Int), .int .i64 rf, .int .i64 (c : Int), .int .i64 ra, .int .i64 rl, .slice (some ⟨Y.heap.size, 0, none⟩) 1 1] 58))) := HB5.out.alloc HB5.out.size _
              have hS6 := keep6b hS0 HB6.out hg13X hg16X hg16X hg16X hg16X hbX
              refine hK.out _ _ hS6 ?_
              clear hK K hS
              have hS := hS6
              clear hS6
              try simp only [Act.put, List.setIfInBounds_toArray, List.set_cons_zero, List.set_cons_succ]
              refine HL.one (i := 21) (o := _) rfl (by kernel_rfl) (by decide) (by rfl) ?_
              intro K hK
              refine wp_push_k2 (w0 := Y.alloc (.cells pt1 68)) 22 58 7 80 (.agg #[.string ⟨#[]⟩, .int .i64 0, .int .i64 0, .int .i64 0, .int .i64 0, .int .i64 0, .slice none 0 0]) Tryz.underlying22 (by kernel_rfl) rfl (by omega) (by omega) (.tmp 92) (.tmp 111) (by rfl) (g13 + 1) A' m9 c' ls (cpL (bClip l (c : Int) ⟨(tn : Int), rf, ra, rl⟩) (.slice (some ⟨Y.heap.size, 0, none⟩) 1 1)) rfl (by intro u hu; simp [cpL, bClip] at hu; rcases hu with rfl | rfl | rfl | rfl | rfl | rfl | rfl <;> rfl) (Y.heap.size + 1) (by simp) _ rfl (by rfl) (by rfl) (HCLX.out.own.below HB5.out) (by omega) (by have := HB5.out.size; omega) ?_
              intro g9 cap9 w9 hO9 hg9
              have hown : ∀ b', (Value.slice A' m9 c').ownBlock = some b' → g13 + 1 ≤ b' := fun b' e => (own_lt HCLX.out.own.2 e).1
              have hn16 : (Value.slice A' m9 c').ownBlock ≠ some g16 := own_ne_blk HCLX.out.own.2 HX16.out (by decide)
              have hk9 : ∀ i, i < X2.heap.size → some i ≠ (Value.slice A' m9 c').ownBlock → w9.heap[i]? = X2.heap[i]? := fun i hi hne => (hg9.block i (Nat.lt_of_lt_of_le hi HB6.out.size) hne).trans (HB6.out.block i hi)
              have hb13 := hk9 g13 hg13X (fun e => by have := hown _ e.symm; omega)
              have hb16 := hk9 g16 hg16X (fun e => hn16 e.symm)
              have hbb := hk9 b hbX (fun e => by have := hown _ e.symm; omega)
              have hS9 : w9.cell? ⟨g13, 2, none⟩ = some (.slice A' m9 c') ∧ w9.cell? ⟨g16, 0, none⟩ = some (.int .i64 (tn : Int)) ∧ w9.cell? ⟨g16, 1, none⟩ = some (.int .i64 rf) ∧ w9.cell? ⟨g16, 2, none⟩ = some (.int .i64 ra) ∧ w9.cell? ⟨g16, 3, none⟩ = some (.int .i64 rl) ∧ w9.cell? ⟨b, o + tn * 4, none⟩ = some (.string (tkOf l tn).media) :=
                ⟨(World.cell?_of_block (w := X2) (a := ⟨g13, 2, none⟩) hb13).trans hS0.1, (World.cell?_of_block (w := X2) (a := ⟨g16, 0, none⟩) hb16).trans hS0.2.1, (World.cell?_of_block (w := X2) (a := ⟨g16, 1, none⟩) hb16).trans hS0.2.2.1, (World.cell?_of_block (w := X2) (a := ⟨g16, 2, none⟩) hb16).trans hS0.2.2.2.1, (World.cell?_of_block (w := X2) (a := ⟨g16, 3, none⟩) hb16).trans hS0.2.2.2.2.1, (World.cell?_of_block (w := X2) (a := ⟨b, o + tn * 4, none⟩) hbb).trans hS0.2.2.2.2.2⟩
              refine hK.out _ _ hS9 ?_
              clear hK K hS
              have hS := hS9
              try simp only [Act.put, List.setIfInBounds_toArray, List.set_cons_zero, List.set_cons_succ]
              refine HL.done (by kernel_rfl) ?_
              simp only [List.drop_succ_cons, List.drop_zero]
              have HBOX9 := Lib.hid (hb13.trans HBOXX.out)
              have c91 := hS9.1
              have f91 := frozen_of_row w9 g13 2 _ _ HBOX9.out
              have HPUSH := Lib.hid (ClipsB.push (w0 := Y) (cp := bClip l (c : Int) ⟨(tn : Int), rf, ra, rl⟩) (HCLX.out.below HBY.out) (by rw [HSY.out]; omega) rfl hO9 hg9)
              have HB9 : Hid (Below g13 X0 w9) := HBX13.out.trans ((HB6.out.mono (by omega)).grown hg9 (by have := HB6.out.size; omega) (fun b' e => by have := hown _ e; omega))
              clear hown hn16 hk9 hb13 hb16 hbb hS9 hS hO9 hg9
              go_wp2
              have HBXS := Lib.hid (heap_setCell_same w9 g13 2 _ _ (.slice (some ⟨g9, 0, none⟩) (m9 + 1) cap9) HBOX9.out)
              go_roundw
              case rel =>
                refine ⟨k + 1, some ⟨g9, 0, none⟩, m9 + 1, cap9, ls ++ [cpL (bClip l (c : Int) ⟨(tn : Int), rf, ra, rl⟩) (.slice (some ⟨Y.heap.size, 0, none⟩) 1 1)], by omega, by go_num, HB9.out.setCell (p := ⟨g13, 2, none⟩) (Nat.le_refl _) _, HBXS.out, ?_⟩
                show ClipsB _ _ _ _ _
                rw [HTKR.out, List.map_append, ← List.append_assoc]
                exact HPUSH.out.far (p := ⟨g13, 2, none⟩) (show g13 < g13 + 1 by omega) _
              case measure => simp [intOf]; omega
          · obtain rfl : k = L := by omega
            have HCLE : Hid (ClipsB wr (g13 + 1) (.slice A' m9 c') (bClips l R (c + 1)) ls) := by
              have h9 := HCL.out
              rw [List.take_of_length_le (by rw [HLEN.out]; exact Nat.le_refl _)] at h9
              exact h9
            clear HCL
            go_wp2_with fail
            go_roundw
            case rel => exact ⟨c + 1, A', m9, c', ls, by omega, by go_num, HBx.out, HBOX.out, HCLE.out⟩
            case measure => simp [intOf]; omega
      · obtain rfl : c = ch := by omega
        obtain ⟨p0, p1, p2, _, _, _⟩ := three_cells HBOXc.out
        have HZC := Lib.hid (bfits hz.out (fun r hr => by have := HFIT.out r hr; have := hl.out; omega) c)
        have HBRc := Lib.hid (HBR0.out.trans (HBc.out.mono hw13))
        have HG2c := Lib.hid (((HB0.out.trans HBc.out).block g8 hg82).trans HG2.out)
        have HATc := Lib.hid HCLc.out.at_
        go_wp2_with fail
        refine (ECHECK_any (tkOf l 0).rate (c : Int) A' m9 c' (bClips l R c) HZC wr wr.heap.size (Nat.le_refl _) HATc).mono ?_
        rintro e w5 ⟨rfl, hb5⟩
        obtain ⟨f, hf⟩ : ∃ f, chkE (tkOf l 0).rate (c : Int) (bClips l R c) = f := ⟨_, rfl⟩
        rw [hf]
        have HF := Lib.hid hf
        clear hf
        have hszc := hszc
        have HG25 := Lib.hid ((hb5.block g8 (by omega)).trans HG2c.out)
        have HBX5 := Lib.hid ((hb5.block g13 hszc).trans HBOXc.out)
        have HBR := Lib.hid (HBRc.out.trans (hb5.mono HBRc.out.size))
        have HCL5 := Lib.hid (HCLc.out.below hb5)
        clear hb5 p0 p1 p2
        have hg85 := blk_lt HG25.out
        by_cases hf0 : f = 0
        case neg =>
          have hq : (f != 0) = true := by simpa using hf0
          obtain ⟨x0, x1, x2, _, _, _⟩ := three_cells HG25.out
          have HF0 := Lib.hid hf0
          clear hf0
          go_wp2_with fail
          refine end_edit2 rfl rfl rfl x0 x1 x2 ?_
          refine ⟨set3_below HBR.out hg8, .inl ⟨_, ?_, rfl⟩⟩
          exact HF0.out
        subst hf0
        obtain ⟨x0, x1, x2, _, _, _⟩ := three_cells HG25.out
        obtain ⟨p0, p1, p2, _, _, _⟩ := three_cells HBX5.out
        go_wp2_with fail
        clear x0 x1 x2 p0 p1 p2
        go_loopw [124] (fun i wx => ∃ t : Nat, t ≤ c ∧ i = .int .i64 t ∧ wx = w5) (fun i _ => c - (intOf i).toNat)
        case atStart => exact ⟨0, Nat.zero_le _, rfl, rfl⟩
        case round =>
          obtain ⟨t, ht, rfl, rfl⟩ := hrel
          by_cases htl : t < c
          · have hk0 : (0 : Int) ≤ (t : Int) := by omega
            have hkn : (t : Int) < (c : Int) := by omega
            go_wp2_with fail
            go_loopw [19] (fun i wx => i = .int .i64 1 ∧ wx = wr) (fun _ _ => 0)
            case atStart => exact ⟨rfl, rfl⟩
            case round =>
              obtain ⟨rfl, rfl⟩ := hrel
              by_cases hL1 : (1 : Int) < (L : Int)
              · have hd1 : decide ((1 : Int) < (L : Int)) = true := decide_eq_true hL1
                go_wp2_with fail
                go_roundw
                case rel => exact ⟨t + 1, by omega, by go_num, trivial⟩
                case measure => simp [intOf]; omega
              · have hd1 : decide ((1 : Int) < (L : Int)) = false := decide_eq_false hL1
                go_wp2_with fail
                go_roundw
                case rel => exact ⟨t + 1, by omega, by go_num, trivial⟩
                case measure => simp [intOf]; omega
          · obtain rfl : t = c := by omega
            obtain ⟨x0, x1, x2, _, _, _⟩ := three_cells HG25.out
            obtain ⟨p0, p1, p2, _, _, _⟩ := three_cells HBX5.out
            have HRES : Hid (TakesOk l lens takes ∧ chkE (tkOf l 0).rate (t : Int) (bClips l (rowsK l lens takes n2) t) = 0 ∧ ClipsAt (((wr.setCell ⟨g8, 0, none⟩ (.int .i64 (tkOf l 0).rate)).setCell ⟨g8, 1, none⟩ (.int .i64 (t : Int))).setCell ⟨g8, 2, none⟩ (.slice A' m9 c')) (((wr.setCell ⟨g8, 0, none⟩ (.int .i64 (tkOf l 0).rate)).setCell ⟨g8, 1, none⟩ (.int .i64 (t : Int))).setCell ⟨g8, 2, none⟩ (.slice A' m9 c')).heap.size A' m9 (bClips l (rowsK l lens takes n2) t)) := by
              rw [HRR.out]
              have e8 : g8 < g13 + 1 := by omega
              exact ⟨HOK.out, HF.out, (((HCL5.out.far (p := ⟨g8, 0, none⟩) e8 _).far (p := ⟨g8, 1, none⟩) e8 _).far (p := ⟨g8, 2, none⟩) e8 _).at_⟩
            go_wp2_with fail
            refine end_edit2 rfl rfl rfl x0 x1 x2 ?_
            exact ⟨set3_below HBR.out hg8, .inr ⟨t, A', m9, c', rfl, HRES.out⟩⟩
end Go.Proofs.YtkmcohnhanphdaaGreatDoor
