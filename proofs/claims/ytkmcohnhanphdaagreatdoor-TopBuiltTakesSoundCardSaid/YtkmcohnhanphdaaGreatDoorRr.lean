/- edit.Render, over clips of one point. -/
import Derived.Test.YtkmcohnhanphdaaGreatDoorVf
import Derived.Test.YtkmcohnhanphdaaGreatDoorVe
import Derived.Test.YtkmcohnhanphdaaGreatDoorVd
set_option linter.unusedSimpArgs false
set_option linter.unusedVariables false
namespace Go.Proofs.YtkmcohnhanphdaaGreatDoor
open Go.RowKit Go.Dw Go.Maps Go.ChangeMaps Go.MapKept
attribute [local go_sem ↓] Go.wp_at_zero Go.wp_at_succ
theorem fld_snd (r : Int) (v : Value) (W : World) : (Instr.field 33 (.agg #[.int .i64 r, v]) 1).run Tryz.prog W = .ok v W := by kernel_rfl
theorem find_md {l : List Md} (hap : ∀ i j, i < j → j < l.length → (mdOf l i).name ≠ (mdOf l j).name) {m : Md} (hm : m ∈ l) : findM l m.name = some m := by
  cases h : findM l m.name with
  | none =>
    have := List.find?_eq_none.1 h m hm
    simp at this
  | some q =>
    have h1 : q.name = m.name := by simpa using List.find?_some h
    obtain ⟨i, hi, e1⟩ := List.getElem_of_mem (List.mem_of_find?_eq_some h)
    obtain ⟨j, hj, e2⟩ := List.getElem_of_mem hm
    have g1 : mdOf l i = q := by rw [← e1]; simp [mdOf, List.getD, hi]
    have g2 : mdOf l j = m := by rw [← e2]; simp [mdOf, List.getD, hj]
    have hij : i = j := by
      rcases Nat.lt_trichotomy i j with h2 | h2 | h2
      · exact absurd (by rw [g1, g2]; exact h1) (hap i j h2 hj)
      · exact h2
      · exact absurd (by rw [g1, g2]; exact h1.symm) (hap j i h2 hi)
    rw [← g1, ← g2, hij]
theorem addC_step {l : List Md} {c : Cp} {i p : Nat} (hp : c.at_ + (i : Int) = (p : Int)) (q : Nat) : addC l c (i + 1) q = if q = p then envV c.env (i : Int) * ((elOf (trackOf l c.media c.chan) (c.from_ + (i : Int)).toNat : Int) : Rat) else addC l c i q := by
  by_cases h : q = p
  · subst h
    rw [if_pos rfl, addC, if_pos ⟨by omega, by omega⟩, show (q : Int) - c.at_ = (i : Int) by omega]
  · rw [if_neg h]
    unfold addC
    by_cases h1 : c.at_ ≤ (q : Int) ∧ (q : Int) < c.at_ + (i : Nat)
    · rw [if_pos h1, if_pos ⟨h1.1, by omega⟩]
    · rw [if_neg h1, if_neg (by rintro ⟨h2, h3⟩; exact h1 ⟨h2, by omega⟩)]
theorem addC_at {l : List Md} {c : Cp} {i p : Nat} (hp : c.at_ + (i : Int) = (p : Int)) : addC l c i p = 0 := if_neg (by rintro ⟨_, h⟩; omega)
theorem addC_zero {l : List Md} {c : Cp} {p : Nat} : addC l c 0 p = 0 := if_neg (by rintro ⟨h, h'⟩; omega)
def kC (c : Cp) (k i : Nat) (p : Nat) : Nat := if c.at_ ≤ (p : Int) ∧ (p : Int) < c.at_ + (i : Nat) then (k + 1) * 20003 else k * 20003
theorem kC_le (c : Cp) (k i p : Nat) : kC c k i p ≤ (k + 1) * 20003 := by unfold kC; split <;> omega
theorem kC_step {c : Cp} {k i p : Nat} (hp : c.at_ + (i : Int) = (p : Int)) (q : Nat) : updP (kC c k i) p (kC c k i p + 20003) q ≤ kC c k (i + 1) q := by
  unfold updP
  by_cases h : q = p
  · subst h
    rw [if_pos rfl]
    unfold kC
    rw [if_neg (by rintro ⟨_, h⟩; omega), if_pos ⟨by omega, by omega⟩]
    omega
  · rw [if_neg h]
    unfold kC
    by_cases h1 : c.at_ ≤ (q : Int) ∧ (q : Int) < c.at_ + (i : Nat)
    · rw [if_pos h1, if_pos ⟨h1.1, by omega⟩]; exact Nat.le_refl _
    · rw [if_neg h1]; split <;> omega
theorem mkIntsR (n : Nat) (hn : n ≤ 1000000000000) (W : World) : (Instr.makeSlice 42 (.int .i64 (n : Int)) (.int .i64 (n : Int))).run Tryz.prog W = .ok (.slice (some ⟨W.heap.size, 0, none⟩) n n) (W.alloc (.cells (mk0 (.int .i64 0) n) 3)) := by
  obtain ⟨i0, hi, hz0, hz1, hz2⟩ := info_parts sint_info
  exact run_mk 42 3 i0 _ Tryz.underlying42 hi hz0 hz1 rfl n (by rw [hz2]; omega) (by omega) W
def vC (md : List Md) (cs : List Cp) (t q : Nat) : Int := clipV (nearQ (mixC md (t : Int) (q : Int) cs))
def nC (md : List Md) (cs : List Cp) (t q : Nat) : Int := clipN (nearQ (mixC md (t : Int) (q : Int) cs))
theorem nC_bd (md : List Md) (cs : List Cp) (t q : Nat) : 0 ≤ nC md cs t q ∧ nC md cs t q ≤ 1 := clipN_bd _
theorem renT_eq {md : List Md} {cs : List Cp} {t en : Nat} (h : endC cs = (en : Int)) : renT md cs (t : Int) = (List.range en).map (vC md cs t) := by
  unfold renT; rw [h, Int.toNat_natCast]; rfl
theorem renN_step {md : List Md} {cs : List Cp} {t en : Nat} (h : endC cs = (en : Int)) : renN md cs (t + 1) = renN md cs t + ((List.range en).map (nC md cs t)).sum := by
  unfold renN
  rw [List.range_succ, List.map_append, List.sum_append]
  simp only [List.map_cons, List.map_nil, List.sum_cons, List.sum_nil]
  unfold renN1
  rw [h, Int.toNat_natCast]
  show _ + (_ + 0) = _
  rw [Int.add_zero]; rfl
theorem renS_step (md : List Md) (cs : List Cp) (t : Nat) : renS md cs (t + 1) = renS md cs t ++ [renT md cs (t : Int)] := by
  unfold renS; rw [List.range_succ, List.map_append]; rfl
theorem sumR_step (f : Nat → Int) (p : Nat) : ((List.range (p + 1)).map f).sum = ((List.range p).map f).sum + f p := by
  rw [List.range_succ, List.map_append, List.sum_append]; simp
set_option maxRecDepth 100000 in
set_option maxHeartbeats 16000000 in
theorem ERENDER_one (rate tracks : Int) (A A1 : Option Addr) (n n1 cap cap1 : Nat) (cs : List Cp) (md : List Md) (hz : Hid (∀ c ∈ cs, CpFits c)) (hzm : Hid (∀ m ∈ md, m.name.size ≤ maxLen)) (hone : Hid (∀ c ∈ cs, c.env.length = 1))
    (w : World) (B : Nat) (hB : B ≤ w.heap.size) (hh : Hid (ClipsAt w B A n cs)) (hm : Hid (MediaAt w B A1 n1 md)) :
    Calls Tryz.prog 8 #[.agg #[.int .i64 rate, .int .i64 tracks, .slice A n cap], .slice A1 n1 cap1] w fun e w' => Below w.heap.size w w' ∧ ((∃ f : Int, f ≠ 0 ∧ e = .returned (.tuple #[.agg #[.int .i64 0, .slice none 0 0], .int .i64 0, .int .i64 f])) ∨
      (∃ v, e = .returned (.tuple #[.agg #[.int .i64 rate, v], .int .i64 (renN md cs tracks.toNat), .int .i64 0]) ∧ chkE rate tracks cs = 0 ∧ MediaOk rate md cs ∧ OwnRows w' w.heap.size v (renS md cs tracks.toNat))) := by
  have hl := Lib.hid hh.out.1
  have law : Keyed Tryz.prog 9 := string_keyed Tryz.underlying9
  obtain ⟨W, g, hW, hg, HG, HBW, HSW⟩ := boxes2c w (.cells #[.int .i64 rate, .int .i64 tracks, .slice A n cap] 24) (.cells #[.int .i64 0, .slice none 0 0] 33)
  obtain ⟨gr, hgr⟩ : ∃ gr, gr = g + 1 := ⟨_, rfl⟩
  rw [← hgr] at HG
  have HG9 := Lib.hid hg
  have HGR := Lib.hid hgr
  obtain ⟨p0, p1, p2, _, _, _⟩ := three_cells HG.out.1
  have hgW := blk_lt HG.out.1
  have hgrW := blk_lt HG.out.2
  have hhW : Hid (ClipsAt W B A n cs) := hh.out.below HBW.out hB
  have hBW : B ≤ W.heap.size := Nat.le_trans hB HBW.out.size
  have hgr0 : w.heap.size ≤ gr := by omega
  go_enter Tryz.func8, Tryz.ntmps8
  go_upto_region 1 with (fail)
  rw [← hW, ← hg, ← hgr]
  clear hW hg hgr
  go_wp2_with fail
  refine (ECHECK_any rate tracks A n cap cs hz W B hBW hhW).mono ?_
  rintro e w1 ⟨rfl, hb1⟩
  obtain ⟨f, hf⟩ : ∃ f, chkE rate tracks cs = f := ⟨_, rfl⟩
  rw [hf]
  have HF := Lib.hid hf
  clear hf
  have HBR := Lib.hid (HBW.out.trans (hb1.mono HBW.out.size))
  have HGE := Lib.hid ((hb1.block g hgW).trans HG.out.1)
  have HGS := Lib.hid ((hb1.block gr hgrW).trans HG.out.2)
  have hg1 := blk_lt HGE.out
  have hgr1 := blk_lt HGS.out
  clear hb1 p0 p1 p2 HG hgW hgrW
  by_cases hf0 : f = 0
  case neg =>
    have hq : (f != 0) = true := by simpa using hf0
    obtain ⟨x0, x1, _, _⟩ := two_cells HGS.out
    clear hf0
    go_wp2_with fail
    have hcc0 := x0
    have hcc1 := x1
    refine end_snd3 rfl rfl rfl x0 x1 ?_
    refine ⟨set2_below HBR.out hgr0, .inl ⟨_, ?_, rfl⟩⟩
    exact fun h => by rw [h] at hq; cases hq
  subst hf0
  have HOK := Lib.hid (chkE_ok HF.out)
  obtain ⟨p0, p1, p2, _, _, _⟩ := three_cells HGE.out
  go_wp2_with fail
  refine (CHECKMEDIA_any rate tracks A A1 n n1 cap cap1 cs md (Lib.hid (fun c hc => ⟨(hz.out c hc).1, (HOK.out.rng c hc).1.1⟩)) hzm (by have := HOK.out.few; have := hl.out; omega) w1 B (Nat.le_trans hB HBR.out.size) (Lib.hid (hh.out.below HBR.out hB)) (Lib.hid (hm.out.below HBR.out hB))).mono ?_
  rintro e w2 ⟨hb2, hres⟩
  have HBR := Lib.hid (HBR.out.trans (hb2.mono HBR.out.size))
  have HGE2 := Lib.hid ((hb2.block g hg1).trans HGE.out)
  have HGS2 := Lib.hid ((hb2.block gr hgr1).trans HGS.out)
  clear hb2 p0 p1 p2 HGE HGS
  rcases hres with ⟨f, hf0, rfl⟩ | ⟨bk, rfl, hmok, hbk, hmed⟩
  · have hq : (f != 0) = true := by simpa using hf0
    obtain ⟨x0, x1, _, _⟩ := two_cells HGS2.out
    have HF0 := Lib.hid hf0
    clear hf0
    go_wp2_with fail
    have hcc0 := x0
    have hcc1 := x1
    refine end_snd3 rfl rfl rfl x0 x1 ?_
    refine ⟨set2_below HBR.out hgr0, .inl ⟨_, ?_, rfl⟩⟩
    exact HF0.out
  have HMOK := Lib.hid hmok
  have HMED := Lib.hid hmed
  clear hmok hmed
  obtain ⟨tn, rfl⟩ : ∃ tn : Nat, tracks = (tn : Int) := ⟨tracks.toNat, by have := HOK.out.t1; omega⟩
  have htn1 : 1 ≤ tn := by have := HOK.out.t1; omega
  have htn : tn ≤ 16 := by have := HOK.out.t2; omega
  obtain ⟨p0, p1, p2, _, _, _⟩ := three_cells HGE2.out
  have hg2 := blk_lt HGE2.out
  have hgr2 := blk_lt HGS2.out
  go_upto_region 8 with (fail)
  obtain ⟨X0, g10, hX0, hg10, HX0, HBX0, HSX0⟩ := cell_new w2 33 #[.int .i64 rate, .slice none 0 0]
  rw [← hX0, ← hg10]
  have HG10 := Lib.hid hg10
  clear hX0 hg10
  have HBR := Lib.hid (HBR.out.trans (HBX0.out.mono HBR.out.size))
  have HGE := Lib.hid ((HBX0.out.block g hg2).trans HGE2.out)
  have HGS := Lib.hid ((HBX0.out.block gr hgr2).trans HGS2.out)
  have hgg10 : g < g10 := by have := HG10.out; omega
  have hgr10 : gr < g10 := by have := HG10.out; omega
  have hw10 : w.heap.size ≤ g10 := by have := HG9.out; omega
  have hbk10 : bk < g10 := by obtain ⟨_, _, _, h9, _⟩ := HMED.out; have := h9.lt; have := HG10.out; omega
  have hBg : B ≤ g10 := by omega
  have HMED : Hid (MedJ bk B md md.length X0) := HMED.out.below HBX0.out (by have := HG10.out; omega) (by have := HG10.out; omega)
  have hg10X := blk_lt HX0.out
  obtain ⟨en, hen⟩ : ∃ en : Nat, endC cs = (en : Int) := ⟨(endC cs).toNat, by have := endC_nn cs; omega⟩
  have HEN := Lib.hid hen
  have hen1 : en ≤ 100000 := by have := HOK.out.end_; omega
  have hn300 : n ≤ 300 := by have := HOK.out.few; have := hl.out; omega
  clear hen HBX0 HSX0 HGE2 HGS2 p0 p1 p2 hg2 hgr2 hg1 hgr1
  obtain ⟨p0, p1, p2, _, _, _⟩ := three_cells HGE.out
  go_wp2_with fail
  clear p0 p1 p2
  go_loopw [11, 43] (fun cl i wt => ∃ (t : Nat) (V : Value) (rows : List Value), t ≤ tn ∧ i = .int .i64 t ∧ cl = .int .i64 (renN md cs t) ∧ Hid (Below g10 X0 wt) ∧ Hid (wt.heap[g10]? = some (.cells #[.int .i64 rate, V] 33 (0, 0))) ∧ Hid (OwnRowsL wt (g10 + 1) V (renS md cs t) rows)) (fun _ i _ => tn - (intOf i).toNat)
  case atStart => exact ⟨0, .slice none 0 0, [], Nat.zero_le _, rfl, rfl, below_self2 (by omega), HX0.out, ⟨World.ownsRow_nil _ _ _ _, fun k r h => by simp at h, fun i j r r' _ h => by simp at h⟩⟩
  case round =>
    obtain ⟨t, V, rows, ht, rfl, rfl, HB, HBOX, HROWS⟩ := hrel
    have hszt : g10 < wr.heap.size := blk_lt HBOX.out
    have HBT := Lib.hid (HBR.out.trans (HB.out.mono hw10))
    by_cases hlt : t < tn
    · have hk0 : (0 : Int) ≤ (t : Int) := by omega
      have hkn : (t : Int) < (tn : Int) := by omega
      obtain ⟨p0, p1, p2, _, _, _⟩ := three_cells ((HB.out.block g hgg10).trans HGE.out)
      have HCL := Lib.hid (hh.out.below HBT.out hB)
      have HRNB := Lib.hid (renN_bd md cs (by rw [HEN.out]; omega) t)
      go_wp2_with fail
      refine (EEND_any A n cap cs (by omega) (Lib.hid (fun c hc => by have := HOK.out.rng c hc; unfold rangeC at this; omega)) wr B (by omega) HCL).mono ?_
      rintro e w3 ⟨rfl, hb3⟩
      rw [HEN.out]
      have hmk := mkRats en (by omega)
      have p2 := (hb3.cell (p := ⟨g, 2, none⟩) (by dsimp only; omega)).trans p2
      clear p0 p1
      go_upto_region 13 with (fail)
      clear hmk
      obtain ⟨g0, hg0⟩ : ∃ g0, w3.heap.size = g0 := ⟨_, rfl⟩
      obtain ⟨gm, hgm⟩ : ∃ gm, g0 + 1 = gm := ⟨_, rfl⟩
      obtain ⟨X1, hX1⟩ : ∃ X, X = ((w3.alloc (.cells (madeCells #[.bool false, .slice none 0 0, .slice none 0 0] (en * 3)) 88)).alloc (.cells #[.slice (some ⟨g0, 0, none⟩) en en] 77)) := ⟨_, rfl⟩
      have HJ0 : Hid (MixJ gm g0 en en g0 (fun _ => 0) (fun _ => 0) X1) := by
        rw [hX1, ← hgm, ← hg0]
        exact MixJ.made w3 en (by omega)
      have HB31 : Hid (Below wr.heap.size wr X1) := by
        rw [hX1]
        exact (hb3.alloc hb3.size _).alloc (by have := hb3.size; simp; omega) _
      rw [hg0, hgm, ← hX1]
      have HG0 : Hid (wr.heap.size ≤ g0 ∧ gm = g0 + 1) := ⟨by rw [← hg0]; exact hb3.size, hgm.symm⟩
      have hg0w : wr.heap.size ≤ g0 := HG0.out.1
      have p2 := (HB31.out.cell (p := ⟨g, 2, none⟩) (by dsimp only; omega)).trans ((HB.out.cell (p := ⟨g, 2, none⟩) hgg10).trans (three_cells HGE.out).2.2.1)
      clear hX1 hb3 hg0 hgm
      go_wp2_with fail
      clear p2
      obtain ⟨wt, hwt⟩ : ∃ wt : World, wt = wr := ⟨_, rfl⟩
      rw [← hwt] at HB HBOX HROWS hszt HBT HCL HB31 HG0 hg0w
      clear hwt
      go_loopw [54] (fun i wr => ∃ k : Nat, k ≤ n ∧ i = .int .i64 k ∧ Hid (Below wt.heap.size wt wr) ∧ Hid (MixJ gm g0 en en g0 (fun _ => k * 20003) (fun p => mixC md (t : Int) (p : Int) (cs.take k)) wr)) (fun i _ => n - (intOf i).toNat)
      case atStart => exact ⟨0, Nat.zero_le _, rfl, HB31.out, HJ0.out⟩
      case round =>
        obtain ⟨k, hk, rfl, HBK, HJ⟩ := hrel
        have hszk := HBK.out.size
        by_cases hkl : k < n
        · have hk0' : (0 : Int) ≤ (k : Int) := by omega
          have hkn' : (k : Int) < (n : Int) := by omega
          obtain ⟨b, o, A', n', c', e, hb, hk7, hn', hc', hp⟩ := (HCL.out.below HBK.out (by omega)).2 k hkl
          subst e
          obtain ⟨k0, k1, k2, k3, k4, k5, k6⟩ := hk7
          have hcm := cp_mem (l := cs) (k := k) (by rw [hl.out]; exact hkl)
          have HMIX := Lib.hid (fun p : Nat => mixC_take (l := md) (t := (t : Int)) (p := (p : Int)) (cs := cs) (k := k) (by rw [hl.out]; exact hkl))
          have HRG := Lib.hid (HOK.out.rng _ hcm)
          have HENV := Lib.hid (HOK.out.env _ hcm)
          have HONE := Lib.hid (hone.out _ hcm)
          have HTH := Lib.hid (HMOK.out.there _ hcm)
          have HZC := Lib.hid (hz.out _ hcm).1
          have HEC : Hid ((cpOf cs k).at_ + (cpOf cs k).len ≤ (en : Int)) := by show _ ≤ _; rw [← HEN.out]; exact endC_mem (by rw [hl.out]; exact hkl)
          obtain ⟨c, hc⟩ : ∃ c, cpOf cs k = c := ⟨_, rfl⟩
          rw [hc] at k0 k1 k2 k3 k4 k5 hp HRG HENV HONE HTH HZC HEC HMIX
          have HP := Lib.hid hp
          clear hc hp hcm
          go_upto_region 16 with (fail)
          obtain ⟨X, gc, hX, hgc, HX, HBX, HSX⟩ := cell_new wr 58 #[.string c.media, .int .i64 c.chan, .int .i64 c.from_, .int .i64 c.track, .int .i64 c.at_, .int .i64 c.len, .slice A' n' c']
          rw [← hX, ← hgc]
          have HGC := Lib.hid hgc
          clear hX hgc k0 k1 k2 k3 k4 k5 k6
          obtain ⟨x0, x1, x2, x3, x4, x5, x6⟩ := seven_cells HX.out
          have HBKX := Lib.hid (HBK.out.trans (HBX.out.mono hszk))
          have HJX : Hid (MixJ gm g0 en en g0 (fun _ => k * 20003) (fun p => mixC md (t : Int) (p : Int) (cs.take k)) X) := HJ.out.below HBX.out
          have HPX : Hid (PtsAt X B A' n' c.env) := HP.out.below HBX.out (by omega)
          have hgcX := blk_lt HX.out
          have hszX := HBX.out.size
          by_cases htr : c.track = (t : Int)
          case neg =>
            have hd1 : (c.track != (t : Int)) = true := by simpa using htr
            have HNX : Hid (MixJ gm g0 en en g0 (fun _ => (k + 1) * 20003) (fun p => mixC md (t : Int) (p : Int) (cs.take (k + 1))) X) := by
              have e9 : (fun p : Nat => mixC md (t : Int) (p : Int) (cs.take (k + 1))) = (fun p : Nat => mixC md (t : Int) (p : Int) (cs.take k)) := funext fun p => by
                rw [HMIX.out p, conC, if_neg (by rintro ⟨h9, _⟩; exact htr h9), Rat.add_zero]
              show MixJ _ _ _ _ _ _ _ _
              rw [e9]
              exact HJX.out.more (fun _ => by omega)
            clear htr HBX HSX HX
            go_wp2_with fail
            go_roundw
            case rel => exact ⟨k + 1, by omega, by go_num, HBKX, HNX⟩
            case measure => simp [intOf]; omega
          have hd1 : (c.track != (t : Int)) = false := by simpa using htr
          have HTR := Lib.hid htr
          clear htr
          obtain ⟨mm, D, hmj, hown, hD⟩ := HMED.out.below (HB.out.trans (HBKX.out.mono (by omega))) hbk10 hBg
          have HOWN := Lib.hid hown
          have HD := Lib.hid hD
          clear hown hD
          obtain ⟨m9, hm9, hnm9, hch9⟩ := HTH.out
          obtain ⟨kk, hkk, hkm⟩ : ∃ kk, kk < md.length ∧ mdOf md kk = m9 := by
            obtain ⟨i, hi, e1⟩ := List.getElem_of_mem hm9
            exact ⟨i, hi, by rw [← e1]; simp [mdOf, List.getD, hi]⟩
          obtain ⟨A9, n9, c9, hat, hn9, hc9, hr9⟩ := HD.out.val kk hkk
          rw [hkm] at hat hr9
          have HTRK : Hid (trackOf md c.media c.chan = rowOf m9.xss c.chan.toNat) := by
            show _ = _
            unfold trackOf sndOf
            rw [← hnm9, find_md HMOK.out.apart hm9]
          have HRT : Hid (∀ x ∈ trackOf md c.media c.chan, smpB x = true) := fun x hx => by
            rw [HTRK.out] at hx
            have h8 := (chkS_ok (HMOK.out.right m9 hm9).2)
            have hcl : c.chan.toNat < m9.xss.length := by have := HRG.out; unfold rangeC at this; omega
            exact List.all_eq_true.1 (h8.row hcl).2 x hx
          rw [hnm9] at hat
          have HAT := Lib.hid hat
          obtain ⟨ch, hch⟩ : ∃ ch : Nat, c.chan = (ch : Int) := ⟨c.chan.toNat, by have := HRG.out; unfold rangeC at this; omega⟩
          have HCH := Lib.hid hch
          have hcn : ch < n9 := by have := hr9.1; omega
          obtain ⟨ad9, e9, had9, As, ns, cps, hcell9, hns, hcps, hi9⟩ := hr9.2.2 ch hcn
          subst e9
          have HXS : Hid (IntsAt X B As ns (trackOf md c.media c.chan)) := by show IntsAt _ _ _ _ _; rw [HTRK.out, HCH.out]; exact hi9
          have hkey := Lib.hid (keyS HZC.out)
          rw [hch] at x1
          have hch0 : (0 : Int) ≤ (ch : Int) := by omega
          have hchn : (ch : Int) < (n9 : Int) := by omega
          have HTL : Hid ((trackOf md c.media c.chan).length ≤ 100000) := by
            show _ ≤ _
            rw [HTRK.out]
            have h8 := (chkS_ok (HMOK.out.right m9 hm9).2)
            have hcl : c.chan.toNat < m9.xss.length := by have := HRG.out; unfold rangeC at this; omega
            rw [(h8.row hcl).1]; exact h8.long
          have hfld := fun W => fld_snd m9.rate (.slice (some ad9) n9 c9) W
          clear hat hm9 hnm9 hch9 hkk hkm hch hr9 hi9
          go_upto_region 18 with (at_lookup; refine wpList_lookup_any _ rfl _ _ 71 rfl 9 33 law Tryz.underlying71 (zeroSnd _) bk mm D rfl HOWN.out _ _ rfl hkey.out _ HAT.out ?_)
          obtain ⟨X3, gs, hX3, hgs, HX3, HBX3, HSX3⟩ := cell_new X 42 #[.slice As ns cps]
          rw [← hX3, ← hgs]
          have HGS3 := Lib.hid hgs
          clear hX3 hgs hfld hcell9 x0 x1 x2 x3 x4 x5 x6 hd1
          have HXC := Lib.hid ((HBX3.out.block gc hgcX).trans HX.out)
          obtain ⟨x0, x1, x2, x3, x4, x5, x6⟩ := seven_cells HXC.out
          have s0 : X3.cell? ⟨gs, 0, none⟩ = some (.slice As ns cps) := by rw [own_cell1 HX3.out 0]; rfl
          have hns9 : ns ≤ 100000 := by have := HXS.out.1; have := HTL.out; omega
          have hf0 : 0 ≤ c.from_ ∧ c.from_ ≤ 10000000000000 := by have := HRG.out; unfold rangeC at this; omega
          have hl0 : 1 ≤ c.len ∧ c.len ≤ 100000 := by have := HRG.out; unfold rangeC at this; omega
          have ha0 : 0 ≤ c.at_ := by have := HRG.out; unfold rangeC at this; omega
          have hw9 := IntWalk.i64_in ((ns : Int) - c.from_) (by omega)
          obtain ⟨mx, hmx⟩ : ∃ mx, max (0 : Int) ((ns : Int) - c.from_) = mx := ⟨_, rfl⟩
          obtain ⟨till, htl⟩ : ∃ till : Nat, min c.len mx = (till : Int) := ⟨(min c.len mx).toNat, by omega⟩
          have HTILL : Hid ((till : Int) = min c.len (max 0 (((trackOf md c.media c.chan).length : Int) - c.from_))) := by show _ = _; rw [HXS.out.1, hmx, htl]
          go_wp2_with fail
          have hgs3 := blk_lt HX3.out
          have hgc3 := blk_lt HXC.out
          have hszX3 := HBX3.out.size
          have hg0X : g0 < X.heap.size := HJX.out.lt
          have hgsg0 : gs ≠ g0 := by have := HGS3.out; omega
          have hgcg0 : gc ≠ g0 := by have := HGC.out; have := HJ.out.lt; omega
          have HG30 : Hid (MixJ gm g0 en en g0 (kC c k 0) (fun p => mixC md (t : Int) (p : Int) (cs.take k) + addC md c 0 p) X3) := by
            have e9 : (fun p : Nat => mixC md (t : Int) (p : Int) (cs.take k) + addC md c 0 p) = (fun p : Nat => mixC md (t : Int) (p : Int) (cs.take k)) := funext fun p => by rw [addC_zero, Rat.add_zero]
            show MixJ _ _ _ _ _ _ _ _
            rw [e9]
            exact (HJX.out.below HBX3.out).more (fun p => by unfold kC; split <;> omega)
          have HXS3 : Hid (IntsAt X3 B As ns (trackOf md c.media c.chan)) := HXS.out.below HBX3.out (by omega)
          have hk301 : (k + 1) * 20003 ≤ 8000000 := by omega
          have HPX3 : Hid (PtsAt X3 B A' n' c.env) := HPX.out.below HBX3.out (by omega)
          have HF : Hid (WalkF (fun i w9 => MixJ gm g0 en en g0 (kC c k i) (fun p => mixC md (t : Int) (p : Int) (cs.take k) + addC md c i p) w9) c till 28 #[.pointer (some ⟨gs, 0, none⟩), .pointer (some ⟨gc, 0, none⟩), .pointer (some ⟨gm, 0, none⟩)] g0 X3) := by
            intro i w9 neg A2 D2 n2 n2' m2 m2' z x hi hG hA hr hx hq hn2 hm2
            have hec := HEC.out
            obtain ⟨p, hp⟩ : ∃ p : Nat, c.at_ + (i : Int) = (p : Int) := ⟨(c.at_ + (i : Int)).toNat, by omega⟩
            obtain ⟨j, hj⟩ : ∃ j : Nat, c.from_ + (i : Int) = (j : Int) := ⟨(c.from_ + (i : Int)).toNat, by omega⟩
            refine (ERENDER1_any gs gc gm g0 en en g0 0 i (kC c k i) (fun p => mixC md (t : Int) (p : Int) (cs.take k) + addC md c i p) c (.slice A' n' c') As ns cps (trackOf md c.media c.chan) neg A2 D2 n2 n2' m2 m2' z x hx hn2 hm2 (by omega) hf0.1 (by omega) ha0 p hp (by omega) j hj (by omega) (by omega) (Nat.le_trans (kC_le _ _ _ _) hk301) HRT w9 B (by have := hA.size; omega) (Lib.hid ((hA.block gs hgs3 (by omega)).trans HX3.out)) (Lib.hid ((hA.block gc hgc3 (by omega)).trans HXC.out)) (Lib.hid (HXS3.out.below (hA.below (by omega) (by omega)) (Nat.le_refl _))) (Lib.hid hG) (Lib.hid hr) hgsg0 hgcg0).mono ?_
            rintro e w8 ⟨rfl, h1, h2⟩
            refine ⟨rfl, ?_, h2⟩
            have e1 : updP (fun p : Nat => mixC md (t : Int) (p : Int) (cs.take k) + addC md c i p) p ((mixC md (t : Int) (p : Int) (cs.take k) + addC md c i p) + mkRat z x * ((elOf (trackOf md c.media c.chan) j : Int) : Rat)) = (fun p : Nat => mixC md (t : Int) (p : Int) (cs.take k) + addC md c (i + 1) p) := funext fun q => by
              rw [addC_step hp q]
              unfold updP
              by_cases hqp : q = p
              · subst hqp
                rw [if_pos rfl, if_pos rfl, addC_at hp, Rat.add_zero, hq, hj, Int.toNat_natCast]
              · rw [if_neg hqp, if_neg hqp]
            rw [e1] at h1
            exact h1.more (fun q => kC_step hp q)
          clear x0 x1 x2 x3 x4 x5 x6 s0
          refine (EWALK_one (fun i w9 => MixJ gm g0 en en g0 (kC c k i) (fun p => mixC md (t : Int) (p : Int) (cs.take k) + addC md c i p) w9) c A' n' c' till 28 #[.pointer (some ⟨gs, 0, none⟩), .pointer (some ⟨gc, 0, none⟩), .pointer (some ⟨gm, 0, none⟩)] g0 HENV HONE.out (by omega) hl0.2 X3 B (by omega) HPX3 (by omega) (by omega) HG30 (Lib.hid (fun i w8 w9 h hb => h.below hb)) (Lib.hid (fun i w9 h => h.ty)) (fun _ _ => rfl) HF).mono ?_
          rintro e w5 ⟨rfl, hG5, hA5⟩
          have HB5 : Hid (Below wt.heap.size wt w5) := (HBKX.out.trans (HBX3.out.mono (by omega))).trans (hA5.below (by omega) hg0w)
          have HN5 : Hid (MixJ gm g0 en en g0 (fun _ => (k + 1) * 20003) (fun p => mixC md (t : Int) (p : Int) (cs.take (k + 1))) w5) := by
            have e9 : (fun p : Nat => mixC md (t : Int) (p : Int) (cs.take (k + 1))) = (fun p : Nat => mixC md (t : Int) (p : Int) (cs.take k) + addC md c till p) := funext fun p => by
              rw [HMIX.out p, addC_all HTR.out HTILL.out]
            show MixJ _ _ _ _ _ _ _ _
            rw [e9]
            exact hG5.more (fun p => kC_le _ _ _ _)
          clear hG5 hA5 hmx htl
          go_wp2_with fail
          go_roundw
          case rel => exact ⟨k + 1, by omega, by go_num, HB5, HN5⟩
          case measure => simp [intOf]; omega
        · obtain rfl : k = n := by omega
          have HJE : Hid (MixJ gm g0 en en g0 (fun _ => k * 20003) (fun p => mixC md (t : Int) (p : Int) cs) wr) := by
            have h9 := HJ.out
            rw [List.take_of_length_le (by rw [hl.out]; exact Nat.le_refl _)] at h9
            exact h9
          have hgmc : wr.cell? ⟨gm, 0, none⟩ = some (.slice (some ⟨g0, 0, none⟩) en en) := by rw [own_cell1 HJE.out.box 0]; rfl
          have hmk := mkIntsR en (by omega)
          have hgmr := blk_lt HJE.out.box
          clear HJ
          go_upto_region 21 with (fail)
          obtain ⟨gt, hgt⟩ : ∃ gt, wr.heap.size = gt := ⟨_, rfl⟩
          obtain ⟨X5, hX5⟩ : ∃ X, X = wr.alloc (.cells (mk0 (.int .i64 0) en) 3) := ⟨_, rfl⟩
          have HROW0 : Hid (X5.ownsRow wt.heap.size 3 1 (.slice (some ⟨gt, 0, none⟩) en en) en (List.replicate en (.int .i64 0))) := by
            rw [hX5, ← hgt]
            exact own_mk wr wt.heap.size 3 (.int .i64 0) en hszk (by unfold maxLen; omega)
          have HB5 : Hid (Below wr.heap.size wr X5) := by rw [hX5]; exact (Below.refl _ _).alloc (Nat.le_refl _) _
          rw [hgt, ← hX5]
          have HGT := Lib.hid hgt
          have hgmc := (HB5.out.cell (p := ⟨gm, 0, none⟩) hgmr).trans hgmc
          clear hX5 hgt hmk
          go_wp2_with fail
          clear hgmc
          obtain ⟨wm, hwm⟩ : ∃ wm : World, wm = wr := ⟨_, rfl⟩
          rw [← hwm] at HBK HJE HB5 HGT hszk hgmr
          clear hwm
          go_loopw [11, 91] (fun cl i wx => ∃ p : Nat, p ≤ en ∧ i = .int .i64 p ∧ cl = .int .i64 (renN md cs t + ((List.range p).map (nC md cs t)).sum) ∧ Hid (Below wm.heap.size wm wx) ∧ Hid (wx.ownsRow wt.heap.size 3 1 (.slice (some ⟨gt, 0, none⟩) en en) en ((List.range p).map (fun q => Value.int .i64 (vC md cs t q)) ++ List.replicate (en - p) (Value.int .i64 0)))) (fun _ i _ => en - (intOf i).toNat)
          case atStart => exact ⟨0, Nat.zero_le _, rfl, by rw [List.range_zero, List.map_nil, List.sum_nil, Int.add_zero], HB5.out, HROW0.out⟩
          case round =>
            obtain ⟨p, hp, rfl, rfl, HBX, HROW⟩ := hrel
            have hszx := HBX.out.size
            by_cases hpl : p < en
            · have hp0 : (0 : Int) ≤ (p : Int) := by omega
              have hpn : (p : Int) < (en : Int) := by omega
              have HJX := HJE.out.below HBX.out
              obtain ⟨ls, ho, hlen, hsum⟩ := HJX.own
              obtain ⟨neg0, A2, n2, c2, D2, m2, d2, hrec, hn2, hm2, hval⟩ := hsum p hpl
              have hpl2 : p < ls.length := by omega
              obtain ⟨k0, _⟩ := OwnK.cells ho hpl2 (by omega) 0 _ (by rw [hrec]; rfl)
              obtain ⟨k1, _⟩ := OwnK.cells ho hpl2 (by omega) 1 _ (by rw [hrec]; rfl)
              obtain ⟨k2, _⟩ := OwnK.cells ho hpl2 (by omega) 2 _ (by rw [hrec]; rfl)
              rw [Nat.add_zero] at k0
              have HS := Lib.hid (hsum p hpl)
              rw [hrec] at HS
              have hNB := renN_bd md cs (by rw [HEN.out]; omega) t
              have hSB := sumN_bd (nC md cs t) (nC_bd md cs t) p
              have HSTEP := Lib.hid (sumR_step (nC md cs t) p)
              have hnb := nC_bd md cs t p
              have HV : Hid (roundQ2 (mixC md (t : Int) (p : Int) cs) = (vC md cs t p, decide (nC md cs t p = 1))) := rfl
              obtain ⟨q, hq⟩ : ∃ q, mixC md (t : Int) (p : Int) cs = q := ⟨_, rfl⟩
              rw [hq] at HS HV
              obtain ⟨vp, hvp⟩ : ∃ v, vC md cs t p = v := ⟨_, rfl⟩
              obtain ⟨np, hnp⟩ : ∃ v, nC md cs t p = v := ⟨_, rfl⟩
              obtain ⟨s9, hs9⟩ : ∃ v, ((List.range p).map (nC md cs t)).sum = v := ⟨_, rfl⟩
              obtain ⟨r9, hr9⟩ : ∃ v, renN md cs t = v := ⟨_, rfl⟩
              rw [hvp, hnp] at HV
              rw [hnp] at hnb
              rw [hs9] at hSB
              rw [hs9, hnp] at HSTEP
              rw [hr9] at hNB
              rw [hs9]
              rw [hr9]
              have HVP := Lib.hid hvp
              have HR9 := Lib.hid hr9
              clear hq hvp hnp hs9 hr9 hrec hval hsum ho hlen hpl2 HJX hn2 hm2
              go_upto_region 24 with (fail)
              obtain ⟨X6, g6, hX6, hg6, HX6, HBX6, HSX6⟩ := cell_new wr 88 #[.bool neg0, .slice A2 n2 c2, .slice D2 m2 d2]
              rw [← hX6, ← hg6]
              clear hX6 hg6 k0 k1 k2
              obtain ⟨x0, x1, x2, _, _, _⟩ := three_cells HX6.out
              have HS6 : Hid (SumAt X6 X6.heap.size [.bool neg0, .slice A2 n2 c2, .slice D2 m2 d2] q (k * 20003)) := HS.out.below HBX6.out (Nat.le_refl _) HBX6.out.size
              go_wp2_with fail
              refine (EROUNDED_any neg0 A2 D2 n2 c2 m2 d2 (k * 20003) q (by omega) X6 X6.heap.size (Nat.le_refl _) HS6).mono ?_
              rintro e w7 ⟨rfl, hb7⟩
              have HB7 := Lib.hid (HBX6.out.trans (hb7.mono HBX6.out.size))
              rw [HV.out]
              have HBX7 := Lib.hid (HBX.out.trans (HB7.out.mono hszx))
              have HROW7 := Lib.hid (own_below HROW.out HB7.out)
              have hcell := HROW7.out.cellAt p (by omega)
              rw [List.getElem?_append_right (by simp), List.length_map, List.length_range, Nat.sub_self] at hcell
              have hcell2 : w7.cell? ⟨gt, p, none⟩ = some (.int .i64 0) := by rw [hcell]; obtain ⟨m9, hm9⟩ : ∃ m9, en - p = m9 + 1 := ⟨en - p - 1, by omega⟩; rw [hm9]; rfl
              have hfz := HROW7.out.frozenAt p
              have HST := (HROW7.out.stored p (.int .i64 vp)).1
              rw [← HVP.out, list_fill (vC md cs t) en p hpl] at HST
              rw [HVP.out] at HST
              have HST7 := Lib.hid HST
              have hgtw : wm.heap.size ≤ gt := by have := HGT.out; omega
              have HBS := Lib.hid (HBX7.out.setCell (p := ⟨gt, p, none⟩) hgtw (.int .i64 vp))
              clear hcell HST hb7 HBX6 HSX6 HX6 x0 x1 x2 HS6
              by_cases hn1 : np = 1
              · have hdec : decide (np = 1) = true := by simpa using hn1
                have hw1 := IntWalk.i64_in (r9 + s9 + 1) (by omega)
                have HSM : Hid (r9 + s9 + 1 = r9 + ((List.range (p + 1)).map (nC md cs t)).sum) := by show _ = _; rw [HSTEP.out, hn1]; omega
                rw [hdec]
                clear hdec hn1
                go_wp2_with fail
                go_roundw
                case rel => exact ⟨p + 1, by omega, by go_num, by rw [← HSM.out], HBS, HST7⟩
                case measure => simp [intOf]; omega
              · have hdec : decide (np = 1) = false := by simpa using hn1
                have HSM : Hid (r9 + s9 = r9 + ((List.range (p + 1)).map (nC md cs t)).sum) := by show _ = _; rw [HSTEP.out]; omega
                rw [hdec]
                clear hdec hn1
                go_wp2_with fail
                go_roundw
                case rel => exact ⟨p + 1, by omega, by go_num, by rw [← HSM.out], HBS, HST7⟩
                case measure => simp [intOf]; omega
            · obtain rfl : p = en := by omega
              have HROWF : Hid (wr.ownsRow wt.heap.size 3 1 (.slice (some ⟨gt, 0, none⟩) p p) p ((renT md cs (t : Int)).map (Value.int .i64))) := by
                have h9 := HROW.out
                rw [Nat.sub_self, List.replicate_zero, List.append_nil] at h9
                show World.ownsRow _ _ _ _ _ _ _
                rw [renT_eq HEN.out, List.map_map]
                exact h9
              have HNS := Lib.hid (renN_step (md := md) (t := t) HEN.out)
              have HBX1 := Lib.hid (HBK.out.trans (HBX.out.mono hszk))
              have HBOXX := Lib.hid ((HBX1.out.block g10 hszt).trans HBOX.out)
              have hVl : (renS md cs t).length = t := by simp [renS]
              have HOUT := HROWS.out.outer
              rw [hVl] at HOUT
              have HOUTX := Lib.hid (own_below HOUT HBX1.out)
              have hb1 : wr.cell? ⟨g10, 1, none⟩ = some V := by rw [own_cell1 HBOXX.out 1]; rfl
              have hg10x := blk_lt HBOXX.out
              obtain ⟨r9, hr9⟩ : ∃ v, renN md cs t + ((List.range p).map (nC md cs t)).sum = v := ⟨_, rfl⟩
              rw [hr9] at HNS ⊢
              clear hr9 HROW HOUT
              go_wp2_with (at_builtin; refine wpList_push_row rfl (.tmp 110) (.tmp 112) rfl (g10 + 1) V t rows (.slice (some ⟨gt, 0, none⟩) p p) rfl _ rfl rfl rfl HOUTX.out (by omega) (by omega) ?_; intro g9 cap9 w9 ho9 hg9; have HO9 := Lib.hid ho9; have HG9' := Lib.hid hg9; have hb9 := (hg9.block g10 (by simp; omega) (fun e => by have := (own_lt HOUTX.out e.symm).1; omega)).trans ((Below.heap_alloc _ _ _ hg10x).trans HBOXX.out); have HBOX9 := Lib.hid hb9; have c91 := own_cell1 hb9 1; have f91 := frozen_of_row w9 g10 1 _ _ hb9; simp at c91; clear ho9 hg9 hb9 hb1)
              have HB91 : Hid (Below g10 X0 w9) := HB.out.trans (((HBX1.out.mono (by omega)).alloc (by omega) _).grown HG9'.out (by simp; omega) (fun b e => by have := (own_lt HOUTX.out e).1; omega))
              have hlenT : (renT md cs (t : Int)).length = p := by rw [renT_eq HEN.out]; simp
              have hpush := HROWS.out.push (w := wr.alloc (.cells #[.slice (some ⟨gt, 0, none⟩) p p] 42)) (w' := w9) (xs := renT md cs (t : Int)) (HBX1.out.alloc HBX1.out.size _) (by omega) (by rw [hlenT]; exact HROWF.out.alloc _) (by rw [hVl]; exact HO9.out) HG9'.out
              rw [← renS_step md cs t] at hpush
              have HPUSH := Lib.hid hpush
              have hbx := heap_setCell_same w9 g10 1 _ _ (.slice (some ⟨g9, 0, none⟩) (t + 1) cap9) HBOX9.out
              have HBXS := Lib.hid hbx
              clear hpush hlenT hVl c91 f91 hbx
              go_roundw
              case rel =>
                refine ⟨t + 1, .slice (some ⟨g9, 0, none⟩) (t + 1) cap9, rows ++ [.slice (some ⟨gt, 0, none⟩) p p], by omega, by go_num, by rw [HNS.out], HB91.out.setCell (p := ⟨g10, 1, none⟩) (Nat.le_refl _) _, HBXS.out, ?_⟩
                exact HPUSH.out.set_below (p := ⟨g10, 1, none⟩) (by simp) _
              case measure => simp [intOf]; omega
    · obtain rfl : t = tn := by omega
      have hVl : (renS md cs t).length = t := by simp [renS]
      obtain ⟨AV, cV, hVe, _, _⟩ := own_form HROWS.out.outer
      rw [hVl] at hVe
      subst hVe
      have hb0 : wr.cell? ⟨g10, 0, none⟩ = some (.int .i64 rate) := by rw [own_cell1 HBOX.out 0]; rfl
      have hb1 : wr.cell? ⟨g10, 1, none⟩ = some (.slice AV t cV) := by rw [own_cell1 HBOX.out 1]; rfl
      obtain ⟨x0, x1, f0, f1⟩ := two_cells ((HB.out.block gr hgr10).trans HGS.out)
      clear hVl
      go_wp2_with fail
      refine end_snd3 rfl rfl rfl x0 x1 ?_
      refine ⟨set2_below HBT.out hgr0, .inr ⟨_, rfl, HF.out, HMOK.out, ⟨rows, ?_⟩⟩⟩
      exact ((HROWS.out.set_below (p := ⟨gr, 0, none⟩) (show gr < g10 + 1 by omega) _).set_below (p := ⟨gr, 1, none⟩) (show gr < g10 + 1 by omega) _).base (by omega)
end Go.Proofs.YtkmcohnhanphdaaGreatDoor
