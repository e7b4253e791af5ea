/- Quantise, the document's. -/
import Derived.Test.YtpnbkkpbgpcgiaaFill
import Derived.Test.YtpnbkkpbgpcgiaaNear
import Derived.Test.YtpnbkkpbgpcgiaaSpecC
import Derived.Test.YtpnbkkpbgpcgiaaEnds2
import Derived.Test.YtpnbkkpbgpcgiaaQuant1
import Derived.Deep.RegionHeld3
import Derived.Deep.DeepCutAuto
set_option linter.unusedSimpArgs false
set_option linter.unusedVariables false
namespace Go.Proofs.Ytpnbkkpbgpcgiaa
open Go.RowKit Go.Dw
attribute [local go_sem ↓] Go.wp_at_zero Go.wp_at_succ

theorem map_row {f : Int → Int} {xss : List (List Int)} {k : Nat} (hk : k < xss.length) : rowOf (xss.map (List.map f)) k = (rowOf xss k).map f := by
  simp [rowOf, List.getD, hk]
theorem map_el {f : Int → Int} {xss : List (List Int)} {k j : Nat} (hk : k < xss.length) (hj : j < (rowOf xss k).length) : elOf (rowOf (xss.map (List.map f)) k) j = f (elOf (rowOf xss k) j) := by
  rw [map_row hk]; simp [elOf, List.getD, hj]

set_option maxRecDepth 100000 in
set_option maxHeartbeats 4000000 in
theorem RQUANT_ok (r : Int) (ad : Addr) (n c : Nat) (b : Int) (xss : List (List Int)) (hok : Hid (OkS r xss)) (hc : Hid (chkS r xss = 0)) (hb1 : 1 ≤ b) (hb2 : b ≤ 24) (w : World) (B : Nat) (hB : B ≤ w.heap.size) (hh : Hid (RowsAt w B (some ad) n xss)) :
    Calls Try.prog 27 #[.agg #[.int .i64 r, .slice (some ad) n c], .int .i64 b] w (OutS3 w r (xss.map (List.map (qV (qStep b)))) (stS (qC wInc (qStep b)) 0 xss) 0) := by
  have hl := Lib.hid hh.out.1
  have hn16 : n ≤ 16 := by have := hok.out.few; have := hl.out; omega
  have hn0 : 0 < n := by have := hok.out.some; have := hl.out; omega
  have hm := hok.out.long
  have hq : (chkS r xss != 0) = false := by rw [hc.out]; rfl
  have d1 : decide (b < 1) = false := by simp; omega
  have d2 : decide (24 < b) = false := by simp; omega
  obtain ⟨st, hst⟩ : ∃ st, qStep b = st := ⟨_, rfl⟩
  have hs := qStep_bd hb1 hb2
  rw [hst] at hs ⊢
  obtain ⟨hs1, hs2⟩ := hs
  obtain ⟨t1, t2, t3, t4, -⟩ := qTop_bd hs1
  have HST : Hid (wrap64 (2 ^ (24 - b).toNat) = st) := by show _ = _; rw [← hst]; unfold qStep at hst ⊢; rw [hst]; exact IntWalk.wrap64_in _ ⟨by omega, by omega⟩
  clear hst
  go_enter Try.func27, Try.ntmps27
  go_wp2_with fail
  refine calls_later (w.heap.size + 2) ?_
  intro W hW hsW
  obtain ⟨hcW, hfW⟩ := bcell hW
  simp only [World.size_alloc] at hsW
  have hbW : Below w.heap.size w W := (((Below.refl _ w).alloc (Nat.le_refl _) _).alloc (by simp) _).trans (hW.mono (by omega))
  have hsto := HST.out
  go_upto_region 7 with (go_at_call 38; refine (RCHECK_any r (some ad) n c xss _ B (by omega) (hh.out.below hbW hB)).mono ?_; rintro e wk ⟨rfl, hbk⟩; have hzk := pcell (hbk.mono hsW))
  have hbS0 : Below (w.heap.size + 2) W wk := hbk.mono hsW
  rw [HST.out]
  clear hsto
  go_cut [9, 10] (fun s9 s10 wx => ∃ (g : Nat) (V : Value) (rows : List Value), s9 = .pointer (some ⟨g, 0, none⟩) ∧ s10 = .int .i64 0 ∧ Hid (wx.heap[g]? = some (.cells #[.int .i64 r, V] 24 (0, 0))) ∧ Hid (OwnRowsL wx (w.heap.size + 2) V (zeroS n (len0 xss)) rows) ∧ Hid (Below (w.heap.size + 2) W wx) ∧ w.heap.size + 2 ≤ g)
  case first =>
    go_region_held3 (fun w' => Below (w.heap.size + 2) W w' ∧ ∀ z : Addr, z.block < w.heap.size + 2 → w'.cell? z = W.cell? z)
      ((refine (fun h => ⟨h, pcell h⟩) ?_; repeat (first | assumption | exact Below.refl _ _ | (refine Below.drew ?_) | (refine Below.alloc ?_ (by first | omega | (simp; omega) | exact Nat.le_trans hsW (Below.size (by assumption)) | (simp only [World.size_drew, World.size_alloc]; exact Nat.le_trans hsW (Nat.le_succ_of_le (Below.size (by assumption))))) _) | (refine Below.setCell ?_ (by first | omega | (simp; omega) | exact Nat.le_trans hsW (Below.size (by assumption))) _))))
      (first
        | (go_at_call 66; refine (RLONG_any r (some ad) n c xss _ B (Below.ge ‹Below (w.heap.size + 2) W _ ∧ _› hsW (by omega)) (hh.out.below (Below.via hbW ‹Below (w.heap.size + 2) W _ ∧ _› (by omega)) hB) hn0).mono ?_; rintro e w1 ⟨rfl, hb1⟩; have hbS := Below.next (‹Below (w.heap.size + 2) W _ ∧ _›).1 hsW hb1; have hz1 := pcell hb1; have hy1 := fun b o => (bcell hb1).2 b o; have hs1 := hb1.size; simp only [World.size_alloc, World.size_drew, Nat.add_one_le_iff] at hs1)
        | (go_at_call 67; refine (REMPTY_any r n (len0 xss) (by omega) (by omega) _).mono ?_; rintro e w2 ⟨v2, rfl, ho2, hb2⟩; obtain ⟨A2, c2, rfl, _, _⟩ := ho2.form; have hbS2 := Below.next (‹Below (w.heap.size + 2) W _ ∧ _›).1 hsW hb2; have hz2 := pcell hb2; have hy2 := fun b o => (bcell hb2).2 b o; have hs2 := hb2.size; (try simp only [World.size_alloc, Nat.add_one_le_iff] at hs2)))
    all_goals (go_wp2_with fail; go_meet)
    · obtain ⟨rows, hL2⟩ := ho2
      have hx1 : w.heap.size + 2 ≤ w1.heap.size := Nat.le_trans hsW hbS.size
      exact ⟨w2.heap.size, _, rows, rfl, rfl, heap_alloc_new _ _, (hL2.alloc _).base hx1, hbS2.alloc (by omega) _, by omega⟩
    · obtain ⟨rows, hL2⟩ := ho2
      have hx1 : w.heap.size + 2 ≤ w1.heap.size := Nat.le_trans hsW hbS.size
      have hb2x := (hb2.block w1.heap.size (by simp)).trans (heap_alloc_new w1 (.cells #[.int .i64 0, .slice none 0 0] 24))
      exact ⟨w1.heap.size, _, rows, rfl, rfl, heap_set2 hb2x, (hL2.base (by simp; omega)).set2_far hb2x (by decide) (by decide) _ _, set2_below hbS2 hx1, hx1⟩
    · obtain ⟨rows, hL2⟩ := ho2
      have hx0 : w.heap.size + 2 ≤ wk.heap.size := Nat.le_trans hsW hbk.size
      have hx1 : w.heap.size + 2 ≤ w1.heap.size := Nat.le_trans hsW hbS.size
      have hb2x := (hb2.block wk.heap.size (by have := hb1.size; simp at this; omega)).trans ((hb1.block wk.heap.size (by simp)).trans (heap_alloc_new wk (.cells #[.int .i64 0, .slice none 0 0] 24)))
      exact ⟨wk.heap.size, _, rows, rfl, rfl, heap_set2 hb2x, (hL2.base hx1).set2_far hb2x (by decide) (by decide) _ _, set2_below hbS2 hx0, hx0⟩
  case rest =>
    obtain ⟨g, V, rows, rfl, rfl, hbox, hL, hb, hg⟩ := hcut
    have HY : Hid ((xss.map (List.map (qV st))).length = n) := by show _ = _; rw [List.length_map]; exact hl.out
    have HYm : Hid (∀ a, a < (xss.map (List.map (qV st))).length → (rowOf (xss.map (List.map (qV st))) a).length = len0 xss) := fun a ha => by
      rw [List.length_map] at ha
      rw [map_row ha, List.length_map]; exact (hok.out.row ha).1
    obtain ⟨AV, cV, hVe, _, _⟩ := own_form hL.out.outer
    rw [zeroS_length] at hVe
    subst hVe
    obtain ⟨gv, hgv⟩ : ∃ gv, AV = some ⟨gv, 0, none⟩ := by
      have h1 := hL.out.outer
      rw [zeroS_length] at h1
      obtain ⟨gv, cap, e, _⟩ := own_slot h1 hn0
      exact ⟨gv, by injection e⟩
    subst hgv
    have HF0 : Hid (FillI (w.heap.size + 2) W g (.int .i64 r) gv n cV rows wc (partK (xss.map (List.map (qV st))) (len0 xss) 0 0)) := ⟨hb.out, hbox.out, by rw [partK_start, HY.out]; exact hL.out, hg⟩
    clear hbox hL hb
    go_wp2_with fail
    have hT2 : Hid (wrap64 (8388607 / st * st) = qTop st) := IntWalk.wrap64_in _ ⟨by unfold qTop at t1; omega, by unfold qTop at t2; omega⟩
    go_loopw [10, 11] (fun s i wr => ∃ k : Nat, k ≤ n ∧ i = .int .i64 k ∧ s = .int .i64 (stS (qC wInc st) 0 (xss.take k)) ∧ Hid (FillI (w.heap.size + 2) W g (.int .i64 r) gv n cV rows wr (partK (xss.map (List.map (qV st))) (len0 xss) k 0))) (fun _ i _ => n - (intOf i).toNat)
    case atStart => exact ⟨0, Nat.zero_le _, rfl, rfl, HF0.out⟩
    case round =>
      obtain ⟨k, hk, rfl, rfl, hF⟩ := hrel
      by_cases hlt : k < n
      · have hkx : Hid (k < xss.length) := by show _ < _; have := hl.out; omega
        obtain ⟨A', n', c', hadB, hcell0, hn', hc', hi⟩ := hh.out.row hlt
        obtain rfl : n' = len0 xss := hi.1.symm.trans (hok.out.row hkx.out).1
        have hi' := Lib.hid hi
        have HC0 := Lib.hid hcell0
        clear hi hcell0
        unfold maxLen at hc'
        have hzo := pcell hF.out.below
        have hk0' : (k : Int) < (n : Int) := by omega
        go_wp2_with fail
        clear hzo hk0'
        have hk0 : (0 : Int) ≤ (k : Int) := by omega
        have hkn : (k : Int) < (n : Int) := by omega
        obtain ⟨wo, hwo⟩ : ∃ wo : World, wo = wr := ⟨_, rfl⟩
        rw [← hwo] at hF ⊢
        clear hwo
        go_loopw [10, 12] (fun s i wi => ∃ j : Nat, j ≤ len0 xss ∧ i = .int .i64 j ∧ s = .int .i64 (stR (qC wInc st) (stS (qC wInc st) 0 (xss.take k)) ((rowOf xss k).take j)) ∧ Hid (FillI (w.heap.size + 2) W g (.int .i64 r) gv n cV rows wi (partK (xss.map (List.map (qV st))) (len0 xss) k j))) (fun _ i _ => len0 xss - (intOf i).toNat)
        case atStart => exact ⟨0, Nat.zero_le _, rfl, rfl, hF.out⟩
        case round =>
          obtain ⟨j, hj, rfl, rfl, hi⟩ := hrel
          have hzi := pcell hi.out.below
          have hbi : Below B w wr := (hbW.mono hB).trans (hi.out.below.mono (show B ≤ w.heap.size + 2 by omega))
          have hsz : B ≤ wr.heap.size := Nat.le_trans (by omega) hi.out.below.size
          by_cases hjl : j < len0 xss
          · go_wp2_with fail
            refine (RLONG_any r _ n c xss _ B hsz (hh.out.below hbi (Nat.le_refl _)) hn0).mono ?_
            rintro e w4 ⟨rfl, hb4⟩
            have hi4 := Lib.hid (hi.out.next hsW hb4)
            have hb4B := (hbW.mono hB).trans (hi4.out.below.mono (show B ≤ w.heap.size + 2 by omega))
            clear hzi hbi hsz
            have hzd4 := pcell hi4.out.below
            have hcd4 := (hb4B.cell (p := ad.add k) (by rw [block_of_add]; omega)).trans HC0.out
            have hid4 := Lib.hid (hi'.out.below hb4B (Nat.le_refl _))
            obtain ⟨ad', rfl⟩ := hi'.out.addr (by omega)
            have hci4 := (hid4.out.at_ hjl).2
            obtain ⟨x1, x2⟩ := hok.out.el hkx.out hjl
            have HE : Hid (elOf (rowOf (xss.map (List.map (qV st))) k) j = qV st (elOf (rowOf xss k) j)) := map_el hkx.out (by rw [(hok.out.row hkx.out).1]; exact hjl)
            have HK : Hid (stR (qC wInc st) (stS (qC wInc st) 0 (xss.take k)) ((rowOf xss k).take (j + 1)) = qC wInc st (stR (qC wInc st) (stS (qC wInc st) 0 (xss.take k)) ((rowOf xss k).take j)) (elOf (rowOf xss k) j)) := stR_take (by rw [(hok.out.row hkx.out).1]; exact hjl)
            obtain ⟨x, hx⟩ : ∃ x, elOf (rowOf xss k) j = x := ⟨_, rfl⟩
            obtain ⟨s, hs⟩ : ∃ s, stR (qC wInc st) (stS (qC wInc st) 0 (xss.take k)) ((rowOf xss k).take j) = s := ⟨_, rfl⟩
            rw [hs, hx] at HK
            rw [hx] at hci4 x1 x2 HE
            rw [hs]
            clear hs hx
            obtain ⟨m1, m2, m3, m4⟩ := qM_bd hs1 hs2 x1 x2
            have HM : Hid (wrap64 (nearI x st * st) = qM st x) := IntWalk.wrap64_in _ ⟨by unfold qM at m3; omega, by unfold qM at m4; omega⟩
            have HNE := Lib.hid (fun w => RNEAR_any x st hs1 (by omega) (by omega) (by omega) w)
            have hYk : (rowOf (partK (xss.map (List.map (qV st))) (len0 xss) k j) k).length = len0 xss := partK_len (by rw [HY.out]; exact hlt) (HYm.out k (by rw [HY.out]; exact hlt)) hj
            obtain ⟨b', cap, hrk, hcap1, hcap2, -, hn3, hc3⟩ := hi4.out.slot (by rw [partK_length, HY.out]; exact hlt) hYk (by omega)
            have HR := Lib.hid hrk
            clear hrk hYk
            have hj0 : (0 : Int) ≤ (j : Int) := by omega
            have hjn : (j : Int) < (len0 xss : Int) := by omega
            by_cases hov : qTop st < qM st x
            · have hov2 : 8388607 < qM st x := (qM_over hs1).2 hov
              have HV : Hid (qV st x = qTop st) := if_pos hov
              have HCn : Hid (qC wInc st s x = wrap64 (s + 1)) := if_pos hov
              go_wp2_with fail
              refine (HNE.out _).mono ?_
              rintro e w5 ⟨rfl, qn, rfl⟩
              have hi5 := Lib.hid (hi4.out.drewN qn)
              have hS5 := hi5.out.cells HR.out
              obtain ⟨⟨vo, hvo⟩, hfz⟩ := hi5.out.elem HR.out hjl
              have HI6 := Lib.hid (hi5.out.put HR.out (by rw [HY.out]; exact hlt) (HYm.out k (by rw [HY.out]; exact hlt)) hjl (HE.out.trans HV.out))
              have hMo := HM.out
              have hTo := hT2.out
              clear hzd4 hcd4 hci4
              go_wp2_with fail
              go_roundw
              case rel => exact ⟨j + 1, by omega, by go_num, by rw [HK.out, HCn.out], HI6.out⟩
              case measure => simp [intOf]; omega
            · have hov2 : ¬ 8388607 < qM st x := fun h => hov ((qM_over hs1).1 h)
              have HV : Hid (qV st x = qM st x) := if_neg hov
              have HCn : Hid (qC wInc st s x = s) := if_neg hov
              go_wp2_with fail
              refine (HNE.out _).mono ?_
              rintro e w5 ⟨rfl, qn, rfl⟩
              have hi5 := Lib.hid (hi4.out.drewN qn)
              have hS5 := hi5.out.cells HR.out
              obtain ⟨⟨vo, hvo⟩, hfz⟩ := hi5.out.elem HR.out hjl
              have HI6 := Lib.hid (hi5.out.put HR.out (by rw [HY.out]; exact hlt) (HYm.out k (by rw [HY.out]; exact hlt)) hjl (HE.out.trans HV.out))
              have hMo := HM.out
              skip
              clear hzd4 hcd4 hci4
              go_wp2_with fail
              go_roundw
              case rel => exact ⟨j + 1, by omega, by go_num, by rw [HK.out, HCn.out], HI6.out⟩
              case measure => simp [intOf]; omega
          · obtain rfl : j = len0 xss := by omega
            go_wp2_with fail
            refine (RLONG_any r _ n c xss _ B hsz (hh.out.below hbi (Nat.le_refl _)) hn0).mono ?_
            rintro e w4 ⟨rfl, hb4⟩
            have hi4 := Lib.hid (hi.out.next hsW hb4)
            clear hzi hbi hsz
            rw [List.take_of_length_le (l := rowOf xss k) (by rw [(hok.out.row hkx.out).1]; exact Nat.le_refl _), ← stS_take hkx.out]
            go_wp2_with fail
            go_roundw
            case rel =>
              refine ⟨k + 1, by omega, by go_num, rfl, ?_⟩
              have := hi4.out
              rw [partK_next HYm.out] at this
              exact this
            case measure => simp [intOf]; omega
      · obtain rfl : k = n := by omega
        have hzo := pcell hF.out.below
        have hcg0 := own_cell1 hF.out.box 0
        have hcg1 := own_cell1 hF.out.box 1
        simp at hcg0 hcg1
        have hcr0 : wr.cell? ⟨w.heap.size + 1, 0, none⟩ = some (.int .i64 0) := by rw [hzo _ (by simp), hcW _ _ (by simp)]; simp [go_sem]
        have hcr1 : wr.cell? ⟨w.heap.size + 1, 1, none⟩ = some (.slice none 0 0) := by rw [hzo _ (by simp), hcW _ _ (by simp)]; simp [go_sem]
        have hfr := fun b o h => ((bcell hF.out.below).2 b o h)
        rw [List.take_of_length_le (l := xss) (by rw [hl.out]; exact Nat.le_refl _)]
        go_wp2_with fail
        refine end_snd3 rfl rfl rfl hcr0 hcr1 ?_
        have hI9 := hF.out.own
        rw [partK_end HY.out] at hI9
        exact ⟨_, rfl, ⟨rows, ((hI9.set_below (p := ⟨w.heap.size + 1, 0, none⟩) (by simp) _).set_below (p := ⟨w.heap.size + 1, 1, none⟩) (by simp) _).base (show w.heap.size ≤ w.heap.size + 2 by omega)⟩, set2_below (hbW.trans (hF.out.below.mono (by omega))) (by omega)⟩
end Go.Proofs.Ytpnbkkpbgpcgiaa
