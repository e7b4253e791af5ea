/- takeData. -/
import Derived.Test.YtlnjildkdmeflaaDoorYtf
import Derived.Test.YtlnjildkdmeflaaDoorWa
import Derived.Test.YtlnjildkdmeflaaDoorWc
import Derived.RegionTactic
import Derived.BigRegion
set_option linter.unusedSimpArgs false
set_option linter.unusedVariables false
namespace Go.Proofs.YtlnjildkdmeflaaDoor
open Go.RowKit Go.Dw
def rdC (r : Int) (v : Value) (b m : Int) (u : Value) (z : Bool) : Array Value := #[.int .i64 r, v, .int .i64 b, .int .i64 m, u, .bool z]
/-- what holds while the data is read: the box, its rows, its notes -/
structure FillR (N : Nat) (W : World) (g : Nat) (r b m : Int) (u : Value) (l : List Nx) (gv n cV : Nat) (rows : List Value) (wr : World) (yss : List (List Int)) : Prop where
  below : Below N W wr
  box : wr.heap[g]? = some (.cells #[.int .i64 r, .slice (some ⟨gv, 0, none⟩) n cV, .int .i64 b, .int .i64 m, u, .bool false] 55 (0, 0))
  own : OwnRowsL wr N (.slice (some ⟨gv, 0, none⟩) n cV) yss rows
  nts : OwnNts wr N u l
  ge : N ≤ g
section
variable {N : Nat} {W : World} {g : Nat} {r b m : Int} {u : Value} {l : List Nx} {gv n cV : Nat} {rows : List Value} {wr w2 : World} {yss : List (List Int)}
theorem FillR.drew (h : FillR N W g r b m u l gv n cV rows wr yss) : FillR N W g r b m u l gv n cV rows wr.drew yss := ⟨h.below.drew, h.box, h.own.drew, OwnNts.below h.nts (Below.refl _ _).drew, h.ge⟩
theorem FillR.next (h : FillR N W g r b m u l gv n cV rows wr yss) (hN : N ≤ W.heap.size) (hb : Below wr.heap.size wr w2) : FillR N W g r b m u l gv n cV rows w2 yss :=
  ⟨Below.next h.below hN hb, (hb.block g (blk_lt h.box)).trans h.box, h.own.below hb, OwnNts.below h.nts hb, h.ge⟩
theorem own_row_blk {w : World} {B b m cap n : Nat} {xs : List Value} (h : w.ownsRow B 3 1 (.slice (some ⟨b, 0, none⟩) m cap) n xs) (hm : 0 < m) : ∃ cs, w.heap[b]? = some (.cells cs 3 (0, 0)) := by
  rcases h.2 with ⟨e, _⟩ | ⟨g, c, cur, e, _, hh, _⟩
  · cases e
  · injection e with e1 _ _
    injection e1 with e1
    injection e1 with e1 _ _
    subst e1
    exact ⟨_, hh⟩
theorem FillR.set_ (h : FillR N W g r b m u l gv n cV rows wr yss) {k b' m' cap : Nat} (hr : rows[k]? = some (.slice (some ⟨b', 0, none⟩) m' cap)) (hm : 0 < m') (j : Nat) (y : Int) :
    FillR N W g r b m u l gv n cV rows (wr.setCell ⟨b', j, none⟩ (.int .i64 y)) (yss.set k ((rowOf yss k).set j y)) := by
  have hin := h.own.inner k _ hr
  have hb : N ≤ b' := (own_lt hin rfl).1
  have hne : b' ≠ g := fun e => own_ne_blk hin h.box (by decide) (by rw [e]; rfl)
  obtain ⟨cs, hcs⟩ := own_row_blk hin hm
  exact ⟨h.below.setCell (p := ⟨b', j, none⟩) hb _, (Below.heap_setCell _ _ _ _ (by simp; omega)).trans h.box, h.own.setEl hr, own_far (p := ⟨b', j, none⟩) h.nts (.inr (own_ne_blk h.nts hcs (by decide))) _, h.ge⟩
theorem FillR.slot (h : FillR N W g r b m u l gv n cV rows wr yss) {k m' : Nat} (hk : k < yss.length) (hm : (rowOf yss k).length = m') (h0 : 0 < m') : ∃ b' cap, rows[k]? = some (.slice (some ⟨b', 0, none⟩) m' cap) ∧ m' ≤ cap ∧ cap ≤ maxLen ∧ n = yss.length ∧ n ≤ cV ∧ cV ≤ maxLen := by
  obtain ⟨r, h1, h2⟩ := h.own.row hk
  rw [hm] at h2
  obtain ⟨b, cap, rfl, _, _, h3, h4, _⟩ := own_slot h2 h0
  obtain ⟨A, c, e, h5, h6⟩ := own_form h.own.outer
  injection e with e1 e2 e3
  exact ⟨b, cap, h1, h3, h4, e2, by omega, by omega⟩
theorem FillR.cells (h : FillR N W g r b m u l gv n cV rows wr yss) {k b' m' cap : Nat} (hr : rows[k]? = some (.slice (some ⟨b', 0, none⟩) m' cap)) : wr.cell? ⟨gv, k, none⟩ = some (.slice (some ⟨b', 0, none⟩) m' cap) := by
  have hk : k < rows.length := (List.getElem?_eq_some_iff.1 hr).1
  have hn : n = yss.length := by
    obtain ⟨A, c, e, _, _⟩ := own_form h.own.outer
    injection e
  have ho := h.own.outer
  rw [← hn] at ho
  have hl := ho.1
  exact (ho.cellAt k (by omega)).trans hr
theorem FillR.elem (h : FillR N W g r b m u l gv n cV rows wr yss) {k b' m' cap j : Nat} (hr : rows[k]? = some (.slice (some ⟨b', 0, none⟩) m' cap)) (hj : j < m') : (∃ vo, wr.cell? ⟨b', j, none⟩ = some vo) ∧ wr.frozen? ⟨b', j, none⟩ = false := by
  have hin := h.own.inner k _ hr
  have hm : m' = (rowOf yss k).length := by
    obtain ⟨A, c, e, _, _⟩ := own_form hin
    injection e
  subst hm
  exact ⟨⟨_, (hin.cellAt j (by omega)).trans (List.getElem?_eq_getElem (by simp; exact hj))⟩, hin.frozenAt j⟩
end
theorem pos_le {i T t m k : Nat} (hi : i < m) (ht : t < T) : (i * T + t) * k + k ≤ m * T * k := by
  have h1 : (i + 1) * T ≤ m * T := Nat.mul_le_mul_right T hi
  have h2 : i * T + t + 1 ≤ m * T := by rw [Nat.add_mul] at h1; omega
  have h3 := Nat.mul_le_mul_right k h2
  rw [Nat.add_mul (i * T + t)] at h3
  omega
theorem cut_take (d : By) (p k : Nat) : cutB (d.drop p) 0 k = cutB d p (p + k) := by unfold cutB; simp
theorem cut_rest {d : By} {p k n q : Nat} (hd : d.length = n) (hq : q + p = n) : cutB (d.drop p) k q = d.drop (p + k) := by
  unfold cutB
  rw [List.drop_drop, List.take_of_length_le (by simp; omega)]
set_option maxRecDepth 100000 in
set_option maxHeartbeats 8000000 in
theorem RTAKED_16 (N g : Nat) (r : Int) (T m : Nat) (l : List Nx) (A : Option Addr) (n c : Nat) (d : By) (w : World) (hN : N ≤ w.heap.size) (hR : Hid (RdAt w N g (.mid r T 16 m l))) (hT1 : 1 ≤ T) (hT2 : T ≤ 16) (hm : m ≤ 100000) (hc : n ≤ c ∧ c ≤ maxLen) (hD : Hid (BysAt w N A n d)) :
    Calls Tryd.prog 42 #[.pointer (some ⟨g, 0, none⟩), .slice A n c] w fun e w' => e = .returned (.bool (decide (d.length = 16 / 8 * T * m))) ∧ (d.length = 16 / 8 * T * m → RdAt w' N g (.fin r 16 m (fillR 16 T m d) l)) ∧ Below N w w' := by
  have hl := Lib.hid hD.out.1
  obtain ⟨P, hP⟩ : ∃ P, 16 / 8 * T * m = P := ⟨_, rfl⟩
  have hP2 : P = 2 * T * m := by rw [← hP]
  have hPI : (2 : Int) * (T : Int) * (m : Int) = (P : Int) := by rw [hP2]; push_cast; rfl
  have hPle : P ≤ 2 * 16 * 100000 := by rw [hP2]; exact Nat.mul_le_mul (Nat.mul_le_mul (Nat.le_refl _) hT2) hm
  have HP := Lib.hid hP2
  have hw1 : IntKind.i64.wrap ((2 : Int) * (T : Int)) = (2 : Int) * (T : Int) := IntWalk.i64_in _ (by omega)
  have hw2 : IntKind.i64.wrap ((2 : Int) * (T : Int) * (m : Int)) = (P : Int) := by rw [hPI]; exact IntWalk.i64_in _ (by omega)
  rw [hP]
  clear hP hP2 hPI
  obtain ⟨v, u, hNg, hbox, hown, hnts⟩ := hR.out
  obtain ⟨A5, c5, rfl, _, _⟩ := hown.form
  rw [zeroS_length] at hbox hown
  obtain ⟨gv, e9, h9, h8⟩ : ∃ gv, A5 = some ⟨gv, 0, none⟩ ∧ T ≤ c5 ∧ c5 ≤ maxLen := by
    obtain ⟨rows, hL⟩ := hown
    have h1 := hL.outer
    rw [zeroS_length] at h1
    obtain ⟨gv, cap, e, _, _, h2, h3, _⟩ := own_slot h1 (by omega)
    injection e with e1 e2 e3
    exact ⟨gv, e1, by omega, by omega⟩
  subst e9
  obtain ⟨rows, hL⟩ := hown
  have HF0 : Hid (FillR N w g r 16 m u l gv T c5 rows w (zeroS T m)) := ⟨Below.refl _ _, hbox, hL, hnts, hNg⟩
  clear hbox hL hnts hR
  obtain ⟨⟨_, x1, x2, x3, _, x5⟩, _, _, _, _, _, f5⟩ := cells6 HF0.out.box
  go_enter Tryd.func42, Tryd.ntmps42
  go_upto_region 2 with fail
  by_cases hnp : n = P
  · subst hnp
    go_quiet (fail)
    have hF1 : Hid (FillR N w g r 16 m u l gv T c5 rows (w.drewN nq) (zeroS T m)) := ⟨belowN HF0.out.below nq, HF0.out.box, ⟨HF0.out.own.outer, HF0.out.own.inner, HF0.out.own.apart⟩, OwnNts.below HF0.out.nts (belowN (Below.refl _ _) nq), hNg⟩
    obtain ⟨W, hW⟩ : ∃ W, W = w.drewN nq := ⟨_, rfl⟩
    rw [← hW] at hF1 ⊢
    clear hW x1 x2 x3 x5 f5 HF0
    obtain ⟨⟨_, x1, x2, x3, _, x5⟩, _, _, _, _, _, f5⟩ := cells6 hF1.out.box
    have HYl : Hid ((fillR 16 T m d).length = T) := fillR_length _ _ _ _
    go_wp2_with fail
    clear x1 x2 x3 x5 f5
    go_loopw [1, 35] (fun s i wr => ∃ (i9 p9 q9 e9 : Nat) (A9 : Option Addr), i9 ≤ m ∧ i = .int .i64 i9 ∧ s = .slice A9 q9 e9 ∧ q9 + p9 = n ∧ e9 + p9 = c ∧ Hid (p9 = i9 * T * 2) ∧ Hid (BysAt w N A9 q9 (d.drop p9)) ∧ Hid (∃ zss, PartOf (fillR 16 T m d) zss m (fun _ i => i < i9) ∧ FillR N w g r 16 m u l gv T c5 rows wr zss)) (fun _ i _ => m - (intOf i).toNat)
    case atStart => exact ⟨0, 0, n, c, A, Nat.zero_le _, rfl, rfl, rfl, rfl, (by show _ = _; simp), (by rw [List.drop_zero]; exact hD), ⟨zeroS T m, (by have := PartOf.start (fillR 16 T m d) m (done := fun _ i => i < 0) (fun a i _ _ h => by omega); rw [HYl.out] at this; exact this), hF1.out⟩⟩
    case round =>
      obtain ⟨wi, rfl⟩ : ∃ x : World, x = wr := ⟨_, rfl⟩
      obtain ⟨i9, p9, q9, e9, A9, hi9, rfl, rfl, hq9, he9, HP9, HB9, hZ⟩ := hrel
      have hi0 : (0 : Int) ≤ (i9 : Int) := by omega
      by_cases hil : i9 < m
      · have hii : (i9 : Int) < (m : Int) := by omega
        obtain ⟨x1, x2⟩ : wi.cell? ⟨g, 1, none⟩ = some (.slice (some ⟨gv, 0, none⟩) T c5) ∧ wi.cell? ⟨g, 2, none⟩ = some (.int .i64 16) := by
          obtain ⟨zss, _, hF⟩ := hZ.out
          obtain ⟨⟨_, x1, x2, _⟩, _⟩ := cells6 hF.box
          exact ⟨x1, x2⟩
        go_wp2_with fail
        clear x1 x2
        go_loopw [1, 44] (fun s i wr => ∃ (t9 p9 q9 e9 : Nat) (A9 : Option Addr), t9 ≤ T ∧ i = .int .i64 t9 ∧ s = .slice A9 q9 e9 ∧ q9 + p9 = n ∧ e9 + p9 = c ∧ Hid (p9 = (i9 * T + t9) * 2) ∧ Hid (BysAt w N A9 q9 (d.drop p9)) ∧ Hid (∃ zss, PartOf (fillR 16 T m d) zss m (fun t i => i < i9 ∨ (i = i9 ∧ t < t9)) ∧ FillR N w g r 16 m u l gv T c5 rows wr zss)) (fun _ i _ => T - (intOf i).toNat)
        case atStart => exact ⟨0, p9, q9, e9, A9, Nat.zero_le _, rfl, rfl, hq9, he9, (by show _ = _; rw [HP9.out]; simp), HB9, (by obtain ⟨zss, hP, hF⟩ := hZ.out; exact ⟨zss, hP.weaken (fun a i _ _ h => by omega), hF⟩)⟩
        case round =>
          clear hZ HB9 HP9 hq9 he9
          obtain ⟨wt, rfl⟩ : ∃ x : World, x = wr := ⟨_, rfl⟩
          obtain ⟨t9, p9, q9, e9, A9, ht9, rfl, rfl, hq9, he9, HP9, HB9, hZ⟩ := hrel
          have ht0 : (0 : Int) ≤ (t9 : Int) := by omega
          obtain ⟨zss, hP0, hF0⟩ := hZ.out
          have HPt := Lib.hid hP0
          have HFt := Lib.hid hF0
          clear hP0 hF0 hZ
          by_cases htl : t9 < T
          · have hti : (t9 : Int) < (T : Int) := by omega
            have hpk : p9 + 2 ≤ n := by
              have h1 := pos_le (k := 2) hil htl
              rw [show m * T * 2 = 2 * T * m by rw [Nat.mul_comm (m * T) 2, Nat.mul_comm m T, Nat.mul_assoc]] at h1
              rw [HP9.out, HP.out]; exact h1
            obtain ⟨⟨_, x1, x2, _⟩, _⟩ := cells6 HFt.out.box
            obtain ⟨b', cap, hrk, hcap1, hcap2, -, -, -⟩ := HFt.out.slot (k := t9) (by rw [HPt.out.len, HYl.out]; exact htl) (HPt.out.rows t9 (by rw [HYl.out]; exact htl)) (by omega)
            have HRK := Lib.hid hrk
            have hrc := HFt.out.cells hrk
            have hfz := (HFt.out.elem hrk hil).2
            obtain ⟨vo, hvo⟩ := (HFt.out.elem hrk hil).1
            have HSA : ∀ W, (Instr.slice 26 (.slice A9 q9 e9) none (some (.int .i64 2)) none).run Tryd.prog W = .ok (.slice (cutA A9 e9 0) 2 e9) W := fun W => run_cut_to A9 q9 e9 2 (by omega) W
            have HSB : ∀ W, (Instr.slice 26 (.slice A9 q9 e9) (some (.int .i64 2)) none none).run Tryd.prog W = .ok (.slice (cutA A9 e9 2) (q9 - 2) (e9 - 2)) W := fun W => run_cut_from A9 q9 e9 2 (by omega) (by omega) W
            have HGA := Lib.hid (HB9.out.cut (c := e9) (by omega) (p := 0) (q := 2) (by omega) (by omega))
            have HGB := Lib.hid (HB9.out.cut (c := e9) (by omega) (p := 2) (q := q9) (by omega) (by omega))
            rw [cut_take] at HGA
            rw [cut_rest hl.out hq9] at HGB
            have hvl := numB_lt (cutB d p9 (p9 + 2))
            rw [cutB_length (by omega) (by rw [hl.out]; omega), Nat.add_sub_cancel_left] at hvl
            simp only [Nat.reducePow] at hvl
            have hsT := Nat.le_trans hN HFt.out.below.size
            obtain ⟨v, hv9⟩ : ∃ v, numB (cutB d p9 (p9 + 2)) = v := ⟨_, rfl⟩
            have HV := Lib.hid hv9
            rw [hv9] at hvl
            clear hrk hv9
            go_wp2_with fail
            refine (GET_any (cutA A9 e9 0) 2 e9 (cutB d p9 (p9 + 2)) (by omega) _ N hsT (HGA.out.below HFt.out.below (Nat.le_refl _))).mono ?_
            rw [HV.out]
            rintro e w7 ⟨rfl, rfl⟩
            have HNX : Hid (∀ Y : Int, Y = smpV 16 v → ∃ zss, PartOf (fillR 16 T m d) zss m (fun t i => i < i9 ∨ (i = i9 ∧ t < t9 + 1)) ∧ FillR N w g r 16 m u l gv T c5 rows (wt.setCell ⟨b', i9, none⟩ (.int .i64 Y)).drew zss) := fun Y hY => by
              refine ⟨_, HPt.out.set_ (k := t9) (j := i9) (y := Y) (by rw [HYl.out]; exact htl) hil ?_ (fun a i _ _ h => by omega), (HFt.out.set_ HRK.out (by omega) i9 Y).drew⟩
              rw [fillR_el d htl hil]
              unfold smpR
              rw [show 16 / 8 = 2 from rfl, ← HP9.out, HV.out, hY]
            have HPN : Hid (p9 + 2 = (i9 * T + (t9 + 1)) * 2) := by
              show _ = _
              rw [HP9.out, ← Nat.add_assoc, Nat.add_mul (i9 * T + t9)]
            by_cases hv : 32768 ≤ v
            · have hvi : (32768 : Int) ≤ (v : Int) := by omega
              have HVN := Lib.hid hv
              go_wp2_with fail
              go_region
              go_wp2_with fail
              go_roundw
              case rel => exact ⟨t9 + 1, p9 + 2, q9 - 2, e9 - 2, _, by omega, by go_num, rfl, by omega, by omega, HPN, HGB, HNX.out _ (by unfold smpV; simp only [Nat.reducePow, Nat.reduceSub, Int.reducePow]; rw [if_pos HVN.out]; try omega)⟩
              case measure => simp [intOf]; omega
            · have hvi : (v : Int) < 32768 := by omega
              have hvd : decide ((32768 : Int) ≤ (v : Int)) = false := by simp; omega
              have HVN := Lib.hid hv
              clear hv
              go_wp2_with fail
              go_region
              go_wp2_with fail
              go_roundw
              case rel => exact ⟨t9 + 1, p9 + 2, q9 - 2, e9 - 2, _, by omega, by go_num, rfl, by omega, by omega, HPN, HGB, HNX.out _ (by unfold smpV; simp only [Nat.reducePow, Nat.reduceSub, Int.reducePow]; rw [if_neg HVN.out]; try omega)⟩
              case measure => simp [intOf]; omega
          · obtain rfl : t9 = T := by omega
            have hti : ¬ (t9 : Int) < (t9 : Int) := by omega
            have HPN : Hid (p9 = (i9 + 1) * t9 * 2) := by show _ = _; rw [HP9.out, Nat.add_mul i9 1 t9, Nat.one_mul]
            have HZN : Hid (∃ zss, PartOf (fillR 16 t9 m d) zss m (fun _ i => i < i9 + 1) ∧ FillR N w g r 16 m u l gv t9 c5 rows wt zss) := ⟨zss, HPt.out.weaken (fun a i ha _ h => by rw [HYl.out] at ha; omega), HFt.out⟩
            go_wp2_with fail
            go_roundw
            case rel => exact ⟨i9 + 1, p9, q9, e9, A9, by omega, by go_num, rfl, hq9, he9, HPN, HB9, HZN⟩
            case measure => simp [intOf]; omega
      · obtain rfl : i9 = m := by omega
        have hii : ¬ (i9 : Int) < (i9 : Int) := by omega
        obtain ⟨zss, hP, hF⟩ := hZ.out
        have hzy : zss = fillR 16 T i9 d := hP.all (fun a ha => by rw [HYl.out] at ha; rw [fillR_row d ha]; simp) (fun a i _ hi => hi)
        subst hzy
        have HFZ := Lib.hid hF
        clear hP hF hZ
        obtain ⟨⟨_, _, _, _, _, x5⟩, _, _, _, _, _, f5⟩ := cells6 HFZ.out.box
        have e2 : decide (List.length d = n) = true := by rw [hl.out]; simp
        have HE2 := Lib.hid e2
        have hfin : RdAt (wi.setCell ⟨g, 5, none⟩ (.bool true)) N g (.fin r 16 i9 (fillR 16 T i9 d) l) := by
          refine ⟨_, u, hNg, heap_setCell_same wi g 5 _ 55 (.bool true) HFZ.out.box, ⟨rows, HFZ.out.own.set_far HFZ.out.box (by decide) (by decide) 5 _⟩, ?_⟩
          exact own_far (p := ⟨g, 5, none⟩) HFZ.out.nts (.inr (own_ne_blk HFZ.out.nts HFZ.out.box (by decide))) _
        have HFIN := Lib.hid hfin
        have HBF : Hid (Below N w (wi.setCell ⟨g, 5, none⟩ (.bool true))) := HFZ.out.below.setCell (p := ⟨g, 5, none⟩) hNg _
        clear e2 hfin
        go_wp2_with fail
        go_ret
        rw [HE2.out]
        exact ⟨rfl, (fun _ => HFIN.out), HBF.out⟩
  · have hne : ((n : Int) != (P : Int)) = true := by simp; omega
    go_quiet (fail)
    go_wp2_with fail
    go_ret
    have e2 : decide (List.length d = P) = false := by rw [hl.out]; simp; omega
    rw [e2]
    exact ⟨rfl, (fun h => by rw [hl.out] at h; exact absurd h hnp), belowN (Below.refl _ _) nq⟩
set_option maxRecDepth 100000 in
set_option maxHeartbeats 8000000 in
theorem RTAKED_24 (N g : Nat) (r : Int) (T m : Nat) (l : List Nx) (A : Option Addr) (n c : Nat) (d : By) (w : World) (hN : N ≤ w.heap.size) (hR : Hid (RdAt w N g (.mid r T 24 m l))) (hT1 : 1 ≤ T) (hT2 : T ≤ 16) (hm : m ≤ 100000) (hc : n ≤ c ∧ c ≤ maxLen) (hD : Hid (BysAt w N A n d)) :
    Calls Tryd.prog 42 #[.pointer (some ⟨g, 0, none⟩), .slice A n c] w fun e w' => e = .returned (.bool (decide (d.length = 24 / 8 * T * m))) ∧ (d.length = 24 / 8 * T * m → RdAt w' N g (.fin r 24 m (fillR 24 T m d) l)) ∧ Below N w w' := by
  have hl := Lib.hid hD.out.1
  obtain ⟨P, hP⟩ : ∃ P, 24 / 8 * T * m = P := ⟨_, rfl⟩
  have hP2 : P = 3 * T * m := by rw [← hP]
  have hPI : (3 : Int) * (T : Int) * (m : Int) = (P : Int) := by rw [hP2]; push_cast; rfl
  have hPle : P ≤ 3 * 16 * 100000 := by rw [hP2]; exact Nat.mul_le_mul (Nat.mul_le_mul (Nat.le_refl _) hT2) hm
  have HP := Lib.hid hP2
  have hw1 : IntKind.i64.wrap ((3 : Int) * (T : Int)) = (3 : Int) * (T : Int) := IntWalk.i64_in _ (by omega)
  have hw2 : IntKind.i64.wrap ((3 : Int) * (T : Int) * (m : Int)) = (P : Int) := by rw [hPI]; exact IntWalk.i64_in _ (by omega)
  rw [hP]
  clear hP hP2 hPI
  obtain ⟨v, u, hNg, hbox, hown, hnts⟩ := hR.out
  obtain ⟨A5, c5, rfl, _, _⟩ := hown.form
  rw [zeroS_length] at hbox hown
  obtain ⟨gv, e9, h9, h8⟩ : ∃ gv, A5 = some ⟨gv, 0, none⟩ ∧ T ≤ c5 ∧ c5 ≤ maxLen := by
    obtain ⟨rows, hL⟩ := hown
    have h1 := hL.outer
    rw [zeroS_length] at h1
    obtain ⟨gv, cap, e, _, _, h2, h3, _⟩ := own_slot h1 (by omega)
    injection e with e1 e2 e3
    exact ⟨gv, e1, by omega, by omega⟩
  subst e9
  obtain ⟨rows, hL⟩ := hown
  have HF0 : Hid (FillR N w g r 24 m u l gv T c5 rows w (zeroS T m)) := ⟨Below.refl _ _, hbox, hL, hnts, hNg⟩
  clear hbox hL hnts hR
  obtain ⟨⟨_, x1, x2, x3, _, x5⟩, _, _, _, _, _, f5⟩ := cells6 HF0.out.box
  go_enter Tryd.func42, Tryd.ntmps42
  go_upto_region 2 with fail
  by_cases hnp : n = P
  · subst hnp
    go_quiet (fail)
    have hF1 : Hid (FillR N w g r 24 m u l gv T c5 rows (w.drewN nq) (zeroS T m)) := ⟨belowN HF0.out.below nq, HF0.out.box, ⟨HF0.out.own.outer, HF0.out.own.inner, HF0.out.own.apart⟩, OwnNts.below HF0.out.nts (belowN (Below.refl _ _) nq), hNg⟩
    obtain ⟨W, hW⟩ : ∃ W, W = w.drewN nq := ⟨_, rfl⟩
    rw [← hW] at hF1 ⊢
    clear hW x1 x2 x3 x5 f5 HF0
    obtain ⟨⟨_, x1, x2, x3, _, x5⟩, _, _, _, _, _, f5⟩ := cells6 hF1.out.box
    have HYl : Hid ((fillR 24 T m d).length = T) := fillR_length _ _ _ _
    go_wp2_with fail
    clear x1 x2 x3 x5 f5
    go_loopw [1, 35] (fun s i wr => ∃ (i9 p9 q9 e9 : Nat) (A9 : Option Addr), i9 ≤ m ∧ i = .int .i64 i9 ∧ s = .slice A9 q9 e9 ∧ q9 + p9 = n ∧ e9 + p9 = c ∧ Hid (p9 = i9 * T * 3) ∧ Hid (BysAt w N A9 q9 (d.drop p9)) ∧ Hid (∃ zss, PartOf (fillR 24 T m d) zss m (fun _ i => i < i9) ∧ FillR N w g r 24 m u l gv T c5 rows wr zss)) (fun _ i _ => m - (intOf i).toNat)
    case atStart => exact ⟨0, 0, n, c, A, Nat.zero_le _, rfl, rfl, rfl, rfl, (by show _ = _; simp), (by rw [List.drop_zero]; exact hD), ⟨zeroS T m, (by have := PartOf.start (fillR 24 T m d) m (done := fun _ i => i < 0) (fun a i _ _ h => by omega); rw [HYl.out] at this; exact this), hF1.out⟩⟩
    case round =>
      obtain ⟨wi, rfl⟩ : ∃ x : World, x = wr := ⟨_, rfl⟩
      obtain ⟨i9, p9, q9, e9, A9, hi9, rfl, rfl, hq9, he9, HP9, HB9, hZ⟩ := hrel
      have hi0 : (0 : Int) ≤ (i9 : Int) := by omega
      by_cases hil : i9 < m
      · have hii : (i9 : Int) < (m : Int) := by omega
        obtain ⟨x1, x2⟩ : wi.cell? ⟨g, 1, none⟩ = some (.slice (some ⟨gv, 0, none⟩) T c5) ∧ wi.cell? ⟨g, 2, none⟩ = some (.int .i64 24) := by
          obtain ⟨zss, _, hF⟩ := hZ.out
          obtain ⟨⟨_, x1, x2, _⟩, _⟩ := cells6 hF.box
          exact ⟨x1, x2⟩
        go_wp2_with fail
        clear x1 x2
        go_loopw [1, 44] (fun s i wr => ∃ (t9 p9 q9 e9 : Nat) (A9 : Option Addr), t9 ≤ T ∧ i = .int .i64 t9 ∧ s = .slice A9 q9 e9 ∧ q9 + p9 = n ∧ e9 + p9 = c ∧ Hid (p9 = (i9 * T + t9) * 3) ∧ Hid (BysAt w N A9 q9 (d.drop p9)) ∧ Hid (∃ zss, PartOf (fillR 24 T m d) zss m (fun t i => i < i9 ∨ (i = i9 ∧ t < t9)) ∧ FillR N w g r 24 m u l gv T c5 rows wr zss)) (fun _ i _ => T - (intOf i).toNat)
        case atStart => exact ⟨0, p9, q9, e9, A9, Nat.zero_le _, rfl, rfl, hq9, he9, (by show _ = _; rw [HP9.out]; simp), HB9, (by obtain ⟨zss, hP, hF⟩ := hZ.out; exact ⟨zss, hP.weaken (fun a i _ _ h => by omega), hF⟩)⟩
        case round =>
          clear hZ HB9 HP9 hq9 he9
          obtain ⟨wt, rfl⟩ : ∃ x : World, x = wr := ⟨_, rfl⟩
          obtain ⟨t9, p9, q9, e9, A9, ht9, rfl, rfl, hq9, he9, HP9, HB9, hZ⟩ := hrel
          have ht0 : (0 : Int) ≤ (t9 : Int) := by omega
          obtain ⟨zss, hP0, hF0⟩ := hZ.out
          have HPt := Lib.hid hP0
          have HFt := Lib.hid hF0
          clear hP0 hF0 hZ
          by_cases htl : t9 < T
          · have hti : (t9 : Int) < (T : Int) := by omega
            have hpk : p9 + 3 ≤ n := by
              have h1 := pos_le (k := 3) hil htl
              rw [show m * T * 3 = 3 * T * m by rw [Nat.mul_comm (m * T) 3, Nat.mul_comm m T, Nat.mul_assoc]] at h1
              rw [HP9.out, HP.out]; exact h1
            obtain ⟨⟨_, x1, x2, _⟩, _⟩ := cells6 HFt.out.box
            obtain ⟨b', cap, hrk, hcap1, hcap2, -, -, -⟩ := HFt.out.slot (k := t9) (by rw [HPt.out.len, HYl.out]; exact htl) (HPt.out.rows t9 (by rw [HYl.out]; exact htl)) (by omega)
            have HRK := Lib.hid hrk
            have hrc := HFt.out.cells hrk
            have hfz := (HFt.out.elem hrk hil).2
            obtain ⟨vo, hvo⟩ := (HFt.out.elem hrk hil).1
            have HSA : ∀ W, (Instr.slice 26 (.slice A9 q9 e9) none (some (.int .i64 3)) none).run Tryd.prog W = .ok (.slice (cutA A9 e9 0) 3 e9) W := fun W => run_cut_to A9 q9 e9 3 (by omega) W
            have HSB : ∀ W, (Instr.slice 26 (.slice A9 q9 e9) (some (.int .i64 3)) none none).run Tryd.prog W = .ok (.slice (cutA A9 e9 3) (q9 - 3) (e9 - 3)) W := fun W => run_cut_from A9 q9 e9 3 (by omega) (by omega) W
            have HGA := Lib.hid (HB9.out.cut (c := e9) (by omega) (p := 0) (q := 3) (by omega) (by omega))
            have HGB := Lib.hid (HB9.out.cut (c := e9) (by omega) (p := 3) (q := q9) (by omega) (by omega))
            rw [cut_take] at HGA
            rw [cut_rest hl.out hq9] at HGB
            have hvl := numB_lt (cutB d p9 (p9 + 3))
            rw [cutB_length (by omega) (by rw [hl.out]; omega), Nat.add_sub_cancel_left] at hvl
            simp only [Nat.reducePow] at hvl
            have hsT := Nat.le_trans hN HFt.out.below.size
            obtain ⟨v, hv9⟩ : ∃ v, numB (cutB d p9 (p9 + 3)) = v := ⟨_, rfl⟩
            have HV := Lib.hid hv9
            rw [hv9] at hvl
            clear hrk hv9
            go_wp2_with fail
            refine (GET_any (cutA A9 e9 0) 3 e9 (cutB d p9 (p9 + 3)) (by omega) _ N hsT (HGA.out.below HFt.out.below (Nat.le_refl _))).mono ?_
            rw [HV.out]
            rintro e w7 ⟨rfl, rfl⟩
            have HNX : Hid (∀ Y : Int, Y = smpV 24 v → ∃ zss, PartOf (fillR 24 T m d) zss m (fun t i => i < i9 ∨ (i = i9 ∧ t < t9 + 1)) ∧ FillR N w g r 24 m u l gv T c5 rows (wt.setCell ⟨b', i9, none⟩ (.int .i64 Y)).drew zss) := fun Y hY => by
              refine ⟨_, HPt.out.set_ (k := t9) (j := i9) (y := Y) (by rw [HYl.out]; exact htl) hil ?_ (fun a i _ _ h => by omega), (HFt.out.set_ HRK.out (by omega) i9 Y).drew⟩
              rw [fillR_el d htl hil]
              unfold smpR
              rw [show 24 / 8 = 3 from rfl, ← HP9.out, HV.out, hY]
            have HPN : Hid (p9 + 3 = (i9 * T + (t9 + 1)) * 3) := by
              show _ = _
              rw [HP9.out, ← Nat.add_assoc, Nat.add_mul (i9 * T + t9)]
            by_cases hv : 8388608 ≤ v
            · have hvi : (8388608 : Int) ≤ (v : Int) := by omega
              have HVN := Lib.hid hv
              go_wp2_with fail
              go_region
              go_wp2_with fail
              go_roundw
              case rel => exact ⟨t9 + 1, p9 + 3, q9 - 3, e9 - 3, _, by omega, by go_num, rfl, by omega, by omega, HPN, HGB, HNX.out _ (by unfold smpV; simp only [Nat.reducePow, Nat.reduceSub, Int.reducePow]; rw [if_pos HVN.out]; try omega)⟩
              case measure => simp [intOf]; omega
            · have hvi : (v : Int) < 8388608 := by omega
              have hvd : decide ((8388608 : Int) ≤ (v : Int)) = false := by simp; omega
              have HVN := Lib.hid hv
              clear hv
              go_wp2_with fail
              go_region
              go_wp2_with fail
              go_roundw
              case rel => exact ⟨t9 + 1, p9 + 3, q9 - 3, e9 - 3, _, by omega, by go_num, rfl, by omega, by omega, HPN, HGB, HNX.out _ (by unfold smpV; simp only [Nat.reducePow, Nat.reduceSub, Int.reducePow]; rw [if_neg HVN.out]; try omega)⟩
              case measure => simp [intOf]; omega
          · obtain rfl : t9 = T := by omega
            have hti : ¬ (t9 : Int) < (t9 : Int) := by omega
            have HPN : Hid (p9 = (i9 + 1) * t9 * 3) := by show _ = _; rw [HP9.out, Nat.add_mul i9 1 t9, Nat.one_mul]
            have HZN : Hid (∃ zss, PartOf (fillR 24 t9 m d) zss m (fun _ i => i < i9 + 1) ∧ FillR N w g r 24 m u l gv t9 c5 rows wt zss) := ⟨zss, HPt.out.weaken (fun a i ha _ h => by rw [HYl.out] at ha; omega), HFt.out⟩
            go_wp2_with fail
            go_roundw
            case rel => exact ⟨i9 + 1, p9, q9, e9, A9, by omega, by go_num, rfl, hq9, he9, HPN, HB9, HZN⟩
            case measure => simp [intOf]; omega
      · obtain rfl : i9 = m := by omega
        have hii : ¬ (i9 : Int) < (i9 : Int) := by omega
        obtain ⟨zss, hP, hF⟩ := hZ.out
        have hzy : zss = fillR 24 T i9 d := hP.all (fun a ha => by rw [HYl.out] at ha; rw [fillR_row d ha]; simp) (fun a i _ hi => hi)
        subst hzy
        have HFZ := Lib.hid hF
        clear hP hF hZ
        obtain ⟨⟨_, _, _, _, _, x5⟩, _, _, _, _, _, f5⟩ := cells6 HFZ.out.box
        have e2 : decide (List.length d = n) = true := by rw [hl.out]; simp
        have HE2 := Lib.hid e2
        have hfin : RdAt (wi.setCell ⟨g, 5, none⟩ (.bool true)) N g (.fin r 24 i9 (fillR 24 T i9 d) l) := by
          refine ⟨_, u, hNg, heap_setCell_same wi g 5 _ 55 (.bool true) HFZ.out.box, ⟨rows, HFZ.out.own.set_far HFZ.out.box (by decide) (by decide) 5 _⟩, ?_⟩
          exact own_far (p := ⟨g, 5, none⟩) HFZ.out.nts (.inr (own_ne_blk HFZ.out.nts HFZ.out.box (by decide))) _
        have HFIN := Lib.hid hfin
        have HBF : Hid (Below N w (wi.setCell ⟨g, 5, none⟩ (.bool true))) := HFZ.out.below.setCell (p := ⟨g, 5, none⟩) hNg _
        clear e2 hfin
        go_wp2_with fail
        go_ret
        rw [HE2.out]
        exact ⟨rfl, (fun _ => HFIN.out), HBF.out⟩
  · have hne : ((n : Int) != (P : Int)) = true := by simp; omega
    go_quiet (fail)
    go_wp2_with fail
    go_ret
    have e2 : decide (List.length d = P) = false := by rw [hl.out]; simp; omega
    rw [e2]
    exact ⟨rfl, (fun h => by rw [hl.out] at h; exact absurd h hnp), belowN (Below.refl _ _) nq⟩
end Go.Proofs.YtlnjildkdmeflaaDoor
