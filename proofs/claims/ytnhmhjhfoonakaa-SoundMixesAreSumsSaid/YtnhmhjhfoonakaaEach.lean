/- each: every sample made anew by a function value. -/
import Derived.Test.YtnhmhjhfoonakaaWc
import Derived.Test.YtnhmhjhfoonakaaWb
import Derived.Deep.DeepCutAuto
import Derived.Deep.RegionHeld3
import Derived.Deep.DrawnRows
set_option linter.unusedSimpArgs false
set_option linter.unusedVariables false
namespace Go.Proofs.Ytnhmhjhfoonakaa
open Go.RowKit Go.Dw
attribute [local go_sem ↓] Go.wp_at_zero Go.wp_at_succ

/-- what holds at every element's head -/
structure EachI {σ : Type} (J : World → σ → Prop) (row : Option Nat) (w W : World) (g : Nat) (o0 V : Value) (rows : List Value) (wr : World) (s : σ) (yss : List (List Int)) : Prop where
  grown : w.grownBy wr row
  boxes : ∀ j, w.heap.size ≤ j → j < w.heap.size + 2 → wr.heap[j]? = W.heap[j]?
  box : wr.heap[g]? = some (.cells #[o0, V] 24 (0, 0))
  own : OwnRowsL wr (w.heap.size + 2) V yss rows
  st : J wr s
section
variable {σ : Type} {J : World → σ → Prop} {row : Option Nat} {w W : World} {g : Nat} {o0 V : Value} {rows : List Value} {wr : World} {s s' : σ} {yss : List (List Int)}
theorem EachI.drew (h : EachI J row w W g o0 V rows wr s yss) (hst : ∀ w1 w2 s, J w1 s → Below w.heap.size w1 w2 → J w2 s) : EachI J row w W g o0 V rows wr.drew s yss :=
  ⟨grownBy_drew h.grown, h.boxes, h.box, h.own.drew, hst _ _ _ h.st (Below.refl _ _).drew⟩
theorem EachI.call (h : EachI J row w W g o0 V rows wr s yss) (hr : ∀ k, row = some k → k < w.heap.size) (hg : w.heap.size + 2 ≤ g) {w2 : World} (hc : wr.grownBy w2 row) (hJ : J w2 s') : EachI J row w W g o0 V rows w2 s' yss := by
  have hgr := blk_lt h.box
  have hsz := h.grown.size
  refine ⟨grownBy_trans h.grown hc, fun j h1 h2 => ?_, ?_, h.own.kept hc (fun k e => by have := hr k e; omega), hJ⟩
  · exact (hc.block j (by omega) (fun e => by have := hr j e.symm; omega)).trans (h.boxes j h1 h2)
  · exact (hc.block g hgr (fun e => by have := hr g e.symm; omega)).trans h.box
theorem EachI.set_ (h : EachI J row w W g o0 V rows wr s yss) (hst : ∀ w1 w2 s, J w1 s → Below w.heap.size w1 w2 → J w2 s) {k j b m cap : Nat} {y : Int} (hr : rows[k]? = some (.slice (some ⟨b, 0, none⟩) m cap)) : EachI J row w W g o0 V rows (wr.setCell ⟨b, j, none⟩ (.int .i64 y)) s (yss.set k ((rowOf yss k).set j y)) := by
  have hin := h.own.inner k _ hr
  have hb : w.heap.size + 2 ≤ b := (own_lt hin rfl).1
  have hne : b ≠ g := fun e => own_ne_blk hin h.box (by decide) (by rw [e]; rfl)
  refine ⟨grownBy_set h.grown (by simp; omega) _, fun i h1 h2 => ?_, ?_, h.own.setEl hr, hst _ _ _ h.st ((Below.refl _ _).setCell (p := ⟨b, j, none⟩) (by simp; omega) _)⟩
  · exact (Below.heap_setCell _ _ _ _ (by simp; omega)).trans (h.boxes i h1 h2)
  · exact (Below.heap_setCell _ _ _ _ (by simp; omega)).trans h.box
end

set_option maxRecDepth 100000 in
set_option maxHeartbeats 2000000 in
theorem EACH_any {σ : Type} (J : World → σ → Prop) (f : Int → Int) (u : σ → Int → σ) (s0 : σ) (fid : FuncId) (caps : Array Value) (row : Option Nat)
    (r : Int) (ad : Addr) (n c : Nat) (xss : List (List Int)) (hok : Hid (OkS r xss)) (w : World) (B : Nat) (hB : B ≤ w.heap.size) (hh : Hid (RowsAt w B (some ad) n xss))
    (hrow : Hid (∀ k, row = some k → B ≤ k ∧ k < w.heap.size)) (hJ0 : Hid (J w s0)) (hst : Hid (∀ w1 w2 s, J w1 s → Below w.heap.size w1 w2 → J w2 s))
    (hcf : ∀ (args : Array Value) (W : World), (callFunc fid args).run Try.prog W = .ok (.enter fid args) W)
    (hf : Hid (∀ x s w1, smpB x = true → J w1 s → Calls Try.prog fid (#[.int .i64 x] ++ caps) w1 fun e w2 => e = .returned (.int .i64 (f x)) ∧ J w2 (u s x) ∧ w1.grownBy w2 row)) :
    Calls Try.prog 48 #[.agg #[.int .i64 r, .slice (some ad) n c], .func (.func fid) #[] caps] w fun e w' =>
      (∃ v, e = .returned (.agg #[.int .i64 r, v]) ∧ OwnRows w' w.heap.size v (xss.map (List.map f))) ∧ J w' (stS u s0 xss) ∧ w.grownBy w' row := by
  have hl := Lib.hid hh.out.1
  have hn16 : n ≤ 16 := by have := hok.out.few; have := hl.out; omega
  have hn0 : 0 < n := by have := hok.out.some; have := hl.out; omega
  have hm := hok.out.long
  go_enter Try.func48, Try.ntmps48
  go_upto_region 1 with fail
  refine wp_later (w.heap.size + 2) ?_
  intro W hW hsW
  obtain ⟨hcW, hfW⟩ := bcell hW
  simp only [World.size_alloc] at hsW
  have hbW : Below w.heap.size w W := (((Below.refl _ w).alloc (Nat.le_refl _) _).alloc (by simp) _).trans (hW.mono (by omega))
  go_cut [5] (fun s5 wx => ∃ (g : Nat) (V : Value) (rows : List Value), s5 = .pointer (some ⟨g, 0, none⟩) ∧ Hid (wx.heap[g]? = some (.cells #[.int .i64 r, V] 24 (0, 0))) ∧ Hid (OwnRowsL wx (w.heap.size + 2) V (zeroS n (len0 xss)) rows) ∧ Hid (Below (w.heap.size + 2) W wx) ∧ w.heap.size + 2 ≤ g)
  case first =>
    go_region_held3 (fun w' => Below (w.heap.size + 2) W w' ∧ ∀ z : Addr, z.block < w.heap.size + 2 → w'.cell? z = W.cell? z)
      ((refine (fun h => ⟨h, pcell h⟩) ?_; repeat (first | assumption | exact Below.refl _ _ | (refine Below.drew ?_) | (refine Below.alloc ?_ (by first | omega | (simp; omega) | exact Nat.le_trans hsW (Below.size (by assumption)) | (simp only [World.size_drew, World.size_alloc]; exact Nat.le_trans hsW (Nat.le_succ_of_le (Below.size (by assumption))))) _) | (refine Below.setCell ?_ (by first | omega | (simp; omega) | exact Nat.le_trans hsW (Below.size (by assumption))) _))))
      (first
        | (go_at_call 22; refine (LENGTH_any r (some ad) n c xss _ B (Below.ge ‹Below (w.heap.size + 2) W _ ∧ _› hsW (by omega)) (hh.out.below (Below.via hbW ‹Below (w.heap.size + 2) W _ ∧ _› (by omega)) hB) hn0).mono ?_; rintro e w1 ⟨rfl, hb1⟩; have hbS := Below.next (‹Below (w.heap.size + 2) W _ ∧ _›).1 hsW hb1; have hz1 := pcell hb1; have hy1 := fun b o => (bcell hb1).2 b o; have hs1 := hb1.size; simp only [World.size_alloc, World.size_drew, Nat.add_one_le_iff] at hs1)
        | (go_at_call 21; refine (BLANK_any r n (len0 xss) (by omega) (by omega) _).mono ?_; rintro e w2 ⟨v2, rfl, ho2, hb2⟩; obtain ⟨A2, c2, rfl, _, _⟩ := ho2.form; have hbS2 := Below.next (‹Below (w.heap.size + 2) W _ ∧ _›).1 hsW hb2; have hz2 := pcell hb2; have hy2 := fun b o => (bcell hb2).2 b o; have hs2 := hb2.size; (try simp only [World.size_alloc, Nat.add_one_le_iff] at hs2)))
    all_goals (go_wp2_with fail; go_meet)
    · obtain ⟨rows, hL2⟩ := ho2
      have hx1 : w.heap.size + 2 ≤ w1.heap.size := Nat.le_trans hsW hbS.size
      exact ⟨w2.heap.size, _, rows, rfl, heap_alloc_new _ _, (hL2.alloc _).base hx1, hbS2.alloc (by omega) _, by omega⟩
    · obtain ⟨rows, hL2⟩ := ho2
      have hx1 : w.heap.size + 2 ≤ w1.heap.size := Nat.le_trans hsW hbS.size
      have hb2x := (hb2.block w1.heap.size (by simp)).trans (heap_alloc_new w1 (.cells #[.int .i64 0, .slice none 0 0] 24))
      exact ⟨w1.heap.size, _, rows, rfl, heap_set2 hb2x, (hL2.base (by simp; omega)).set2_far hb2x (by decide) (by decide) _ _, set2_below hbS2 hx1, hx1⟩
    · obtain ⟨rows, hL2⟩ := ho2
      have hx1 : w.heap.size + 2 ≤ w1.heap.size := Nat.le_trans hsW hbS.size
      have hb2x := (hb2.block W.heap.size (by have := hb1.size; simp at this; omega)).trans ((hb1.block W.heap.size (by simp)).trans (heap_alloc_new W (.cells #[.int .i64 0, .slice none 0 0] 24)))
      exact ⟨W.heap.size, _, rows, rfl, heap_set2 hb2x, (hL2.base hx1).set2_far hb2x (by decide) (by decide) _ _, set2_below hbS2 hsW, hsW⟩
  case rest =>
    obtain ⟨g, V, rows, rfl, hbox, hL, hb, hg⟩ := hcut
    obtain ⟨AV, cV, hVe, _, _⟩ := own_form hL.out.outer
    rw [zeroS_length] at hVe
    subst hVe
    obtain ⟨gv, hgv⟩ : ∃ gv, AV = some ⟨gv, 0, none⟩ := by
      have h1 := hL.out.outer
      rw [zeroS_length] at h1
      obtain ⟨gv, cap, e, _⟩ := own_slot h1 hn0
      exact ⟨gv, by injection e⟩
    subst hgv
    have hz0 := pcell hb.out
    go_wp2_with fail
    clear hz0
    have hrk : Hid (∀ k, row = some k → k < w.heap.size) := fun k e => (hrow.out k e).2
    have hrB : Hid (∀ k, row = some k → B ≤ k) := fun k e => (hrow.out k e).1
    have hbwc : Below w.heap.size w wc := hbW.trans (hb.out.mono (by omega))
    have hI0 : Hid (EachI J row w W g (.int .i64 r) (.slice (some ⟨gv, 0, none⟩) n cV) rows wc s0 (zeroS n (len0 xss))) := ⟨grownBy_below hbwc row, fun j _ h2 => hb.out.block j h2, hbox.out, hL.out, hst.out _ _ _ hJ0.out hbwc⟩
    clear hbox hL hb
    go_loopw [21] (fun i wr => ∃ k : Nat, k ≤ n ∧ i = .int .i64 k ∧ Hid (EachI J row w W g (.int .i64 r) (.slice (some ⟨gv, 0, none⟩) n cV) rows wr (stS u s0 (xss.take k)) (eachK f xss (len0 xss) k 0))) (fun i _ => n - (intOf i).toNat)
    case atStart => exact ⟨0, Nat.zero_le _, rfl, by show EachI _ _ _ _ _ _ _ _ _ _ _; rw [eachK_start, hl.out]; exact hI0.out⟩
    case round =>
      obtain ⟨k, hk, rfl, hI⟩ := hrel
      by_cases hlt : k < n
      · have hkx : Hid (k < xss.length) := by show _ < _; have := hl.out; omega
        have hbr : Below B w wr := grown_below hI.out.grown hB hrB.out
        obtain ⟨A', n', c', hadB, hcell0, hn', hc', hi⟩ := hh.out.row hlt
        obtain rfl : n' = len0 xss := hi.1.symm.trans (hok.out.row hkx.out).1
        have hcell := (hbr.cell (p := ad.add k) (by rw [block_of_add]; omega)).trans hcell0
        have hi' := Lib.hid hi
        clear hi hbr hcell0
        unfold maxLen at hc'
        go_wp2_with fail
        clear hcell
        have hk0 : (0 : Int) ≤ (k : Int) := by omega
        have hkn : (k : Int) < (n : Int) := by omega
        obtain ⟨wo, hwo⟩ : ∃ wo : World, wo = wr := ⟨_, rfl⟩
        rw [← hwo] at hI ⊢
        clear hwo
        go_loopw [28] (fun i wi => ∃ j : Nat, j ≤ len0 xss ∧ i = .int .i64 j ∧ Hid (EachI J row w W g (.int .i64 r) (.slice (some ⟨gv, 0, none⟩) n cV) rows wi (stR u (stS u s0 (xss.take k)) ((rowOf xss k).take j)) (eachK f xss (len0 xss) k j))) (fun i _ => len0 xss - (intOf i).toNat)
        case atStart => exact ⟨0, Nat.zero_le _, rfl, hI.out⟩
        case round =>
          obtain ⟨j, hj, rfl, hi⟩ := hrel
          by_cases hjl : j < len0 xss
          · have hbi : Below B w wr := grown_below hi.out.grown hB hrB.out
            obtain ⟨ad', rfl⟩ := hi'.out.addr (by omega)
            have hcell2 := ((hi'.out.below hbi (Nat.le_refl _)).at_ hjl).2
            have hsm := Lib.hid (smpB_mk (hok.out.el hkx.out hjl).1 (hok.out.el hkx.out hjl).2)
            have hlen : (eachK f xss (len0 xss) k j).length = n := eachK_length.trans hl.out
            obtain ⟨rk, hrk1, hrk2⟩ := hi.out.own.row (k := k) (by rw [hlen]; exact hlt)
            have hrl : (rowOf (eachK f xss (len0 xss) k j) k).length = len0 xss := by
              rw [eachK_row hkx.out, if_neg (by omega), if_pos rfl]
              have := (hok.out.row hkx.out).1
              simp [this]; omega
            rw [hrl] at hrk2
            obtain ⟨b, cap, rfl, hbb, _, hcap1, hcap2, _⟩ := own_slot hrk2 (by omega)
            have hout := hi.out.own.outer
            rw [hlen] at hout
            have hS : wr.drew.cell? ⟨g, 1, none⟩ = some (.slice (some ⟨gv, 0, none⟩) n cV) ∧ wr.drew.cell? ⟨gv, k, none⟩ = some (.slice (some ⟨b, 0, none⟩) (len0 xss) cap) := ⟨own_cell1 hi.out.box 1, (hout.cellAt k (by omega)).trans hrk1⟩
            have hj0 : (0 : Int) ≤ (j : Int) := by omega
            have hjn : (j : Int) < (len0 xss : Int) := by omega
            have HL1 := Lib.hid hlen
            have HR1 := Lib.hid hrk1
            clear hbi hlen hrl hrk1 hrk2 hout
            go_wp2_with fail
            refine wp_region_head 9 (fun w' => w'.cell? ⟨g, 1, none⟩ = some (.slice (some ⟨gv, 0, none⟩) n cV) ∧ w'.cell? ⟨gv, k, none⟩ = some (.slice (some ⟨b, 0, none⟩) (len0 xss) cap)) (by kernel_rfl) (by kernel_rfl) ?_
            refine HL.take (i := 0) (oi := _) (v := ?_) rfl (by kernel_rfl) (by kernel_rfl) (by decide) (fun _ _ _ h => h) (Or.inl ⟨by rfl, ?_⟩) hS ?_
            rotate_left
            · intro wz hwz
              try dsimp only at hwz
              go_simp
              try with_reducible rfl
            simp only [Act.put, List.setIfInBounds_toArray, List.set_cons_zero, List.set_cons_succ]
            refine HL.take (i := 1) (oi := _) (v := ?_) rfl (by kernel_rfl) (by kernel_rfl) (by decide) (fun _ _ _ h => h) (Or.inl ⟨by rfl, ?_⟩) hS ?_
            rotate_left
            · intro wz hwz
              try dsimp only at hwz
              go_simp
              try with_reducible rfl
            simp only [Act.put, List.setIfInBounds_toArray, List.set_cons_zero, List.set_cons_succ]
            refine HL.take (i := 2) (oi := _) (v := ?_) rfl (by kernel_rfl) (by kernel_rfl) (by decide) (fun _ _ _ h => h) (Or.inl ⟨by rfl, ?_⟩) hS ?_
            rotate_left
            · intro wz hwz
              try dsimp only at hwz
              go_simp
              try with_reducible rfl
            simp only [Act.put, List.setIfInBounds_toArray, List.set_cons_zero, List.set_cons_succ]
            refine HL.take (i := 3) (oi := _) (v := ?_) rfl (by kernel_rfl) (by kernel_rfl) (by decide) (fun _ _ _ h => h) (Or.inl ⟨by rfl, ?_⟩) hS ?_
            rotate_left
            · intro wz hwz
              try dsimp only at hwz
              go_simp
              try with_reducible rfl
            simp only [Act.put, List.setIfInBounds_toArray, List.set_cons_zero, List.set_cons_succ]
            refine HL.take (i := 4) (oi := _) (v := ?_) rfl (by kernel_rfl) (by kernel_rfl) (by decide) (fun _ _ _ h => h) (Or.inl ⟨by rfl, ?_⟩) hS ?_
            rotate_left
            · intro wz hwz
              try dsimp only at hwz
              go_simp
              try with_reducible rfl
            simp only [Act.put, List.setIfInBounds_toArray, List.set_cons_zero, List.set_cons_succ]
            refine HL.take (i := 5) (oi := _) (v := ?_) rfl (by kernel_rfl) (by kernel_rfl) (by decide) (fun _ _ _ h => h) (Or.inl ⟨by rfl, ?_⟩) hS ?_
            rotate_left
            · intro wz hwz
              try dsimp only at hwz
              go_simp
              try with_reducible rfl
            simp only [Act.put, List.setIfInBounds_toArray, List.set_cons_zero, List.set_cons_succ]
            refine HL.take (i := 6) (oi := _) (v := ?_) rfl (by kernel_rfl) (by kernel_rfl) (by decide) (fun _ _ _ h => h) (Or.inl ⟨by rfl, ?_⟩) hS ?_
            rotate_left
            · intro wz hwz
              try dsimp only at hwz
              go_simp
              try with_reducible rfl
            simp only [Act.put, List.setIfInBounds_toArray, List.set_cons_zero, List.set_cons_succ]
            refine HL.take (i := 7) (oi := _) (v := ?_) rfl (by kernel_rfl) (by kernel_rfl) (by decide) (fun _ _ _ h => h) (Or.inl ⟨by rfl, ?_⟩) hS ?_
            rotate_left
            · intro wz hwz
              try dsimp only at hwz
              go_simp
              try with_reducible rfl
            simp only [Act.put, List.setIfInBounds_toArray, List.set_cons_zero, List.set_cons_succ]
            refine HL.one (i := 8) (o := _) rfl (by kernel_rfl) (by decide) (by rfl) ?_
            intro K hK
            go_simp
            have hI1 := hi.out.drew hst.out
            refine (hf.out _ _ _ hsm.out hI1.st).mono ?_
            rintro e w2 ⟨rfl, hJ2, hg2⟩
            have hI2 := hI1.call hrk.out hg hg2 hJ2
            have hout2 := hI2.own.outer
            rw [HL1.out] at hout2
            have hcrow := (hout2.cellAt k (by omega)).trans HR1.out
            refine hK.out _ _ ⟨own_cell1 hI2.box 1, hcrow⟩ ?_
            try simp only [Act.put, List.setIfInBounds_toArray, List.set_cons_zero, List.set_cons_succ]
            clear hK K hS
            refine HL.done (by kernel_rfl) ?_
            simp only [List.drop_succ_cons, List.drop_zero]
            obtain ⟨q, hq1, hq2⟩ := hI2.own.row (k := k) (by rw [HL1.out]; exact hlt)
            obtain rfl : Value.slice (some ⟨b, 0, none⟩) (len0 xss) cap = q := by rw [HR1.out] at hq1; injection hq1
            have hrl : (rowOf (eachK f xss (len0 xss) k j) k).length = len0 xss := by
              rw [eachK_row hkx.out, if_neg (by omega), if_pos rfl]
              have := (hok.out.row hkx.out).1
              simp [this]; omega
            rw [hrl] at hq2
            have hbj := hq2.cellAt j (by omega)
            have hfj := hq2.frozenAt j
            obtain ⟨vo, hvo⟩ : ∃ vo, w2.cell? ⟨b, j, none⟩ = some vo := ⟨_, hbj.trans (List.getElem?_eq_getElem (by simp [hrl]; exact hjl))⟩
            have hI3 := hI2.set_ (j := j) (y := f (elOf (rowOf xss k) j)) hst.out HR1.out
            rw [eachK_step hkx.out (hok.out.row hkx.out).1 hjl, ← stR_take (u := u) (s := stS u s0 (xss.take k)) (xs := rowOf xss k) (j := j) (by rw [(hok.out.row hkx.out).1]; exact hjl)] at hI3
            have HI3 := Lib.hid hI3
            clear hI1 hI2 hI3 hout2 hcrow hq1 hq2 hbj hrl hJ2 hg2
            go_wp2
            go_roundw
            case rel => exact ⟨j + 1, by omega, by go_num, HI3.out⟩
            case measure => simp [intOf]; omega
          · obtain rfl : j = len0 xss := by omega
            go_wp2
            go_roundw
            case rel =>
              refine ⟨k + 1, by omega, by go_num, ?_⟩
              have := hi.out
              rw [List.take_of_length_le (l := rowOf xss k) (by rw [(hok.out.row hkx.out).1]; omega), ← stS_take hkx.out, eachK_next (fun a ha => (hok.out.row ha).1)] at this
              exact this
            case measure => simp [intOf]; omega
      · obtain rfl : k = n := by omega
        have hbb := hI.out.box
        have hcb0 := own_cell1 hbb 0
        have hcb1 := own_cell1 hbb 1
        simp at hcb0 hcb1
        have hres0 := (hI.out.boxes (w.heap.size + 1) (by omega) (by omega))
        have hcr0 : wr.cell? ⟨w.heap.size + 1, 0, none⟩ = some (.int .i64 0) := (World.cell?_of_block (a := ⟨w.heap.size + 1, 0, none⟩) hres0).trans ((hcW _ _ (by omega)).trans (by simp [go_sem]))
        have hcr1 : wr.cell? ⟨w.heap.size + 1, 1, none⟩ = some (.slice none 0 0) := (World.cell?_of_block (a := ⟨w.heap.size + 1, 1, none⟩) hres0).trans ((hcW _ _ (by omega)).trans (by simp [go_sem]))
        have hfr0 : wr.frozen? ⟨w.heap.size + 1, 0, none⟩ = false := (World.frozen?_of_block (a := ⟨w.heap.size + 1, 0, none⟩) hres0).trans ((hfW _ _ (by omega)).trans (by simp [go_sem]))
        have hfr1 : wr.frozen? ⟨w.heap.size + 1, 1, none⟩ = false := (World.frozen?_of_block (a := ⟨w.heap.size + 1, 1, none⟩) hres0).trans ((hfW _ _ (by omega)).trans (by simp [go_sem]))
        clear hbb hres0
        go_wp2
        refine end_snd1 rfl rfl rfl hcr0 hcr1 ?_
        have hI9 := hI.out
        have hln := hl.out
        rw [List.take_of_length_le (by omega)] at hI9
        have hE : eachK f xss (len0 xss) k 0 = xss.map (List.map f) := by rw [← hln]; exact eachK_end
        rw [hE] at hI9
        exact ⟨⟨_, rfl, ⟨rows, ((hI9.own.set_below (p := ⟨w.heap.size + 1, 0, none⟩) (by simp) _).set_below (p := ⟨w.heap.size + 1, 1, none⟩) (by simp) _).base (show w.heap.size ≤ w.heap.size + 2 by omega)⟩⟩,
          hst.out _ _ _ hI9.st (set2_below (Below.refl _ _) (show w.heap.size ≤ w.heap.size + 1 by omega)), grownBy_set (p := ⟨w.heap.size + 1, 1, none⟩) (grownBy_set (p := ⟨w.heap.size + 1, 0, none⟩) hI9.grown (by simp) _) (by simp) _⟩
end Go.Proofs.Ytnhmhjhfoonakaa
