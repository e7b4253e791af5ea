/- Mix, the sound's, where all is right. -/
import Derived.Test.YtnhmhjhfoonakaaMix1
import Derived.Test.YtnhmhjhfoonakaaWd
import Derived.Test.YtnhmhjhfoonakaaCopy
set_option linter.unusedSimpArgs false
set_option linter.unusedVariables false
namespace Go.Proofs.Ytnhmhjhfoonakaa
open Go.RowKit Go.Dw
attribute [local go_sem ↓] Go.wp_at_zero Go.wp_at_succ
theorem FillI.rewriteA {N : Nat} {W : World} {g : Nat} {o0 : Value} {gv n cV : Nat} {rows : List Value} {wr w' : World} {yss : List (List Int)} {k m cap : Nat} {A : Option Addr} {xs : List Int} (h : FillI N W g o0 gv n cV rows wr yss) (hN : N ≤ wr.heap.size)
    (hr : rows[k]? = some (.slice A m cap)) (hg : wr.grownBy w' (Value.slice A m cap).ownBlock) (hm : xs.length = m) (hn : w'.ownsRow N 3 1 (.slice A m cap) m (xs.map (Value.int .i64))) : FillI N W g o0 gv n cV rows w' (yss.set k xs) := by
  rcases hn.2 with ⟨h1, h2⟩ | ⟨b, cap', cur, h1, _⟩
  · injection h1 with e1 e2 e3
    subst e1 e2 e3
    have hx : xs = [] := List.eq_nil_of_length_eq_zero hm
    subst hx
    have hk : k < yss.length := by
      have := (List.getElem?_eq_some_iff.1 hr).1
      have hl : rows.length = yss.length := by simpa using h.own.outer.1
      omega
    have hin := h.own.inner k _ hr
    have h0 : rowOf yss k = [] := by
      obtain ⟨A, c, e, _, _⟩ := own_form hin
      injection e with _ e _
      exact List.eq_nil_of_length_eq_zero e.symm
    have he : yss.set k [] = yss := by
      refine ext_rows (by simp) fun a ha => ?_
      rw [rowOf_set' hk]
      split
      · rename_i e; subst e; exact h0.symm
      · rfl
    rw [he]
    exact ⟨h.below.trans (grown_below hg hN (fun j e => by simp [Value.ownBlock] at e)), (hg.block g (blk_lt h.box) (by simp [Value.ownBlock])).trans h.box, h.own.kept hg (fun j e => by simp [Value.ownBlock] at e), h.ge⟩
  · injection h1 with e1 e2 e3
    subst e1 e3
    exact FillI.rewrite h hN hr hg hm hn
/-- a block of another type is written -/
theorem FillI.clip {N : Nat} {W : World} {g : Nat} {o0 : Value} {gv n cV : Nat} {rows : List Value} {wr w' : World} {yss : List (List Int)} {gc : Nat} {cs : Array Value} (h : FillI N W g o0 gv n cV rows wr yss) (hN : N ≤ wr.heap.size)
    (hc : wr.heap[gc]? = some (.cells cs 52 (0, 0))) (hNc : N ≤ gc) (hne : g ≠ gc) (hg : wr.grownBy w' (some gc)) : FillI N W g o0 gv n cV rows w' yss :=
  ⟨h.below.trans (grown_below hg hN (fun j e => by injection e with e; omega)), (hg.block g (blk_lt h.box) (fun e => by injection e with e; omega)).trans h.box,
    ⟨h.own.outer.kept hg (.inr (own_ne_blk h.own.outer hc (by decide))), fun k r hr => (h.own.inner k r hr).kept hg (.inr (own_ne_blk (h.own.inner k r hr) hc (by decide))), h.own.apart⟩, h.ge⟩
theorem FillI.clipblk {N : Nat} {W : World} {g : Nat} {o0 : Value} {gv n cV : Nat} {rows : List Value} {wr : World} {yss : List (List Int)} {gc k b m cap : Nat} {cs : Array Value} (h : FillI N W g o0 gv n cV rows wr yss)
    (hc : wr.heap[gc]? = some (.cells cs 52 (0, 0))) (hr : rows[k]? = some (.slice (some ⟨b, 0, none⟩) m cap)) (j : Nat) (u : Value) : (wr.setCell ⟨b, j, none⟩ u).heap[gc]? = some (.cells cs 52 (0, 0)) := by
  have hin := h.own.inner k _ hr
  have hne : b ≠ gc := fun e => own_ne_blk hin hc (by decide) (by rw [e]; rfl)
  exact (Below.heap_setCell _ _ _ _ (by simp; omega)).trans hc
set_option maxRecDepth 100000 in
set_option maxHeartbeats 4000000 in
theorem MIX_ok (r : Int) (ad ad' : Addr) (n c c' : Nat) (xss yss : List (List Int)) (hc : Hid (both2 r r xss yss = 0)) (hok : Hid (OkS r xss)) (hok' : Hid (OkS r yss)) (w : World) (B : Nat) (hB : B ≤ w.heap.size) (hh : Hid (RowsAt w B (some ad) n xss)) (hh' : Hid (RowsAt w B (some ad') n yss)) :
    Calls Try.prog 6 #[.agg #[.int .i64 r, .slice (some ad) n c], .agg #[.int .i64 r, .slice (some ad') n c']] w (OutS3 w r (clipS (mixT xss yss)) (stS clipU 0 (mixT xss yss)) 0) := by
  have hl := Lib.hid hh.out.1
  have hl' := Lib.hid hh'.out.1
  have hn16 : n ≤ 16 := by have := hok.out.few; have := hl.out; omega
  have hn : 0 < n := by have := hok.out.some; have := hl.out; omega
  have hm := hok.out.long
  have hm' := hok'.out.long
  have hq : (both2 r r xss yss != 0) = false := by rw [hc.out]; rfl
  obtain ⟨L, hL⟩ : ∃ L, L = max (len0 xss) (len0 yss) := ⟨_, rfl⟩
  have hL9 : L ≤ 100000 := by omega
  have HLm := Lib.hid hL
  obtain ⟨T, hT⟩ : ∃ T, mixT xss yss = T := ⟨_, rfl⟩
  have HTl : Hid (T.length = n) := by show _ = _; rw [← hT]; exact mtx_length.trans hl.out
  have HTm : Hid (∀ a, a < n → (rowOf T a).length = L) := fun a ha => by rw [← hT, hL]; exact mtx_len (by rw [hl.out]; exact ha)
  have HTe : Hid (∀ a i, a < n → i < L → elOf (rowOf T a) i = elOf (rowOf xss a) i + elOf (rowOf yss a) i) := fun a i ha hi => by rw [← hT]; exact mtx_el (by rw [hl.out]; exact ha) (by rw [← hL]; exact hi)
  have HTr : Hid (∀ t ∈ T, t.length = L) := by rw [← hT, hL]; exact mtx_rows
  have HY : Hid ((clipS T).length = n) := (clipS_length T).trans HTl.out
  have HYm : Hid (∀ a, a < (clipS T).length → (rowOf (clipS T) a).length = L) := fun a ha => by
    rw [clipS_length] at ha; rw [clipS_len ha]; exact HTm.out a (by rw [← HTl.out]; exact ha)
  rw [hT]
  have HLx : len0 xss ≤ L := by omega
  have HLy : len0 yss ≤ L := by omega
  clear hT hL
  go_enter Try.func6, Try.ntmps6
  go_wp2_with fail
  refine calls_later (w.heap.size + 3) ?_
  intro W hW hsW
  obtain ⟨hcW, hfW⟩ := bcell hW
  simp only [World.size_alloc] at hsW
  have hbW : Below w.heap.size w W := ((((Below.refl _ w).alloc (Nat.le_refl _) _).alloc (by simp) _).alloc (by simp; omega) _).trans (hW.mono (by omega))
  have HRx : Hid (RowsAt W B (some ad) n xss) := hh.out.below hbW hB
  have HRy : Hid (RowsAt W B (some ad') n yss) := hh'.out.below hbW hB
  refine (CHECKBOTH_any r r (some ad) (some ad') n n c c' xss yss _ B (by omega) (hh.out.below hbW hB) (hh'.out.below hbW hB)).mono ?_
  rintro e w2 ⟨rfl, hb2⟩
  have hS2 : Below (w.heap.size + 3) W w2 := hb2.mono hsW
  have hz2 := pcell hS2
  have hs2 := hb2.size
  clear hb2
  go_upto_region 5 with fail
  obtain ⟨gc, hgc⟩ : ∃ gc, gc = w2.heap.size := ⟨_, rfl⟩
  have hgc3 : w.heap.size + 3 ≤ gc := by omega
  rw [← hgc]
  refine wp_later (gc + 1) ?_
  intro X hX hsX
  simp only [World.size_alloc, ← hgc] at hsX
  have hbX : Below (w.heap.size + 3) W X := (hS2.alloc (by omega) _).trans (hX.mono (by omega))
  have hcs0 : X.cell? ⟨w.heap.size, 0, none⟩ = some (.int .i64 r) := by rw [pcell hbX _ (by simp), hcW _ _ (by simp)]; simp [go_sem]
  have hcs1 : X.cell? ⟨w.heap.size, 1, none⟩ = some (.slice (some ad) n c) := by rw [pcell hbX _ (by simp), hcW _ _ (by simp)]; simp [go_sem]
  have hcy0 : X.cell? ⟨w.heap.size + 1, 0, none⟩ = some (.int .i64 r) := by rw [pcell hbX _ (by simp), hcW _ _ (by simp)]; simp [go_sem]
  have hcy1 : X.cell? ⟨w.heap.size + 1, 1, none⟩ = some (.slice (some ad') n c') := by rw [pcell hbX _ (by simp), hcW _ _ (by simp)]; simp [go_sem]
  have HGC : Hid (X.heap[gc]? = some (.cells #[.int .i64 0] 52 (0, 0))) := by
    show _ = _; rw [hX.block gc (by omega), hgc]; exact heap_alloc_new _ _
  have HXx := Lib.hid (HRx.out.below (hbX.mono (by omega)) (Nat.le_refl _))
  have HXy := Lib.hid (HRy.out.below (hbX.mono (by omega)) (Nat.le_refl _))
  have hl1 : w.heap.size < gc + 1 := by omega
  have hl2 : w.heap.size + 1 < gc + 1 := by omega
  clear hX hgc hz2 hs2
  go_cut [9] (fun s9 wx => ∃ (g : Nat) (V : Value) (rows : List Value), s9 = .pointer (some ⟨g, 0, none⟩) ∧ Hid (wx.heap[g]? = some (.cells #[.int .i64 r, V] 24 (0, 0))) ∧ Hid (OwnRowsL wx (gc + 1) V (zeroS n L) rows) ∧ Hid (Below (gc + 1) X wx) ∧ gc + 1 ≤ g)
  case first =>
    have hmx : (len0 xss < len0 yss ∧ L = len0 yss) ∨ (¬ len0 xss < len0 yss ∧ L = len0 xss) := by have := HLm.out; omega
    rcases hmx with ⟨hlt, hLe⟩ | ⟨hlt, hLe⟩
    · have e1 := eq_true hlt
      have e2 := eq_true (show (len0 xss : Int) < (len0 yss : Int) by omega)
      have e3 : max (len0 xss : Int) (len0 yss : Int) = (len0 yss : Int) := by omega
      have HLe := Lib.hid hLe
      clear hlt hLe
      go_region_held3 (fun w' => Below (gc + 1) X w' ∧ ∀ z : Addr, z.block < gc + 1 → w'.cell? z = X.cell? z)
        ((refine (fun h => ⟨h, pcell h⟩) ?_; repeat (first | assumption | exact Below.refl _ _ | (refine Below.drew ?_) | (refine Below.alloc ?_ (by first | omega | (simp; omega) | exact Nat.le_trans hsX (Below.size (by assumption)) | (simp only [World.size_drew, World.size_alloc]; exact Nat.le_trans hsX (Nat.le_succ_of_le (Below.size (by assumption))))) _) | (refine Below.setCell ?_ (by first | omega | (simp; omega) | exact Nat.le_trans hsX (Below.size (by assumption))) _))))
        (first
          | (go_at_call 22; (with_reducible refine (LENGTH_any r (some ad) n c xss _ B ?_ ?_ hn).mono ?_); (exact Below.ge ‹Below (gc + 1) X _ ∧ _› hsX (by omega)); (exact HXx.out.below ((‹Below (gc + 1) X _ ∧ _›).1.mono (by omega)) (Nat.le_refl _)); rintro e w7 ⟨rfl, hb7⟩; have hbS := Below.next (‹Below (gc + 1) X _ ∧ _›).1 hsX hb7; have hz7 := pcell hb7; have hy7 := fun b o => (bcell hb7).2 b o; have hs7 := hb7.size; (try simp only [World.size_alloc, World.size_drew, Nat.add_one_le_iff] at hs7); (try have hk7 : X.heap.size < w7.heap.size := by omega); (first | have hx9 := (hb7.block X.heap.size (by omega)).trans hx9 | have hx9 := (hb7.block X.heap.size (by simp)).trans (heap_alloc_new X (.cells #[.int .i64 0, .slice none 0 0] 24)) | skip))
          | (go_at_call 22; (with_reducible refine (LENGTH_any r (some ad') n c' yss _ B ?_ ?_ hn).mono ?_); (exact Below.ge ‹Below (gc + 1) X _ ∧ _› hsX (by omega)); (exact HXy.out.below ((‹Below (gc + 1) X _ ∧ _›).1.mono (by omega)) (Nat.le_refl _)); rintro e w7 ⟨rfl, hb7⟩; have hbS := Below.next (‹Below (gc + 1) X _ ∧ _›).1 hsX hb7; have hz7 := pcell hb7; have hy7 := fun b o => (bcell hb7).2 b o; have hs7 := hb7.size; (try simp only [World.size_alloc, World.size_drew, Nat.add_one_le_iff] at hs7); (try have hk7 : X.heap.size < w7.heap.size := by omega); (first | have hx9 := (hb7.block X.heap.size (by omega)).trans hx9 | have hx9 := (hb7.block X.heap.size (by simp)).trans (heap_alloc_new X (.cells #[.int .i64 0, .slice none 0 0] 24)) | skip))
          | (go_at_call 21; (with_reducible refine (BLANK_any r n (len0 yss) ?_ ?_ _).mono ?_); (omega); (omega); rintro e w8 ⟨v8, rfl, ho8, hb8⟩; obtain ⟨A8, c8, rfl, _, _⟩ := ho8.form; have hbS8 := Below.next (‹Below (gc + 1) X _ ∧ _›).1 hsX hb8; have hz8 := pcell hb8; have hy8 := fun b o => (bcell hb8).2 b o; have hs8 := hb8.size; (try simp only [World.size_alloc, Nat.add_one_le_iff] at hs8)))
      all_goals (go_wp2_with fail; go_meet)
      all_goals (try rw [HLe.out])
      · obtain ⟨rows, hL2⟩ := ho8
        have hq8 := hbS8.size
        have hq7 := hbS.size
        have hq3 := hsX
        exact ⟨w8.heap.size, _, rows, rfl, heap_alloc_new _ _, (hL2.alloc _).base (by first | omega | (simp; omega)), hbS8.alloc (by omega) _, by omega⟩
      all_goals
        obtain ⟨rows, hL2⟩ := ho8
        have hq8 := hbS8.size
        have hq7 := hbS.size
        have hq3 := hsX
        first
          | have hx := (hb8.block _ (by simp)).trans (heap_alloc_new _ (.cells #[.int .i64 0, .slice none 0 0] 24))
          | have hx := (hb8.block _ (by first | (simp; done) | omega | (simp; omega))).trans ((hb7.block _ (by simp)).trans (heap_alloc_new _ (.cells #[.int .i64 0, .slice none 0 0] 24)))
          | have hx := (hb8.block X.heap.size (by first | (simp; done) | omega | (simp; omega))).trans hx9
        exact ⟨_, _, rows, rfl, heap_set2 hx, (hL2.base (by first | omega | (simp; omega))).set2_far hx (by decide) (by decide) _ _, set2_below hbS8 (by first | omega | (simp; omega)), by first | omega | (simp; omega)⟩
    · have e1 := eq_false hlt
      have e2 := eq_false (show ¬ (len0 xss : Int) < (len0 yss : Int) by omega)
      have e3 : max (len0 xss : Int) (len0 yss : Int) = (len0 xss : Int) := by omega
      have HLe := Lib.hid hLe
      clear hlt hLe
      go_region_held3 (fun w' => Below (gc + 1) X w' ∧ ∀ z : Addr, z.block < gc + 1 → w'.cell? z = X.cell? z)
        ((refine (fun h => ⟨h, pcell h⟩) ?_; repeat (first | assumption | exact Below.refl _ _ | (refine Below.drew ?_) | (refine Below.alloc ?_ (by first | omega | (simp; omega) | exact Nat.le_trans hsX (Below.size (by assumption)) | (simp only [World.size_drew, World.size_alloc]; exact Nat.le_trans hsX (Nat.le_succ_of_le (Below.size (by assumption))))) _) | (refine Below.setCell ?_ (by first | omega | (simp; omega) | exact Nat.le_trans hsX (Below.size (by assumption))) _))))
        (first
          | (go_at_call 22; (with_reducible refine (LENGTH_any r (some ad) n c xss _ B ?_ ?_ hn).mono ?_); (exact Below.ge ‹Below (gc + 1) X _ ∧ _› hsX (by omega)); (exact HXx.out.below ((‹Below (gc + 1) X _ ∧ _›).1.mono (by omega)) (Nat.le_refl _)); rintro e w7 ⟨rfl, hb7⟩; have hbS := Below.next (‹Below (gc + 1) X _ ∧ _›).1 hsX hb7; have hz7 := pcell hb7; have hy7 := fun b o => (bcell hb7).2 b o; have hs7 := hb7.size; (try simp only [World.size_alloc, World.size_drew, Nat.add_one_le_iff] at hs7); (try have hk7 : X.heap.size < w7.heap.size := by omega); (first | have hx9 := (hb7.block X.heap.size (by omega)).trans hx9 | have hx9 := (hb7.block X.heap.size (by simp)).trans (heap_alloc_new X (.cells #[.int .i64 0, .slice none 0 0] 24)) | skip))
          | (go_at_call 22; (with_reducible refine (LENGTH_any r (some ad') n c' yss _ B ?_ ?_ hn).mono ?_); (exact Below.ge ‹Below (gc + 1) X _ ∧ _› hsX (by omega)); (exact HXy.out.below ((‹Below (gc + 1) X _ ∧ _›).1.mono (by omega)) (Nat.le_refl _)); rintro e w7 ⟨rfl, hb7⟩; have hbS := Below.next (‹Below (gc + 1) X _ ∧ _›).1 hsX hb7; have hz7 := pcell hb7; have hy7 := fun b o => (bcell hb7).2 b o; have hs7 := hb7.size; (try simp only [World.size_alloc, World.size_drew, Nat.add_one_le_iff] at hs7); (try have hk7 : X.heap.size < w7.heap.size := by omega); (first | have hx9 := (hb7.block X.heap.size (by omega)).trans hx9 | have hx9 := (hb7.block X.heap.size (by simp)).trans (heap_alloc_new X (.cells #[.int .i64 0, .slice none 0 0] 24)) | skip))
          | (go_at_call 21; (with_reducible refine (BLANK_any r n (len0 xss) ?_ ?_ _).mono ?_); (omega); (omega); rintro e w8 ⟨v8, rfl, ho8, hb8⟩; obtain ⟨A8, c8, rfl, _, _⟩ := ho8.form; have hbS8 := Below.next (‹Below (gc + 1) X _ ∧ _›).1 hsX hb8; have hz8 := pcell hb8; have hy8 := fun b o => (bcell hb8).2 b o; have hs8 := hb8.size; (try simp only [World.size_alloc, Nat.add_one_le_iff] at hs8)))
      all_goals (go_wp2_with fail; go_meet)
      all_goals (try rw [HLe.out])
      · obtain ⟨rows, hL2⟩ := ho8
        have hq8 := hbS8.size
        have hq7 := hbS.size
        have hq3 := hsX
        exact ⟨w8.heap.size, _, rows, rfl, heap_alloc_new _ _, (hL2.alloc _).base (by first | omega | (simp; omega)), hbS8.alloc (by omega) _, by omega⟩
      all_goals
        obtain ⟨rows, hL2⟩ := ho8
        have hq8 := hbS8.size
        have hq7 := hbS.size
        have hq3 := hsX
        first
          | have hx := (hb8.block _ (by simp)).trans (heap_alloc_new _ (.cells #[.int .i64 0, .slice none 0 0] 24))
          | have hx := (hb8.block _ (by first | (simp; done) | omega | (simp; omega))).trans ((hb7.block _ (by simp)).trans (heap_alloc_new _ (.cells #[.int .i64 0, .slice none 0 0] 24)))
          | have hx := (hb8.block X.heap.size (by first | (simp; done) | omega | (simp; omega))).trans hx9
        exact ⟨_, _, rows, rfl, heap_set2 hx, (hL2.base (by first | omega | (simp; omega))).set2_far hx (by decide) (by decide) _ _, set2_below hbS8 (by first | omega | (simp; omega)), by first | omega | (simp; omega)⟩
  case rest =>
    obtain ⟨g, V, rows, rfl, hbox, hL, hb, hg⟩ := hcut
    obtain ⟨AV, cV, hVe, hcn1, hcn2⟩ := own_form hL.out.outer
    rw [zeroS_length] at hVe hcn1
    subst hVe
    obtain ⟨gv, hgv⟩ : ∃ gv, AV = some ⟨gv, 0, none⟩ := by
      have h1 := hL.out.outer
      rw [zeroS_length] at h1
      obtain ⟨gv, cap, e, _⟩ := own_slot h1 hn
      exact ⟨gv, by injection e⟩
    subst hgv
    obtain ⟨Y, hY⟩ : ∃ Y, clipS T = Y := ⟨_, rfl⟩
    have HYe : Hid (∀ a i, a < n → i < L → elOf (rowOf Y a) i = clipV (elOf (rowOf T a) i)) := fun a i ha hi => by rw [← hY]; exact clipS_el (by rw [HTl.out]; exact ha) (by rw [HTm.out a ha]; exact hi)
    rw [hY] at HY HYm
    have HYD := Lib.hid hY
    clear hY
    have HF0 : Hid (FillI gc X g (.int .i64 r) gv n cV rows wc (stage Y L 0 (List.replicate L 0))) := ⟨hb.out.mono (by omega), hbox.out, by rw [stage_start, HY.out]; exact hL.out.base (by omega), by omega⟩
    have HG0 : Hid (wc.heap[gc]? = some (.cells #[.int .i64 (cntK T 0 0)] 52 (0, 0))) := by show _ = _; rw [cntK_zero]; exact (hb.out.block gc (by omega)).trans HGC.out
    have hgne : g ≠ gc := by omega
    have hgx : gc ≤ X.heap.size := by omega
    have hw0 : w.heap.size < gc := by omega
    have hw1 : w.heap.size + 1 < gc := by omega
    have hw2 : w.heap.size + 1 + 1 < gc := by omega
    have hsi := fun (k : Nat) => True
    have hsz1 : (Try.prog.info? 3).map (·.size) = some 1 := by
      obtain ⟨i0, h0, _, h2, _⟩ := info_parts sint_info
      rw [h0]; simp [h2]
    have HSZ := Lib.hid hsz1
    have hcg0 := own_cell1 hbox.out 0
    have hcg1 := own_cell1 hbox.out 1
    simp at hcg0 hcg1
    clear hbox hL hb HGC hsz1 hsi
    go_wp2_with fail
    clear hcg0 hcg1
    go_loopw [37] (fun i wr => ∃ k : Nat, k ≤ n ∧ i = .int .i64 k ∧ Hid (FillI gc X g (.int .i64 r) gv n cV rows wr (stage Y L k (List.replicate L 0))) ∧ Hid (wr.heap[gc]? = some (.cells #[.int .i64 (cntK T k 0)] 52 (0, 0)))) (fun i _ => n - (intOf i).toNat)
    case atStart => exact ⟨0, Nat.zero_le _, rfl, HF0.out, HG0.out⟩
    case round =>
      obtain ⟨k, hk, rfl, hF, hGc⟩ := hrel
      by_cases hlt : k < n
      · have hkx : Hid (k < xss.length) := by show _ < _; have := hl.out; omega
        have hky : Hid (k < yss.length) := by show _ < _; have := hl'.out; omega
        have hkY : Hid (k < Y.length) := by show _ < _; have := HY.out; omega
        obtain ⟨A3', n3', c3', hadB, hcell0, hn3', hc3', hi⟩ := hh.out.row hlt
        obtain ⟨A4', n4', c4', hadB', hcell0', hn4', hc4', hi'⟩ := hh'.out.row hlt
        obtain rfl : n3' = len0 xss := hi.1.symm.trans (hok.out.row hkx.out).1
        obtain rfl : n4' = len0 yss := hi'.1.symm.trans (hok'.out.row hky.out).1
        have hx' := Lib.hid hi
        have hy' := Lib.hid hi'
        have HC0 := Lib.hid hcell0
        have HC0' := Lib.hid hcell0'
        clear hi hi' hcell0 hcell0'
        unfold maxLen at hc3' hc4'
        have hbwX : Below w.heap.size w X := hbW.trans (hbX.mono (by omega))
        have hbr : Below B w wr := (hbwX.mono hB).trans (hF.out.below.mono (by omega))
        obtain ⟨A9, cap, hrk, hcap1, hcap2, hA9⟩ := fill_slice hF.out (by rw [stage_length]; exact hkY.out) (by rw [stage_at hkY.out]; simp : (rowOf (stage Y L k (List.replicate L 0)) k).length = L)
        have hrown := hF.out.own.inner k _ hrk
        rw [stage_at hkY.out, List.length_replicate] at hrown
        have hro := Lib.hid hrown
        have ho := hF.out.own.outer
        rw [stage_length, HY.out] at ho
        have hcv := (ho.cellAt k (by omega)).trans hrk
        have HR := Lib.hid hrk
        have hcd := (hbr.cell (p := ad.add k) (by rw [block_of_add]; omega)).trans HC0.out
        have hrd := Lib.hid (hx'.out.below hbr (Nat.le_refl _)).reads
        have hk0 : (0 : Int) ≤ (k : Int) := by omega
        have hkn : (k : Int) < (n : Int) := by omega
        have hzr := pcell hF.out.below
        unfold maxLen at hcap2
        clear hrown ho hrk hbr
        have hNr : gc ≤ wr.heap.size := Nat.le_trans hgx hF.out.below.size
        have HXl := Lib.hid (hok.out.row hkx.out).1
        have HYl9 := Lib.hid (hok'.out.row hky.out).1
        obtain ⟨F, hFd⟩ : ∃ F : Nat → Int, F = fun i => elOf (rowOf xss k) i + elOf (rowOf yss k) i := ⟨_, rfl⟩
        obtain ⟨G, hGd⟩ : ∃ G : Nat → Int, G = fun i => elOf (rowOf xss k) i := ⟨_, rfl⟩
        have HFd : Hid (∀ i, F i = elOf (rowOf xss k) i + elOf (rowOf yss k) i) := fun i => by rw [hFd]
        have HGd : Hid (∀ i, G i = elOf (rowOf xss k) i) := fun i => by rw [hGd]
        clear hFd hGd
        have hR0 : rowOf xss k ++ (List.replicate L (0 : Int)).drop (len0 xss) = rowIf F G L 0 := by
          have hl0 := HXl.out
          refine rowIf_is (by simp; omega) fun i hi => ?_
          rw [if_neg (by omega), HGd.out]
          by_cases h : i < len0 xss
          · rw [elOf_lt (by simp; omega), elOf_lt (by omega), List.getElem_append_left (by omega)]
          · rw [elOf_lt (by simp; omega), elOf_ge (xs := rowOf xss k) (by omega), List.getElem_append_right (by omega)]; simp
        have HCP : Hid (∀ w1 : World, w1.ownsRow gc 3 1 (.slice A9 L cap) L ((rowOf xss k).map (Value.int .i64) ++ ((List.replicate L (0 : Int)).map (Value.int .i64)).drop (len0 xss)) → wr.grownBy w1 (Value.slice A9 L cap).ownBlock →
            FillI gc X g (.int .i64 r) gv n cV rows w1 (stage Y L k (rowIf F G L 0)) ∧ w1.heap[gc]? = some (.cells #[.int .i64 (cntK T k 0)] 52 (0, 0))) := fun w1 h1 h2 => by
          rw [← List.map_drop, ← List.map_append, hR0] at h1
          have h3 := FillI.rewriteA hF.out hNr HR.out h2 rowIf_length h1
          rw [stage_set hkY.out] at h3
          refine ⟨h3, (h2.block gc (blk_lt hGc.out) (fun e => ?_)).trans hGc.out⟩
          exact own_ne_blk (hF.out.own.inner k _ HR.out) hGc.out (by decide) e.symm
        clear hR0
        go_wp2_with (with_reducible refine wpList_copy_row rfl (.tmp 42) (.tmp 47) 54 3 rfl Try.underlying54 HSZ.out A9 L cap A3' (len0 xss) c3' rfl rfl HLx gc _ hro.out B _ hrd.out (ones _) ?_; intro w1 j1 ho1 hg1; obtain ⟨hF1, hG1⟩ := HCP.out w1 ho1 hg1; have HF1 := Lib.hid hF1; have HG1 := Lib.hid hG1; have hz1 := pcell hF1.below; have hcd1 := (((hbwX.mono hB).trans (hF1.below.mono (show B ≤ gc by omega))).cell (p := ad'.add k) (by rw [block_of_add]; omega)).trans HC0'.out; clear ho1 hg1 hF1 hG1 hcd hcv hzr)
        have HTk : Hid (∀ i, i < L → elOf (rowOf T k) i = F i) := fun i hi => by rw [HTe.out k i hlt hi, HFd.out]
        clear hz1 hcd1 HCP hro hrd
        obtain ⟨wo, hwo⟩ : ∃ wo : World, wo = wr := ⟨_, rfl⟩
        rw [← hwo] at hF hGc hNr
        clear hwo
        go_loopw [55] (fun i wr => ∃ j : Nat, j ≤ len0 yss ∧ i = .int .i64 j ∧ Hid (FillI gc X g (.int .i64 r) gv n cV rows wr (stage Y L k (rowIf F G L j))) ∧ Hid (wr.heap[gc]? = some (.cells #[.int .i64 (cntK T k 0)] 52 (0, 0)))) (fun i _ => len0 yss - (intOf i).toNat)
        case atStart => exact ⟨0, Nat.zero_le _, rfl, HF1.out, HG1.out⟩
        case round =>
          obtain ⟨j, hj, rfl, hi, hg⟩ := hrel
          by_cases hjl : j < len0 yss
          · have hjL : j < L := by omega
            obtain ⟨b', rfl⟩ := hA9 (by omega)
            obtain ⟨ad4, rfl⟩ := hy'.out.addr (by omega)
            have hbi : Below B w wr := (hbwX.mono hB).trans (hi.out.below.mono (show B ≤ gc by omega))
            have hcy := ((hy'.out.below hbi (Nat.le_refl _)).at_ hjl).2
            have hcx := fill_elem hi.out HR.out hjL
            have hfz := (hi.out.elem HR.out hjL).2
            rw [stage_at hkY.out, rowIf_el hjL, if_neg (by omega)] at hcx
            obtain ⟨y1, y2⟩ := hok'.out.el hky.out hjl
            have hgb : -8388608 ≤ G j ∧ G j ≤ 8388607 := by
              rw [HGd.out]
              by_cases h : j < len0 xss
              · exact hok.out.el hkx.out h
              · rw [elOf_ge (by rw [HXl.out]; omega)]; omega
            obtain ⟨g1, g2⟩ := hgb
            have HV : Hid (F j = G j + elOf (rowOf yss k) j) := by show _ = _; rw [HFd.out, HGd.out]
            obtain ⟨x, hx⟩ : ∃ x, G j = x := ⟨_, rfl⟩
            obtain ⟨y, hy⟩ : ∃ y, elOf (rowOf yss k) j = y := ⟨_, rfl⟩
            rw [hx] at hcx g1 g2 HV
            rw [hy] at hcy y1 y2 HV
            have HI6 : Hid (FillI gc X g (.int .i64 r) gv n cV rows (wr.setCell ⟨b', j, none⟩ (.int .i64 (x + y))) (stage Y L k (rowIf F G L (j + 1)))) := by
              have := hi.out.set_ HR.out j (x + y)
              rw [stage_at hkY.out, rowIf_set hjL HV.out, stage_set hkY.out] at this
              exact this
            have HG6 := Lib.hid (FillI.clipblk hi.out hg.out HR.out j (.int .i64 (x + y)))
            have hj0 : (0 : Int) ≤ (j : Int) := by omega
            have hjn : (j : Int) < (len0 yss : Int) := by omega
            have hjn2 : (j : Int) < (L : Int) := by omega
            clear hx hy hbi
            go_wp2_with fail
            go_roundw
            case rel => exact ⟨j + 1, by omega, by go_num, HI6, HG6⟩
            case measure => simp [intOf]; omega
          · obtain rfl : j = len0 yss := by omega
            have hRT : rowIf F G L (len0 yss) = rowIf (fun i => clipV (F i)) F L 0 := by
              refine rowIf_is rowIf_length fun i hi => ?_
              rw [rowIf_el hi, if_neg (show ¬ i < 0 by omega)]
              by_cases h : i < len0 yss
              · rw [if_pos h]
              · rw [if_neg h, HGd.out, HFd.out, elOf_ge (xs := rowOf yss k) (by rw [HYl9.out]; omega), Int.add_zero]
            have hi2 := hi.out
            rw [hRT] at hi2
            have HI2 := Lib.hid hi2
            clear hRT hi2
            go_wp2_with fail
            go_loopw [70] (fun i wr => ∃ j : Nat, j ≤ L ∧ i = .int .i64 j ∧ Hid (FillI gc X g (.int .i64 r) gv n cV rows wr (stage Y L k (rowIf (fun i => clipV (F i)) F L j))) ∧ Hid (wr.heap[gc]? = some (.cells #[.int .i64 (cntK T k j)] 52 (0, 0)))) (fun i _ => L - (intOf i).toNat)
            case atStart => exact ⟨0, Nat.zero_le _, rfl, HI2.out, hg.out⟩
            case round =>
              obtain ⟨j, hj2, rfl, hi3, hg3⟩ := hrel
              by_cases hjl2 : j < L
              · obtain ⟨b', rfl⟩ := hA9 (by omega)
                have hcx := fill_elem hi3.out HR.out hjl2
                rw [stage_at hkY.out, rowIf_el hjl2, if_neg (by omega)] at hcx
                have hcb := cntK_bd (T := T) (m := L) (k := k) (j := j) HTr.out (by rw [HTl.out]; exact hn16) (by rw [HTl.out]; omega) (by omega)
                have HK : Hid (cntK T k (j + 1) = cntK T k j + clipN (F j)) := by show _ = _; rw [cntK_step (by rw [HTm.out k hlt]; exact hjl2), HTk.out j hjl2]
                have HFj : Hid ((fun i => clipV (F i)) j = clipV (F j)) := rfl
                have hNi : gc ≤ wr.heap.size := Nat.le_trans hgx hi3.out.below.size
                obtain ⟨x, hx⟩ : ∃ x, F j = x := ⟨_, rfl⟩
                obtain ⟨cc, hcc⟩ : ∃ cc, cntK T k j = cc := ⟨_, rfl⟩
                rw [hx] at hcx HK HFj
                rw [hcc] at hg3 hcb HK
                obtain ⟨cb1, cb2⟩ := hcb
                have HCL := Lib.hid (CLIPAT_any x cc gc cb1 (by omega) wr hg3)
                have hj0 : (0 : Int) ≤ (j : Int) := by omega
                have hjn : (j : Int) < (L : Int) := by omega
                clear hx hcc
                go_wp2_with fail
                refine HCL.out.mono ?_
                rintro e w5 ⟨rfl, hg5, hgr5⟩
                have hi5 := FillI.clip hi3.out hNi hg3.out (Nat.le_refl _) hgne hgr5
                have HI5 := Lib.hid hi5
                have hcx5 := fill_elem hi5 HR.out hjl2
                have hfz5 := (hi5.elem HR.out hjl2).2
                have HI6 : Hid (FillI gc X g (.int .i64 r) gv n cV rows (w5.setCell ⟨b', j, none⟩ (.int .i64 (clipV x))) (stage Y L k (rowIf (fun i => clipV (F i)) F L (j + 1)))) := by
                  have := hi5.set_ HR.out j (clipV x)
                  rw [stage_at hkY.out, rowIf_set hjl2 HFj.out, stage_set hkY.out] at this
                  exact this
                have HG6 : Hid ((w5.setCell ⟨b', j, none⟩ (.int .i64 (clipV x))).heap[gc]? = some (.cells #[.int .i64 (cntK T k (j + 1))] 52 (0, 0))) := by
                  show _ = _
                  rw [HK.out]
                  exact FillI.clipblk hi5 hg5 HR.out j _
                clear hi5 hg5 hgr5 hcx
                go_wp2_with fail
                go_roundw
                case rel => exact ⟨j + 1, by omega, by go_num, HI6, HG6⟩
                case measure => simp [intOf]; omega
              · obtain rfl : j = L := by omega
                have hRY : rowIf (fun i => clipV (F i)) F j j = rowOf Y k := by
                  refine (rowIf_is (HYm.out k hkY.out) fun i hi => ?_).symm
                  rw [if_pos hi, HYe.out k i hlt hi, HTk.out i hi]
                have hi4 := hi3.out
                rw [hRY, stage_next] at hi4
                have hg4 := hg3.out
                rw [cntK_next (by rw [HTl.out]; exact hlt) (HTm.out k hlt)] at hg4
                have HI4 := Lib.hid hi4
                have HG4 := Lib.hid hg4
                clear hRY hi4 hg4
                go_wp2_with fail
                go_roundw
                case rel => exact ⟨k + 1, by omega, by go_num, HI4, HG4⟩
                case measure => simp [intOf]; omega
      · obtain rfl : k = n := by omega
        have hI9 := hF.out
        rw [stage_end HY.out] at hI9
        have HI9 := Lib.hid hI9
        have hcc := cntK_all HTl.out
        rw [hcc] at hGc
        obtain ⟨cc, hcc9⟩ : ∃ cc, stS clipU 0 T = cc := ⟨_, rfl⟩
        have HCC := Lib.hid hcc9
        rw [hcc9] at hGc
        have hz := pcell hI9.below
        have hcg0 := own_cell1 hI9.box 0
        have hcg1 := own_cell1 hI9.box 1
        simp at hcg0 hcg1
        have hcgc := cell_of_one hGc.out
        have hxr : ∀ i, X.cell? ⟨w.heap.size + 1 + 1, i, none⟩ = W.cell? ⟨w.heap.size + 1 + 1, i, none⟩ := fun i => pcell hbX _ (by simp)
        have hcr0 : wr.cell? ⟨w.heap.size + 1 + 1, 0, none⟩ = some (.int .i64 0) := by rw [hz _ (by simp; omega), hxr, hcW _ _ (by simp)]; simp [go_sem]
        have hcr1 : wr.cell? ⟨w.heap.size + 1 + 1, 1, none⟩ = some (.slice none 0 0) := by rw [hz _ (by simp; omega), hxr, hcW _ _ (by simp)]; simp [go_sem]
        have hfr0 : wr.frozen? ⟨w.heap.size + 1 + 1, 0, none⟩ = false := by rw [(bcell hI9.below).2 _ _ (by omega), (bcell hbX).2 _ _ (by omega), hfW _ _ (by omega)]; simp [go_sem]
        have hfr1 : wr.frozen? ⟨w.heap.size + 1 + 1, 1, none⟩ = false := by rw [(bcell hI9.below).2 _ _ (by omega), (bcell hbX).2 _ _ (by omega), hfW _ _ (by omega)]; simp [go_sem]
        have hne1 : ¬ gc = w.heap.size + 1 + 1 := by omega
        have hne2 : ¬ w.heap.size + 1 + 1 = gc := by omega
        have hne3 : ¬ g = w.heap.size + 1 + 1 := by omega
        have hne4 : ¬ w.heap.size + 1 + 1 = g := by omega
        clear hI9 hcc hcc9 hz hxr
        go_wp2_with fail
        go_region
        go_wp2_with fail
        have HS := two_set wr (w.heap.size + 1 + 1) _ _ (.int .i64 r) (.slice (some ⟨gv, 0, none⟩) k cV) hcr0 hcr1
        refine fin_snd3 rfl rfl rfl HS.1 HS.2 ?_
        rw [HYD.out, HCC.out]
        have HY9 := HY.out
        have hbw9 : Below w.heap.size w wr := hbW.trans ((hbX.mono (by omega)).trans (HI9.out.below.mono (by omega)))
        refine ⟨_, rfl, ⟨rows, ?_⟩, (set2_below hbw9 (by omega)).drew⟩
        exact (((HI9.out.own.set_below (p := ⟨w.heap.size + 1 + 1, 0, none⟩) (by simp; omega) _).set_below (p := ⟨w.heap.size + 1 + 1, 1, none⟩) (by simp; omega) _).drew).base (by omega)
end Go.Proofs.Ytnhmhjhfoonakaa
