/- Cross, the sound's, where all is right. -/
import Derived.Test.YtpnbkkpbgpcgiaaCross1
import Derived.Test.YtpnbkkpbgpcgiaaMix2
import Derived.Test.YtpnbkkpbgpcgiaaCopy2
set_option linter.unusedSimpArgs false
set_option linter.unusedVariables false
namespace Go.Proofs.Ytpnbkkpbgpcgiaa
open Go.RowKit Go.Dw
attribute [local go_sem ↓] Go.wp_at_zero Go.wp_at_succ
theorem ints_take {w : World} {B n k : Nat} {A : Option Addr} {xs : List Int} (h : IntsAt w B A n xs) (hk : k ≤ n) : IntsAt w B A k (xs.take k) := by
  refine ⟨by rw [List.length_take, h.1]; omega, fun j hj => ?_⟩
  obtain ⟨ad, e, hb, hc⟩ := h.2 j (by omega)
  refine ⟨ad, e, hb, ?_⟩
  rw [hc]
  have : j < xs.length := by have := h.1; omega
  simp [elOf, List.getD, List.getElem?_take, hj]
/-- 'x[p:]' of a slice -/
theorem run_cutFrom {P : Program} (t e : TypeId) (ht : P.underlying t = some (.slice e)) (i : TypeInfo) (hi : P.info? e = some i) (h1 : i.size = 1) (A : Option Addr) (n c p : Nat) (hp : p ≤ n) (hq : n ≤ c) (W : World) :
    (Instr.slice t (.slice A n c) (some (.int .i64 p)) none none).run P W = .ok (.slice (cutA A c p) (n - p) (c - p)) W := by
  have he : P.elem t = e := by simp [Program.elem, ht]
  rw [run_slice_l (P := P) (w := W) t A n c (by rw [he]; exact ht) .i64 p (by omega) (by omega)]
  rw [he]
  simp [sizeOf, typeInfo, hi, h1, sliced, cutA, go_sem]
theorem wpList_copy_off {P : Program} {w : World} {ops : Array Oper} {rest : List Oper} {o : Oper} {a : Act} {Q : Exit → Act → World → Prop} (hgd : o.guard = none) (d s : Operand) (T e : TypeId)
    (ho : o.op = .call { callee := .builtin .copy, args := #[d, s], argTypes := #[T, T] }) (hu : P.underlying T = some (.slice e)) (hsz : (P.info? e).map (·.size) = some 1)
    (A : Option Addr) (m cap off : Nat) (sp : Option Addr) (n sCap : Nat) (hd : a.eval d = .slice (cutA A cap off) (m - off) (cap - off)) (hs : a.eval s = .slice sp n sCap) (hoff : off + n ≤ m) (hmc : m ≤ cap)
    (base : Nat) (ds : List Value) (hown : w.ownsRow base e 1 (.slice A m cap) m ds) (B : Nat) (cs : List Value) (hr : Reads w B 1 sp n cs) (h1 : ∀ v ∈ cs, v.oneCell' = true)
    (h : ∀ w' j, w'.ownsRow base e 1 (.slice A m cap) m (ds.take off ++ (cs ++ ds.drop (off + n))) → w.grownBy w' (Value.slice A m cap).ownBlock → wpList P ops Q rest (a.put o.dst (goInt j)) w') : wpList P ops Q (o :: rest) a w :=
  wpList_plain hgd fun _ hK => wp_copy_off d s T e ho hu hsz A m cap off sp n sCap hd hs hoff hmc base ds hown B cs hr h1 fun w' j h1 h2 => hK _ _ (h w' j h1 h2)
theorem cross_row0 {xr yr : List Int} {fr L : Nat} {Yf : Nat → Int} (hx : fr ≤ xr.length) (hL : fr + yr.length = L) (hY : ∀ i, i < fr → Yf i = elOf xr i) :
    (xr.take fr ++ (List.replicate L (0 : Int)).drop fr).take fr ++ (yr ++ (xr.take fr ++ (List.replicate L (0 : Int)).drop fr).drop (fr + yr.length)) = rowIf Yf (fun i => elOf yr (i - fr)) L fr := by
  have e1 : (xr.take fr ++ (List.replicate L (0 : Int)).drop fr).take fr = xr.take fr := by
    rw [List.take_append_of_le_length (by simp; omega), List.take_take, Nat.min_self]
  have e2 : (xr.take fr ++ (List.replicate L (0 : Int)).drop fr).drop (fr + yr.length) = [] := List.drop_eq_nil_of_le (by simp; omega)
  rw [e1, e2, List.append_nil]
  refine rowIf_is (by simp; omega) fun i hi => ?_
  by_cases h : i < fr
  · rw [if_pos h, hY i h, elOf_lt (by simp; omega), elOf_lt (by omega), List.getElem_append_left (by simp; omega)]; simp
  · rw [if_neg h, elOf_lt (by simp; omega), elOf_lt (by omega), List.getElem_append_right (by simp; omega)]
    congr 1; simp; omega
set_option maxRecDepth 100000 in
set_option maxHeartbeats 4000000 in
theorem CROSS_ok (r : Int) (ad ad' : Addr) (n c c' m : Nat) (sh : Int) (xss yss : List (List Int)) (hc : Hid (both2 r r xss yss = 0)) (hok : Hid (OkS r xss)) (hok' : Hid (OkS r yss)) (hma : m ≤ len0 xss) (hmb : m ≤ len0 yss) (hs : Hid (shB sh = true)) (hLL : len0 xss + len0 yss - m ≤ 100000) (w : World) (B : Nat) (hB : B ≤ w.heap.size) (hh : Hid (RowsAt w B (some ad) n xss)) (hh' : Hid (RowsAt w B (some ad') n yss)) :
    Calls Try.prog 55 #[.agg #[.int .i64 r, .slice (some ad) n c], .agg #[.int .i64 r, .slice (some ad') n c'], .int .i64 m, .int .i64 sh] w (OutS3 w r (clipS (crT xss yss m sh)) (stS clipU 0 (crT xss yss m sh)) 0) := by
  have hl := Lib.hid hh.out.1
  have hl' := Lib.hid hh'.out.1
  have hn16 : n ≤ 16 := by have := hok.out.few; have := hl.out; omega
  have hn : 0 < n := by have := hok.out.some; have := hl.out; omega
  have hm := hok.out.long
  have hm' := hok'.out.long
  have hq : (both2 r r xss yss != 0) = false := by rw [hc.out]; rfl
  have d1 : decide ((m : Int) < 0) = false := by simp
  have h1 : ¬ (len0 xss : Int) < (m : Int) := by omega
  have h2 : ¬ (len0 yss : Int) < (m : Int) := by omega
  obtain ⟨L, hL⟩ : ∃ L, L = len0 xss + len0 yss - m := ⟨_, rfl⟩
  have hL9 : L ≤ 100000 := by omega
  have hLI : (len0 xss : Int) + (len0 yss : Int) - (m : Int) = (L : Int) := by omega
  have h3 : ¬ (100000 : Int) < (L : Int) := by omega
  have HW1 := Lib.hid (IntWalk.i64_in ((len0 xss : Int) + (len0 yss : Int)) (by omega))
  have HW2 : Hid (IntKind.i64.wrap ((len0 xss : Int) + (len0 yss : Int) - (m : Int)) = (L : Int)) := by show _ = _; rw [hLI]; exact IntWalk.i64_in _ (by omega)
  have HBL : Hid (∀ w, Calls Try.prog 59 #[.int .i64 r, .int .i64 n, .int .i64 (IntKind.i64.wrap (IntKind.i64.wrap ((len0 xss : Int) + (len0 yss : Int)) - (m : Int)))] w (OutS1 w r (zeroS n L))) := fun w => by rw [HW1.out, HW2.out]; exact BLANK_any r n L (by omega) (by omega) w
  obtain ⟨T, hT⟩ : ∃ T, crT xss yss m sh = T := ⟨_, rfl⟩
  have HTl : Hid (T.length = n) := by show _ = _; rw [← hT]; exact mtx_length.trans hl.out
  have HTm : Hid (∀ a, a < n → (rowOf T a).length = L) := fun a ha => by rw [← hT, hL]; exact mtx_len (by rw [hl.out]; exact ha)
  have HTe : Hid (∀ a i, a < n → i < L → elOf (rowOf T a) i = crV xss yss (len0 xss) m sh a i) := fun a i ha hi => by rw [← hT]; exact mtx_el (by rw [hl.out]; exact ha) (by rw [← hL]; exact hi)
  have HTr : Hid (∀ t ∈ T, t.length = L) := by rw [← hT, hL]; exact mtx_rows
  have HY : Hid ((clipS T).length = n) := (clipS_length T).trans HTl.out
  have HYm : Hid (∀ a, a < (clipS T).length → (rowOf (clipS T) a).length = L) := fun a ha => by
    rw [clipS_length] at ha; rw [clipS_len ha]; exact HTm.out a (by rw [← HTl.out]; exact ha)
  rw [hT]
  have HLx : len0 xss ≤ L := by omega
  have HLy : len0 yss ≤ L := by omega
  have HLd := Lib.hid hL
  have HLe : Hid (L = L) := rfl
  clear hT hL hLI
  go_enter Try.func55, Try.ntmps55
  go_wp2_with fail
  refine calls_later (w.heap.size + 3) ?_
  intro W hW hsW
  obtain ⟨hcW, hfW⟩ := bcell hW
  simp only [World.size_alloc] at hsW
  have hbW : Below w.heap.size w W := ((((Below.refl _ w).alloc (Nat.le_refl _) _).alloc (by simp) _).alloc (by simp; omega) _).trans (hW.mono (by omega))
  have HRx : Hid (RowsAt W B (some ad) n xss) := hh.out.below hbW hB
  have HRy : Hid (RowsAt W B (some ad') n yss) := hh'.out.below hbW hB
  refine (CHECKBOTH_any r r (some ad) (some ad') n n c c' xss yss _ B (by omega) (hh.out.below hbW hB) (hh'.out.below hbW hB)).mono ?_
  rintro e w2 ⟨rfl, hb2⟩
  have hS2 : Below (w.heap.size + 3) W w2 := hb2.mono hsW
  have hz2 := pcell hS2
  have hy2 := (bcell hS2).2
  clear hb2
  go_wp2_with fail
  refine (LENGTH_any r (some ad) n c xss _ B (by have := hS2.size; omega) (HRx.out.below (hS2.mono (by omega)) (Nat.le_refl _)) hn).mono ?_
  rintro e w3 ⟨rfl, hb3⟩
  have hS3 := Below.next hS2 hsW hb3
  clear hz2 hy2 hb3
  have hz3 := pcell hS3
  have hy3 := (bcell hS3).2
  go_wp2_with fail
  refine (LENGTH_any r (some ad') n c' yss _ B (by have := hS3.size; omega) (HRy.out.below (hS3.mono (by omega)) (Nat.le_refl _)) hn).mono ?_
  rintro e w4 ⟨rfl, hb4⟩
  have hS4 := Below.next hS3 hsW hb4
  clear hz3 hy3 hb4
  have hz4 := pcell hS4
  have hy4 := (bcell hS4).2
  go_wp2_with fail
  refine (ISSHAPE_eq sh true hs _).mono ?_
  rintro e w' ⟨rfl, rfl⟩
  go_wp2_with fail
  go_region_held3 (fun w' => Below (w.heap.size + 3) W w' ∧ ∀ z : Addr, z.block < w.heap.size + 3 → w'.cell? z = W.cell? z)
    ((refine (fun h => ⟨h, pcell h⟩) ?_; repeat (first | assumption | exact Below.refl _ _ | (refine Below.drew ?_) | (refine Below.alloc ?_ (by first | omega | (simp; omega) | exact Nat.le_trans hsW (Below.size (by assumption)) | (simp only [World.size_drew, World.size_alloc]; exact Nat.le_trans hsW (Nat.le_succ_of_le (Below.size (by assumption))))) _) | (refine Below.setCell ?_ (by first | omega | (simp; omega) | exact Nat.le_trans hsW (Below.size (by assumption))) _))))
    (first
      | (go_at_call 58; (with_reducible refine (LENGTH_any r (some ad) n c xss _ B ?_ ?_ hn).mono ?_); (exact Below.ge ‹Below (w.heap.size + 3) W _ ∧ _› hsW (by omega)); (exact HRx.out.below ((‹Below (w.heap.size + 3) W _ ∧ _›).1.mono (by omega)) (Nat.le_refl _)); rintro e w7 ⟨rfl, hb7⟩; have hbS := Below.next (‹Below (w.heap.size + 3) W _ ∧ _›).1 hsW hb7)
      | (go_at_call 58; (with_reducible refine (LENGTH_any r (some ad') n c' yss _ B ?_ ?_ hn).mono ?_); (exact Below.ge ‹Below (w.heap.size + 3) W _ ∧ _› hsW (by omega)); (exact HRy.out.below ((‹Below (w.heap.size + 3) W _ ∧ _›).1.mono (by omega)) (Nat.le_refl _)); rintro e w7 ⟨rfl, hb7⟩; have hbS := Below.next (‹Below (w.heap.size + 3) W _ ∧ _›).1 hsW hb7))
  rw [HW1.out, HW2.out]
  clear hz4 hy4
  have hS9 := hbS
  have hz9 := pcell hS9
  have hs9 := hS9.size
  go_upto_region 11 with fail
  obtain ⟨gc, hgc⟩ : ∃ gc, gc = w7.heap.size := ⟨_, rfl⟩
  have hgc3 : w.heap.size + 3 ≤ gc := by omega
  rw [← hgc]
  refine wp_later (gc + 1) ?_
  intro X hX hsX
  simp only [World.size_alloc, ← hgc] at hsX
  have hbX : Below (w.heap.size + 3) W X := (hS9.alloc (by omega) _).trans (hX.mono (by omega))
  have hcs0 : X.cell? ⟨w.heap.size, 0, none⟩ = some (.int .i64 r) := by rw [pcell hbX _ (by simp), hcW _ _ (by simp)]; simp [go_sem]
  have hcs1 : X.cell? ⟨w.heap.size, 1, none⟩ = some (.slice (some ad) n c) := by rw [pcell hbX _ (by simp), hcW _ _ (by simp)]; simp [go_sem]
  have hcy0 : X.cell? ⟨w.heap.size + 1, 0, none⟩ = some (.int .i64 r) := by rw [pcell hbX _ (by simp), hcW _ _ (by simp)]; simp [go_sem]
  have hcy1 : X.cell? ⟨w.heap.size + 1, 1, none⟩ = some (.slice (some ad') n c') := by rw [pcell hbX _ (by simp), hcW _ _ (by simp)]; simp [go_sem]
  have HGC : Hid (X.heap[gc]? = some (.cells #[.int .i64 0] 95 (0, 0))) := by
    show _ = _; rw [hX.block gc (by omega), hgc]; exact heap_alloc_new _ _
  have HXx := Lib.hid (HRx.out.below (hbX.mono (by omega)) (Nat.le_refl _))
  have HXy := Lib.hid (HRy.out.below (hbX.mono (by omega)) (Nat.le_refl _))
  have hl1 : w.heap.size < gc + 1 := by omega
  have hl2 : w.heap.size + 1 < gc + 1 := by omega
  clear hX hgc hz9 hs9 hbS
  go_cut [13] (fun s9 wx => ∃ (g : Nat) (V : Value) (rows : List Value), s9 = .pointer (some ⟨g, 0, none⟩) ∧ Hid (wx.heap[g]? = some (.cells #[.int .i64 r, V] 24 (0, 0))) ∧ Hid (OwnRowsL wx (gc + 1) V (zeroS n L) rows) ∧ Hid (Below (gc + 1) X wx) ∧ gc + 1 ≤ g)
  case first =>
    go_region_held3 (fun w' => Below (gc + 1) X w' ∧ ∀ z : Addr, z.block < gc + 1 → w'.cell? z = X.cell? z)
      ((refine (fun h => ⟨h, pcell h⟩) ?_; repeat (first | assumption | exact Below.refl _ _ | (refine Below.drew ?_) | (refine Below.alloc ?_ (by first | omega | (simp; omega) | exact Nat.le_trans hsX (Below.size (by assumption)) | (simp only [World.size_drew, World.size_alloc]; exact Nat.le_trans hsX (Nat.le_succ_of_le (Below.size (by assumption))))) _) | (refine Below.setCell ?_ (by first | omega | (simp; omega) | exact Nat.le_trans hsX (Below.size (by assumption))) _))))
      (first
        | (go_at_call 58; (with_reducible refine (LENGTH_any r (some ad) n c xss _ B ?_ ?_ hn).mono ?_); (exact Below.ge ‹Below (gc + 1) X _ ∧ _› hsX (by omega)); (exact HXx.out.below ((‹Below (gc + 1) X _ ∧ _›).1.mono (by omega)) (Nat.le_refl _)); rintro e w7 ⟨rfl, hb7⟩; have hbS := Below.next (‹Below (gc + 1) X _ ∧ _›).1 hsX hb7; have hz7 := pcell hb7; have hy7 := fun b o => (bcell hb7).2 b o; have hs7 := hb7.size; (try simp only [World.size_alloc, World.size_drew, Nat.add_one_le_iff] at hs7); (try have hk7 : X.heap.size < w7.heap.size := by omega); (first | have hx9 := (hb7.block X.heap.size (by omega)).trans hx9 | have hx9 := (hb7.block X.heap.size (by simp)).trans (heap_alloc_new X (.cells #[.int .i64 0, .slice none 0 0] 24)) | skip))
        | (go_at_call 58; (with_reducible refine (LENGTH_any r (some ad') n c' yss _ B ?_ ?_ hn).mono ?_); (exact Below.ge ‹Below (gc + 1) X _ ∧ _› hsX (by omega)); (exact HXy.out.below ((‹Below (gc + 1) X _ ∧ _›).1.mono (by omega)) (Nat.le_refl _)); rintro e w7 ⟨rfl, hb7⟩; have hbS := Below.next (‹Below (gc + 1) X _ ∧ _›).1 hsX hb7; have hz7 := pcell hb7; have hy7 := fun b o => (bcell hb7).2 b o; have hs7 := hb7.size; (try simp only [World.size_alloc, World.size_drew, Nat.add_one_le_iff] at hs7); (try have hk7 : X.heap.size < w7.heap.size := by omega); (first | have hx9 := (hb7.block X.heap.size (by omega)).trans hx9 | have hx9 := (hb7.block X.heap.size (by simp)).trans (heap_alloc_new X (.cells #[.int .i64 0, .slice none 0 0] 24)) | skip))
        | (go_at_call 59; (with_reducible refine (HBL.out _).mono ?_); rintro e w8 ⟨v8, rfl, ho8, hb8⟩; obtain ⟨A8, c8, rfl, _, _⟩ := ho8.form; have hbS8 := Below.next (‹Below (gc + 1) X _ ∧ _›).1 hsX hb8; have hz8 := pcell hb8; have hy8 := fun b o => (bcell hb8).2 b o; have hs8 := hb8.size; (try simp only [World.size_alloc, Nat.add_one_le_iff] at hs8)))
    all_goals (go_wp2_with fail; go_meet)
    all_goals (try rw [HLe.out])
    · obtain ⟨rows, hL2⟩ := ho8
      have hq8 := hbS8.size
      have hq7 := hbS.size
      have hq3 := hsX
      exact ⟨w8.heap.size, _, rows, rfl, heap_alloc_new _ _, (hL2.alloc _).base (by first | omega | (simp; omega)), hbS8.alloc (by omega) _, by omega⟩
    all_goals
      obtain ⟨rows, hL2⟩ := ho8
      have hq8 := hbS8.size
      have hq7 := hbS.size
      have hq3 := hsX
      first
        | have hx := (hb8.block _ (by simp)).trans (heap_alloc_new _ (.cells #[.int .i64 0, .slice none 0 0] 24))
        | have hx := (hb8.block _ (by first | (simp; done) | omega | (simp; omega))).trans ((hb7.block _ (by simp)).trans (heap_alloc_new _ (.cells #[.int .i64 0, .slice none 0 0] 24)))
        | have hx := (hb8.block X.heap.size (by first | (simp; done) | omega | (simp; omega))).trans hx9
      exact ⟨_, _, rows, rfl, heap_set2 hx, (hL2.base (by first | omega | (simp; omega))).set2_far hx (by decide) (by decide) _ _, set2_below hbS8 (by first | omega | (simp; omega)), by first | omega | (simp; omega)⟩
  case rest =>
    obtain ⟨g, V, rows, rfl, hbox, hL, hb, hg⟩ := hcut
    obtain ⟨AV, cV, hVe, hcn1, hcn2⟩ := own_form hL.out.outer
    rw [zeroS_length] at hVe hcn1
    subst hVe
    obtain ⟨gv, hgv⟩ : ∃ gv, AV = some ⟨gv, 0, none⟩ := by
      have h1 := hL.out.outer
      rw [zeroS_length] at h1
      obtain ⟨gv, cap, e, _⟩ := own_slot h1 hn
      exact ⟨gv, by injection e⟩
    subst hgv
    obtain ⟨Y, hY⟩ : ∃ Y, clipS T = Y := ⟨_, rfl⟩
    have HYe : Hid (∀ a i, a < n → i < L → elOf (rowOf Y a) i = clipV (elOf (rowOf T a) i)) := fun a i ha hi => by rw [← hY]; exact clipS_el (by rw [HTl.out]; exact ha) (by rw [HTm.out a ha]; exact hi)
    rw [hY] at HY HYm
    have HYD := Lib.hid hY
    clear hY
    have HF0 : Hid (FillI gc X g (.int .i64 r) gv n cV rows wc (stage Y L 0 (List.replicate L 0))) := ⟨hb.out.mono (by omega), hbox.out, by rw [stage_start, HY.out]; exact hL.out.base (by omega), by omega⟩
    have HG0 : Hid (wc.heap[gc]? = some (.cells #[.int .i64 (cntK T 0 0)] 95 (0, 0))) := by show _ = _; rw [cntK_zero]; exact (hb.out.block gc (by omega)).trans HGC.out
    have hgne : g ≠ gc := by omega
    have hgx : gc ≤ X.heap.size := by omega
    have hw0 : w.heap.size < gc := by omega
    have hw1 : w.heap.size + 1 < gc := by omega
    have hw2 : w.heap.size + 1 + 1 < gc := by omega
    have hsi := fun (k : Nat) => True
    have hsz1 : (Try.prog.info? 3).map (·.size) = some 1 := by
      obtain ⟨i0, h0, _, h2, _⟩ := info_parts int_info
      rw [h0]; simp [h2]
    have HSZ := Lib.hid hsz1
    have hcg0 := own_cell1 hbox.out 0
    have hcg1 := own_cell1 hbox.out 1
    simp at hcg0 hcg1
    have hb' := Lib.hid (hb.out)
    clear hbox hL hb HGC hsz1 hsi
    have hba0 : wc.cell? ⟨w.heap.size, 0, none⟩ = some (.int .i64 r) := (pcell hb'.out _ (by dsimp only; omega)).trans hcs0
    have hba1 : wc.cell? ⟨w.heap.size, 1, none⟩ = some (.slice (some ad) n c) := (pcell hb'.out _ (by dsimp only; omega)).trans hcs1
    go_wp2_with fail
    refine (LENGTH_any r (some ad) n c xss _ B (by have := hb'.out.size; have := hbX.size; omega) (HXx.out.below (hb'.out.mono (by omega)) (Nat.le_refl _)) hn).mono ?_
    rintro e w5 ⟨rfl, hb5⟩
    have HF1 := Lib.hid (HF0.out.next hgx hb5)
    have HG1 : Hid (w5.heap[gc]? = some (.cells #[.int .i64 (cntK T 0 0)] 95 (0, 0))) := (hb5.block gc (blk_lt HG0.out)).trans HG0.out
    obtain ⟨fr, hfr⟩ : ∃ fr : Nat, fr = len0 xss - m := ⟨_, rfl⟩
    have hfrI : (len0 xss : Int) - (m : Int) = (fr : Int) := by omega
    have HFR := Lib.hid hfr
    have HFRI := Lib.hid hfrI
    have hg0' := own_cell1 HF1.out.box 0
    have hg1' := own_cell1 HF1.out.box 1
    simp at hg0' hg1'
    clear hcg0 hcg1 hba0 hba1 HF0 HG0 hb5 hfr
    go_wp2_with fail
    clear hg0' hg1' hfrI
    go_loopw [77] (fun i wr => ∃ k : Nat, k ≤ n ∧ i = .int .i64 k ∧ Hid (FillI gc X g (.int .i64 r) gv n cV rows wr (stage Y L k (List.replicate L 0))) ∧ Hid (wr.heap[gc]? = some (.cells #[.int .i64 (cntK T k 0)] 95 (0, 0)))) (fun i _ => n - (intOf i).toNat)
    case atStart => exact ⟨0, Nat.zero_le _, rfl, HF1.out, HG1.out⟩
    case round =>
      obtain ⟨k, hk, rfl, hF, hGc⟩ := hrel
      by_cases hlt : k < n
      · have hkx : Hid (k < xss.length) := by show _ < _; have := hl.out; omega
        have hky : Hid (k < yss.length) := by show _ < _; have := hl'.out; omega
        have hkY : Hid (k < Y.length) := by show _ < _; have := HY.out; omega
        obtain ⟨A3', n3', c3', hadB, hcell0, hn3', hc3', hi⟩ := hh.out.row hlt
        obtain ⟨A4', n4', c4', hadB', hcell0', hn4', hc4', hi'⟩ := hh'.out.row hlt
        obtain rfl : n3' = len0 xss := hi.1.symm.trans (hok.out.row hkx.out).1
        obtain rfl : n4' = len0 yss := hi'.1.symm.trans (hok'.out.row hky.out).1
        have hx' := Lib.hid hi
        have hy' := Lib.hid hi'
        have HC0 := Lib.hid hcell0
        have HC0' := Lib.hid hcell0'
        clear hi hi' hcell0 hcell0'
        unfold maxLen at hc3' hc4'
        have hbwX : Below w.heap.size w X := hbW.trans (hbX.mono (by omega))
        have hbr : Below B w wr := (hbwX.mono hB).trans (hF.out.below.mono (by omega))
        obtain ⟨A9, cap, hrk, hcap1, hcap2, hA9⟩ := fill_slice hF.out (by rw [stage_length]; exact hkY.out) (by rw [stage_at hkY.out]; simp : (rowOf (stage Y L k (List.replicate L 0)) k).length = L)
        have hrown := hF.out.own.inner k _ hrk
        rw [stage_at hkY.out, List.length_replicate] at hrown
        have hro := Lib.hid hrown
        have ho := hF.out.own.outer
        rw [stage_length, HY.out] at ho
        have hcv := (ho.cellAt k (by omega)).trans hrk
        have HR := Lib.hid hrk
        have hcd := (hbr.cell (p := ad.add k) (by rw [block_of_add]; omega)).trans HC0.out
        have hfle : fr ≤ len0 xss := by have := HFR.out; omega
        have hrd := Lib.hid (ints_take (hx'.out.below hbr (Nat.le_refl _)) hfle).reads
        have hk0 : (0 : Int) ≤ (k : Int) := by omega
        have hkn : (k : Int) < (n : Int) := by omega
        have hfc : (fr : Int) ≤ (c3' : Int) := by omega
        have hf0 : (0 : Int) ≤ (fr : Int) := by omega
        have hzr := pcell hF.out.below
        unfold maxLen at hcap2
        clear hrown ho hrk hbr
        have hNr : gc ≤ wr.heap.size := Nat.le_trans hgx hF.out.below.size
        have HXl := Lib.hid (hok.out.row hkx.out).1
        have HYl9 := Lib.hid (hok'.out.row hky.out).1
        obtain ⟨R0, hR0⟩ : ∃ R0, (rowOf xss k).take fr ++ (List.replicate L (0 : Int)).drop fr = R0 := ⟨_, rfl⟩
        have hfL : fr + len0 yss = L := by have := HFR.out; have := HLd.out; omega
        have HR0l : Hid (R0.length = L) := by show _ = _; rw [← hR0]; have := HXl.out; simp; omega
        have HR0 := Lib.hid hR0
        have HCP : Hid (∀ w1 : World, w1.ownsRow gc 3 1 (.slice A9 L cap) L (((rowOf xss k).take fr).map (Value.int .i64) ++ ((List.replicate L (0 : Int)).map (Value.int .i64)).drop fr) → wr.grownBy w1 (Value.slice A9 L cap).ownBlock →
            FillI gc X g (.int .i64 r) gv n cV rows w1 (stage Y L k R0) ∧ w1.heap[gc]? = some (.cells #[.int .i64 (cntK T k 0)] 95 (0, 0))) := fun w1 h1 h2 => by
          rw [← List.map_drop, ← List.map_append, HR0.out] at h1
          have h3 := FillI.rewriteA hF.out hNr HR.out h2 HR0l.out h1
          rw [stage_set hkY.out] at h3
          refine ⟨h3, (h2.block gc (blk_lt hGc.out) (fun e => ?_)).trans hGc.out⟩
          exact own_ne_blk (hF.out.own.inner k _ HR.out) hGc.out (by decide) e.symm
        have HfL := Lib.hid hfL
        have hfL2 : fr ≤ L := by omega
        have hfLI : (fr : Int) ≤ (L : Int) := by omega
        clear hR0 hfL
        go_wp2_with (with_reducible refine wpList_copy_row rfl (.tmp 82) (.tmp 89) 30 3 rfl Try.underlying30 HSZ.out A9 L cap A3' fr c3' rfl rfl hfL2 gc _ hro.out B _ hrd.out (ones _) ?_; intro w1 j1 ho1 hg1; obtain ⟨hF1, hG1⟩ := HCP.out w1 ho1 hg1; have HF1 := Lib.hid hF1; have HG1 := Lib.hid hG1; have hz1 := pcell hF1.below; have hcd1 := (((hbwX.mono hB).trans (hF1.below.mono (show B ≤ gc by omega))).cell (p := ad'.add k) (by rw [block_of_add]; omega)).trans HC0'.out; clear ho1 hg1 hF1 hG1 hcd hcv hzr)
        go_upto_region 17 with fail
        have hS : (w1.cell? ⟨w.heap.size + 1, 1, none⟩ = some (.slice (some ad') n c') ∧ w1.cell? (ad'.add k) = some (.slice A4' (len0 yss) c4')) := ⟨(hz1 _ (by dsimp only; omega)).trans hcy1, hcd1⟩
        have HRO1 : Hid (w1.drew.ownsRow gc 3 1 (.slice A9 L cap) L (R0.map (Value.int .i64))) := by
          have h := HF1.out.own.inner k _ HR.out
          rw [stage_at hkY.out, HR0l.out] at h
          exact h
        have hb1w : Below B w w1.drew := ((hbwX.mono hB).trans (HF1.out.below.mono (show B ≤ gc by omega))).drew
        have HRD1 := Lib.hid (hy'.out.below hb1w (Nat.le_refl _)).reads
        obtain ⟨G, hG9⟩ : ∃ G : Nat → Int, G = fun i => elOf (rowOf yss k) (i - fr) := ⟨_, rfl⟩
        obtain ⟨Yf, hY9⟩ : ∃ Yf : Nat → Int, Yf = fun i => elOf (rowOf Y k) i := ⟨_, rfl⟩
        have HGd : Hid (∀ i, G i = elOf (rowOf yss k) (i - fr)) := fun i => by rw [hG9]
        have HYf : Hid (∀ i, i < L → Yf i = clipV (elOf (rowOf T k) i)) := fun i hi => by rw [hY9]; exact HYe.out k i hlt hi
        have HYr : Hid (rowIf Yf G L L = rowOf Y k) := by
          refine (rowIf_is (HYm.out k hkY.out) fun i hi => ?_).symm
          rw [if_pos hi, hY9]
        have hfm : fr + m = len0 xss := by have := HFR.out; omega
        have Hfm := Lib.hid hfm
        have HTa : Hid (∀ i, i < fr → elOf (rowOf T k) i = elOf (rowOf xss k) i) := fun i hi => by
          rw [HTe.out k i hlt (by omega), crV_a (by omega)]
        have HTb : Hid (∀ i, fr + m ≤ i → i < L → elOf (rowOf T k) i = elOf (rowOf yss k) (i - fr)) := fun i h1 h2 => by
          rw [HTe.out k i hlt h2, crV_b hma (by omega), ← HFR.out]
        have HTx : Hid (∀ j, j < m → elOf (rowOf T k) (fr + j) = nearI (elOf (rowOf xss k) (fr + j) * facS sh ((m : Int) - 1 - j) m + elOf (rowOf yss k) j * facS sh j m) (((m : Int) + 1) * ((m : Int) + 1))) := fun j hj => by
          rw [HTe.out k (fr + j) hlt (by omega), HFR.out, crV_x hma hj]
        have HX0 : Hid (∀ i, i < len0 xss → -8388608 ≤ elOf (rowOf xss k) i ∧ elOf (rowOf xss k) i ≤ 8388607) := fun i hi => hok.out.el hkx.out hi
        have HY0 : Hid (∀ i, i < len0 yss → -8388608 ≤ elOf (rowOf yss k) i ∧ elOf (rowOf yss k) i ≤ 8388607) := fun i hi => hok'.out.el hky.out hi
        have HR1 : Hid (R0.take fr ++ ((rowOf yss k) ++ R0.drop (fr + len0 yss)) = rowIf Yf G L fr) := by
          show _ = _
          rw [← HR0.out, ← HYl9.out, hG9]
          refine cross_row0 (by rw [HXl.out]; omega) (by rw [HYl9.out]; exact HfL.out) fun i hi => ?_
          rw [HYf.out i (by omega), HTa.out i hi]
          have hb := HX0.out i (by omega)
          exact (clipN_smp hb.1 hb.2).2
        have HK1 : Hid (cntK T k 0 = cntK T k fr) := cntK_skip (Nat.zero_le _) (by rw [HTm.out k hlt]; omega) fun i _ hi => by
          rw [HTa.out i hi]; have hb := HX0.out i (by omega); exact (clipN_smp hb.1 hb.2).1
        have HK2 : Hid (cntK T k (fr + m) = cntK T k L) := cntK_skip (by omega) (by rw [HTm.out k hlt]; omega) fun i h1 h2 => by
          rw [HTb.out i h1 h2]; have hb := HY0.out (i - fr) (by have := HfL.out; omega); exact (clipN_smp hb.1 hb.2).1
        have HR2 : Hid (rowIf Yf G L (fr + m) = rowIf Yf G L L) := rowIf_is rowIf_length fun i hi => by
          rw [rowIf_el hi, if_pos hi]
          by_cases h : i < fr + m
          · rw [if_pos h]
          · rw [if_neg h, HGd.out, HYf.out i hi, HTb.out i (by omega) hi]
            have hb := HY0.out (i - fr) (by have := HfL.out; omega); exact (clipN_smp hb.1 hb.2).2.symm
        have HCP2 : Hid (∀ w2 : World, w2.ownsRow gc 3 1 (.slice A9 L cap) L ((R0.map (Value.int .i64)).take fr ++ ((rowOf yss k).map (Value.int .i64) ++ (R0.map (Value.int .i64)).drop (fr + len0 yss))) → w1.drew.grownBy w2 (Value.slice A9 L cap).ownBlock →
            FillI gc X g (.int .i64 r) gv n cV rows w2 (stage Y L k (rowIf Yf G L (fr + 0))) ∧ w2.heap[gc]? = some (.cells #[.int .i64 (cntK T k (fr + 0))] 95 (0, 0))) := fun w2 h1 h2 => by
          rw [← List.map_drop, ← List.map_take, ← List.map_append, ← List.map_append, HR1.out] at h1
          have h3 := FillI.rewriteA HF1.out.drew (Nat.le_trans hgx HF1.out.below.size) HR.out h2 rowIf_length h1
          rw [stage_set hkY.out] at h3
          refine ⟨h3, ?_⟩
          rw [Nat.add_zero, ← HK1.out]
          refine (h2.block gc (blk_lt HG1.out) (fun e => ?_)).trans HG1.out
          exact own_ne_blk (HF1.out.own.inner k _ HR.out) HG1.out (by decide) e.symm
        have hfy : fr + len0 yss ≤ L := Nat.le_of_eq HfL.out
        clear hG9 hY9
        obtain ⟨i0, hi0, _, hi2, _⟩ := info_parts int_info
        have HSL := Lib.hid (fun W => run_cutFrom (P := Try.prog) 30 3 Try.underlying30 i0 hi0 hi2 A9 L cap fr hfL2 hcap1 W)
        clear hi0 hi2
        refine wp_region_head 8 (fun w' => w'.cell? ⟨w.heap.size + 1, 1, none⟩ = some (.slice (some ad') n c') ∧ w'.cell? (ad'.add k) = some (.slice A4' (len0 yss) c4')) (by kernel_rfl) (by kernel_rfl) ?_
        refine HL.take (i := 0) (oi := _) (v := ?_) rfl (by kernel_rfl) (by kernel_rfl) (by decide) (fun _ _ _ h => h) (Or.inl ⟨by rfl, ?_⟩) hS ?_
        rotate_left
        · intro wz hwz
          try dsimp only at hwz
          go_simp
          try with_reducible rfl
        simp only [Act.put, List.setIfInBounds_toArray, List.set_cons_zero, List.set_cons_succ]
        refine HL.take (i := 1) (oi := _) (v := ?_) rfl (by kernel_rfl) (by kernel_rfl) (by decide) (fun _ _ _ h => h) (Or.inl ⟨by rfl, ?_⟩) hS ?_
        rotate_left
        · intro wz hwz
          try dsimp only at hwz
          go_simp
          try with_reducible rfl
        simp only [Act.put, List.setIfInBounds_toArray, List.set_cons_zero, List.set_cons_succ]
        refine HL.take (i := 2) (oi := _) (v := .slice (cutA A9 cap fr) (L - fr) (cap - fr)) rfl (by kernel_rfl) (by kernel_rfl) (by decide) (fun _ _ _ h => h) (Or.inl ⟨by rfl, ?_⟩) hS ?_
        · intro wz hwz
          try dsimp only at hwz
          have h9 := HSL.out wz
          simp [go_sem, h9]
        simp only [Act.put, List.setIfInBounds_toArray, List.set_cons_zero, List.set_cons_succ]
        refine HL.take (i := 3) (oi := _) (v := ?_) rfl (by kernel_rfl) (by kernel_rfl) (by decide) (fun _ _ _ h => h) (Or.inl ⟨by rfl, ?_⟩) hS ?_
        rotate_left
        · intro wz hwz
          try dsimp only at hwz
          go_simp
          try with_reducible rfl
        simp only [Act.put, List.setIfInBounds_toArray, List.set_cons_zero, List.set_cons_succ]
        refine HL.take (i := 4) (oi := _) (v := ?_) rfl (by kernel_rfl) (by kernel_rfl) (by decide) (fun _ _ _ h => h) (Or.inl ⟨by rfl, ?_⟩) hS ?_
        rotate_left
        · intro wz hwz
          try dsimp only at hwz
          go_simp
          try with_reducible rfl
        simp only [Act.put, List.setIfInBounds_toArray, List.set_cons_zero, List.set_cons_succ]
        refine HL.take (i := 5) (oi := _) (v := ?_) rfl (by kernel_rfl) (by kernel_rfl) (by decide) (fun _ _ _ h => h) (Or.inl ⟨by rfl, ?_⟩) hS ?_
        rotate_left
        · intro wz hwz
          try dsimp only at hwz
          go_simp
          try with_reducible rfl
        simp only [Act.put, List.setIfInBounds_toArray, List.set_cons_zero, List.set_cons_succ]
        refine HL.take (i := 6) (oi := _) (v := ?_) rfl (by kernel_rfl) (by kernel_rfl) (by decide) (fun _ _ _ h => h) (Or.inl ⟨by rfl, ?_⟩) hS ?_
        rotate_left
        · intro wz hwz
          try dsimp only at hwz
          go_simp
          try with_reducible rfl
        simp only [Act.put, List.setIfInBounds_toArray, List.set_cons_zero, List.set_cons_succ]
        refine HL.take (i := 7) (oi := _) (v := ?_) rfl (by kernel_rfl) (by kernel_rfl) (by decide) (fun _ _ _ h => h) (Or.inl ⟨by rfl, ?_⟩) hS ?_
        rotate_left
        · intro wz hwz
          try dsimp only at hwz
          go_simp
          try with_reducible rfl
        simp only [Act.put, List.setIfInBounds_toArray, List.set_cons_zero, List.set_cons_succ]
        refine HL.done (by kernel_rfl) ?_
        clear hS
        simp only [List.drop_succ_cons, List.drop_zero]
        have HROd := HRO1.out
        have HRDd := HRD1.out
        go_simp
        go_wp2_with (with_reducible refine wpList_copy_off rfl (.tmp 93) (.tmp 98) 30 3 rfl Try.underlying30 HSZ.out A9 L cap fr A4' (len0 yss) c4' rfl rfl hfy hcap1 gc _ HROd B _ HRDd (ones _) ?_; intro w3 j3 ho3 hg3; obtain ⟨hF3, hG3⟩ := HCP2.out w3 ho3 hg3; have HF3 := Lib.hid hF3; have HG3 := Lib.hid hG3; clear ho3 hg3 hF3 hG3)
        clear HROd HRDd HRD1 HRO1 HCP2 HCP hro hrd HF1 HG1 hcd1 hz1 HSL hb1w
        obtain ⟨wo, hwo⟩ : ∃ wo : World, wo = wr := ⟨_, rfl⟩
        rw [← hwo] at hF hGc hNr
        clear hwo
        go_wp2_with fail
        go_loopw [101] (fun i wr => ∃ j : Nat, j ≤ m ∧ i = .int .i64 j ∧ Hid (FillI gc X g (.int .i64 r) gv n cV rows wr (stage Y L k (rowIf Yf G L (fr + j)))) ∧ Hid (wr.heap[gc]? = some (.cells #[.int .i64 (cntK T k (fr + j))] 95 (0, 0)))) (fun i _ => m - (intOf i).toNat)
        case atStart => exact ⟨0, Nat.zero_le _, rfl, HF3.out, HG3.out⟩
        case round =>
          obtain ⟨j, hj, rfl, hi, hg⟩ := hrel
          by_cases hjm : j < m
          · have hjA : fr + j < len0 xss := by omega
            have hjB : j < len0 yss := by omega
            have hjL : fr + j < L := by omega
            obtain ⟨b', rfl⟩ := hA9 (by omega)
            obtain ⟨ad3, rfl⟩ := hx'.out.addr (by omega)
            obtain ⟨ad4, rfl⟩ := hy'.out.addr (by omega)
            have hbi : Below B w wr := (hbwX.mono hB).trans (hi.out.below.mono (show B ≤ gc by omega))
            have hxc := ((hx'.out.below hbi (Nat.le_refl _)).at_ hjA).2
            have hyc := ((hy'.out.below hbi (Nat.le_refl _)).at_ hjB).2
            have hzr := pcell hi.out.below
            have hca := (hbi.cell (p := ad.add k) (by rw [block_of_add]; omega)).trans HC0.out
            have hcb := (hbi.cell (p := ad'.add k) (by rw [block_of_add]; omega)).trans HC0'.out
            have hca1 : wr.cell? ⟨w.heap.size, 1, none⟩ = some (.slice (some ad) n c) := (hzr _ (by dsimp only; omega)).trans hcs1
            have hcb1 : wr.cell? ⟨w.heap.size + 1, 1, none⟩ = some (.slice (some ad') n c') := (hzr _ (by dsimp only; omega)).trans hcy1
            obtain ⟨x1, x2⟩ := HX0.out (fr + j) hjA
            obtain ⟨y1, y2⟩ := HY0.out j hjB
            have hm1 : (m : Int) ≤ 100000 := by omega
            have hj1 : (0 : Int) ≤ (m : Int) - 1 - (j : Int) := by omega
            have hj2 : (m : Int) - 1 - (j : Int) < (m : Int) := by omega
            have hj3 : (0 : Int) ≤ (j : Int) := by omega
            have hj4 : (j : Int) < (m : Int) := by omega
            obtain ⟨F1, F2, F3, F4, -⟩ := facS_bd (sh := sh) hj1 hj2 hm1
            obtain ⟨F5, F6, -, -, -⟩ := facS_bd (sh := sh) hj3 hj4 hm1
            have HFA : Hid (∀ w, Calls Try.prog 80 #[.int .i64 sh, .int .i64 ((m : Int) - 1 - (j : Int)), .int .i64 m] w fun e w' => e = .returned (.int .i64 (facS sh ((m : Int) - 1 - (j : Int)) m)) ∧ ∃ q', w' = w.drewN q') := fun w => (FACTOR_any sh ((m : Int) - 1 - (j : Int)) m hj1 hj2 hm1 w).mono fun e w' h => ⟨h.1, 0, h.2.symm⟩
            have HFB : Hid (∀ w, Calls Try.prog 80 #[.int .i64 sh, .int .i64 j, .int .i64 m] w fun e w' => e = .returned (.int .i64 (facS sh (j : Int) m)) ∧ ∃ q', w' = w.drewN q') := fun w => (FACTOR_any sh (j : Int) m hj3 hj4 hm1 w).mono fun e w' h => ⟨h.1, 0, h.2.symm⟩
            have HE := HTx.out j hjm
            obtain ⟨f, hf9⟩ : ∃ f, facS sh ((m : Int) - 1 - (j : Int)) m = f := ⟨_, rfl⟩
            obtain ⟨f', hf9'⟩ : ∃ f', facS sh (j : Int) m = f' := ⟨_, rfl⟩
            obtain ⟨x, hx9⟩ : ∃ x, elOf (rowOf xss k) (fr + j) = x := ⟨_, rfl⟩
            obtain ⟨y, hy9⟩ : ∃ y, elOf (rowOf yss k) j = y := ⟨_, rfl⟩
            obtain ⟨d, hd9⟩ : ∃ d, ((m : Int) + 1) * ((m : Int) + 1) = d := ⟨_, rfl⟩
            rw [hf9] at F1 F2 HFA HE
            rw [hf9'] at F5 F6 HFB HE
            rw [hx9] at x1 x2 HE hxc
            rw [hy9] at y1 y2 HE hyc
            rw [hd9] at F2 F3 F4 F6 HE
            obtain ⟨P1, P2, P3, P4⟩ := cross_bd x1 x2 y1 y2 F1 F2 F5 F6 F3
            have HW2 := Lib.hid (IntWalk.i64_in (x * f) (by omega))
            have HW2' := Lib.hid (IntWalk.i64_in (y * f') (by omega))
            have HW4 : Hid (IntKind.i64.wrap (((m : Int) + 1) * ((m : Int) + 1)) = d) := by show _ = _; rw [hd9]; exact IntWalk.i64_in _ (by omega)
            have HW5 := Lib.hid (IntWalk.i64_in (x * f + y * f') (by omega))
            have HNE := Lib.hid (fun w => NEAR_any (x * f + y * f') d F4 (by omega) (by omega) (by omega) w)
            obtain ⟨v, hv9⟩ : ∃ v, nearI (x * f + y * f') d = v := ⟨_, rfl⟩
            rw [hv9] at HE HNE
            have HK : Hid (cntK T k (fr + (j + 1)) = cntK T k (fr + j) + clipN v) := by show _ = _; rw [← Nat.add_assoc, cntK_step (by rw [HTm.out k hlt]; exact hjL), HE]
            have hcbd := cntK_bd (T := T) (m := L) (k := k) (j := fr + j) HTr.out (by rw [HTl.out]; exact hn16) (by rw [HTl.out]; omega) (by omega)
            have HVj : Hid (Yf (fr + j) = clipV v) := by show _ = _; rw [HYf.out _ hjL, HE]
            obtain ⟨cc, hcc⟩ : ∃ cc, cntK T k (fr + j) = cc := ⟨_, rfl⟩
            rw [hcc] at hg hcbd HK
            obtain ⟨cb1, cb2⟩ := hcbd
            have HIJ : Hid (IntKind.i64.wrap ((fr : Int) + (j : Int)) = ((fr + j : Nat) : Int)) := by show _ = _; rw [IntWalk.i64_in _ (by omega)]; omega
            obtain ⟨i, hi9⟩ : ∃ i, fr + j = i := ⟨_, rfl⟩
            have Hi9 := Lib.hid hi9
            rw [hi9] at HIJ hxc hjA hjL
            rw [hi9] at hi HVj
            have hi0 : (0 : Int) ≤ (i : Int) := by omega
            have hinx : (i : Int) < (len0 xss : Int) := by omega
            have hinL : (i : Int) < (L : Int) := by omega
            have hjy : (j : Int) < (len0 yss : Int) := by omega
            clear hf9 hf9' hx9 hy9 hd9 hv9 hcc hi9 HE F1 F2 F3 F5 F6 hzr hbi
            have hij := HIJ.out
            have hmf := HW2.out
            have hmf' := HW2'.out
            have hmx := HW5.out
            go_wp2_with fail
            go_quiet ((first
              | (go_at_call 80; (with_reducible refine Calls.quiet_of (HFA.out _)))
              | (go_at_call 80; (with_reducible refine Calls.quiet_of (HFB.out _)))))
            obtain ⟨wd, hwd⟩ : ∃ wd, wd = wr.drewN nq := ⟨_, rfl⟩
            have hi3 : Hid (FillI gc X g (.int .i64 r) gv n cV rows wd (stage Y L k (rowIf Yf G L i))) := by rw [hwd]; exact hi.out.drewN nq
            have hg3 : Hid (wd.heap[gc]? = some (.cells #[.int .i64 cc] 95 (0, 0))) := by rw [hwd]; exact hg.out
            rw [← hwd]
            clear hwd hi hg hca hcb hca1 hcb1 hxc hyc hmf hmf' hmx HFA HFB
            have hmd := HW4.out
            have hNi : gc ≤ wd.heap.size := Nat.le_trans hgx hi3.out.below.size
            have HCL := Lib.hid (CLIPAT_any v cc gc cb1 (by omega) wd hg3)
            go_wp2_with fail
            refine (HNE.out _).mono ?_
            rintro e w4 ⟨rfl, rfl⟩
            go_wp2_with fail
            refine HCL.out.mono ?_
            rintro e w5 ⟨rfl, hg5, hgr5⟩
            have hi5 := FillI.clip hi3.out hNi hg3.out (Nat.le_refl _) hgne hgr5
            have hcx5 := fill_elem hi5 HR.out hjL
            have hfz5 := (hi5.elem HR.out hjL).2
            have HI6 : Hid (FillI gc X g (.int .i64 r) gv n cV rows (w5.setCell ⟨b', i, none⟩ (.int .i64 (clipV v))) (stage Y L k (rowIf Yf G L (fr + (j + 1))))) := by
              have := hi5.set_ HR.out i (clipV v)
              rw [stage_at hkY.out, rowIf_set hjL HVj.out, stage_set hkY.out, ← Hi9.out, Nat.add_assoc] at this
              rw [← Hi9.out]
              exact this
            have HG6 : Hid ((w5.setCell ⟨b', i, none⟩ (.int .i64 (clipV v))).heap[gc]? = some (.cells #[.int .i64 (cntK T k (fr + (j + 1)))] 95 (0, 0))) := by
              show _ = _
              rw [HK.out]
              exact FillI.clipblk hi5 hg5 HR.out i _
            clear hi5 hg5 hgr5
            go_wp2_with fail
            go_roundw
            case rel => exact ⟨j + 1, by omega, by go_num, HI6, HG6⟩
            case measure => simp [intOf]; omega
          · obtain rfl : j = m := by omega
            have hi4 := hi.out
            rw [HR2.out, HYr.out, stage_next] at hi4
            have hg4 := hg.out
            rw [HK2.out, cntK_next (by rw [HTl.out]; exact hlt) (HTm.out k hlt)] at hg4
            have HI4 := Lib.hid hi4
            have HG4 := Lib.hid hg4
            clear hi4 hg4
            go_wp2_with fail
            go_roundw
            case rel => exact ⟨k + 1, by omega, by go_num, HI4, HG4⟩
            case measure => simp [intOf]; omega
      · obtain rfl : k = n := by omega
        have hI9 := hF.out
        rw [stage_end HY.out] at hI9
        have HI9 := Lib.hid hI9
        have hcc := cntK_all HTl.out
        rw [hcc] at hGc
        obtain ⟨cc, hcc9⟩ : ∃ cc, stS clipU 0 T = cc := ⟨_, rfl⟩
        have HCC := Lib.hid hcc9
        rw [hcc9] at hGc
        have hz := pcell hI9.below
        have hcg0 := own_cell1 hI9.box 0
        have hcg1 := own_cell1 hI9.box 1
        simp at hcg0 hcg1
        have hcgc := cell_of_one hGc.out
        have hxr : ∀ i, X.cell? ⟨w.heap.size + 1 + 1, i, none⟩ = W.cell? ⟨w.heap.size + 1 + 1, i, none⟩ := fun i => pcell hbX _ (by simp)
        have hcr0 : wr.cell? ⟨w.heap.size + 1 + 1, 0, none⟩ = some (.int .i64 0) := by rw [hz _ (by simp; omega), hxr, hcW _ _ (by simp)]; simp [go_sem]
        have hcr1 : wr.cell? ⟨w.heap.size + 1 + 1, 1, none⟩ = some (.slice none 0 0) := by rw [hz _ (by simp; omega), hxr, hcW _ _ (by simp)]; simp [go_sem]
        have hfr0 : wr.frozen? ⟨w.heap.size + 1 + 1, 0, none⟩ = false := by rw [(bcell hI9.below).2 _ _ (by omega), (bcell hbX).2 _ _ (by omega), hfW _ _ (by omega)]; simp [go_sem]
        have hfr1 : wr.frozen? ⟨w.heap.size + 1 + 1, 1, none⟩ = false := by rw [(bcell hI9.below).2 _ _ (by omega), (bcell hbX).2 _ _ (by omega), hfW _ _ (by omega)]; simp [go_sem]
        have hne1 : ¬ gc = w.heap.size + 1 + 1 := by omega
        have hne2 : ¬ w.heap.size + 1 + 1 = gc := by omega
        have hne3 : ¬ g = w.heap.size + 1 + 1 := by omega
        have hne4 : ¬ w.heap.size + 1 + 1 = g := by omega
        clear hI9 hcc hcc9 hz hxr
        go_wp2_with fail
        go_region
        go_wp2_with fail
        have HS := two_set wr (w.heap.size + 1 + 1) _ _ (.int .i64 r) (.slice (some ⟨gv, 0, none⟩) k cV) hcr0 hcr1
        refine fin_snd3 rfl rfl rfl HS.1 HS.2 ?_
        rw [HYD.out, HCC.out]
        have HY9 := HY.out
        have hbw9 : Below w.heap.size w wr := hbW.trans ((hbX.mono (by omega)).trans (HI9.out.below.mono (by omega)))
        refine ⟨_, rfl, ⟨rows, ?_⟩, (set2_below hbw9 (by omega)).drew⟩
        exact (((HI9.out.own.set_below (p := ⟨w.heap.size + 1 + 1, 0, none⟩) (by simp; omega) _).set_below (p := ⟨w.heap.size + 1 + 1, 1, none⟩) (by simp; omega) _).drew).base (by omega)
end Go.Proofs.Ytpnbkkpbgpcgiaa
