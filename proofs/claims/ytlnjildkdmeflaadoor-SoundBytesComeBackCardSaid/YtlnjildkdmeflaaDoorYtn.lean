/- take: a note. -/
import Derived.Test.YtlnjildkdmeflaaDoorYta
import Derived.Test.YtlnjildkdmeflaaDoorYbr
import Derived.Shelf.Strings.Cut
set_option linter.unusedSimpArgs false
set_option linter.unusedVariables false
namespace Go.Proofs.YtlnjildkdmeflaaDoor
open Go.RowKit Go.Dw
theorem SCUT8_any (c : UInt8) (s : ByteArray) (m : Int) (hs : s.size ≤ 8000000) (w : World) (hm : Hid (w.cell? ⟨0, 0, none⟩ = some (.int .i64 m))) :
    Calls Tryd.prog 30 #[.string s, .string ⟨#[c]⟩] w fun e w' => ∃ (l r : ByteArray) (ok : Bool), e = .returned (.tuple #[.string l, .string r, .bool ok]) ∧ Hid (Lib.cut s.data.toList [c] = (l.data.toList, r.data.toList, ok)) ∧ l.size ≤ s.size ∧ r.size ≤ s.size ∧ Below w.heap.size w w' := by
  refine (Tryd.strings_Cut s ⟨#[c]⟩ m w (by omega) hm.out).mono ?_
  rintro e w' ⟨rfl, q, rfl⟩
  have hl : (Lib.cut s.data.toList [c]).1.length ≤ s.size ∧ (Lib.cut s.data.toList [c]).2.1.length ≤ s.size := by
    rw [← len_dat]
    unfold Lib.cut
    split
    · rw [List.length_take, List.length_drop]; omega
    · simp
  exact ⟨_, _, _, rfl, rfl, by rw [← len_dat]; exact hl.1, by rw [← len_dat]; exact hl.2, belowN (Below.refl _ _) q⟩
theorem wp_push_note {o : Oper} {a : Act} {K : Act → World → Prop} {Q : Exit → Act → World → Prop} {w0 : World} (s x : Operand)
    (ho : o.op = .call { callee := .builtin .append, args := #[s, x], argTypes := #[25, 25] }) (base : Nat) (A : Option Addr) (n c : Nat) (bs : List Nx) (x1 x2 : ByteArray) (g0 : Nat) (hg0 : w0.heap.size = g0)
    (hs : a.eval s = .slice A n c) (hx : a.eval x = .slice (some ⟨g0, 0, none⟩) 1 1) (hown : OwnNts w0 base (.slice A n c) bs) (hn : n ≤ 1000000) (hb : base ≤ w0.heap.size)
    (h : ∀ g cap w', OwnNts w' base (.slice (some ⟨g, 0, none⟩) (n + 1) cap) (bs ++ [(x1, x2)]) → Below base w0 w' → w0.grownBy w' (Value.slice A n c).ownBlock → K (a.put o.dst (.slice (some ⟨g, 0, none⟩) (n + 1) cap)) w') :
    o.wp Tryd.prog a (w0.alloc (.cells #[.string x1, .string x2] 36)) K Q := by
  obtain ⟨i1, e0, e1, e2, e3⟩ := info_parts note_info
  subst hg0
  have hn' : n = bs.length := by
    obtain ⟨A', c', e, _, _⟩ := own_form hown
    injection e
  subst hn'
  refine wp_append_lies _ s x 25 ho base 36 i1 _ 2 32 Tryd.underlying25 e0 e1 e2 e3 rfl (by omega) (.slice A bs.length c) bs.length (nxsC bs) hs (World.ownsRow.alloc hown _) ⟨w0.heap.size, 0, none⟩ 1 1 (nxC (x1, x2)) hx rfl (fun j u hj => ?_) (by intro z hz; simp [nxC] at hz; rcases hz with rfl | rfl <;> rfl) (by omega) (by simp only [maxLen]; omega) (by omega) (by simp; omega) _ rfl ?_
  · rw [show (⟨w0.heap.size, 0, none⟩ : Addr).add j = ⟨w0.heap.size, j, none⟩ by unfold Addr.add; split <;> simp_all, World.cell?_alloc_new]
    simpa [nxC] using hj
  · intro g cap w' h1 h2 _ _
    refine h g cap w' ?_ ((((Below.refl base w0).alloc hb _).grown h2 (by simp; omega) (fun b e => (own_lt hown e).1))) ((World.grownBy_alloc w0 _ _).trans h2)
    unfold OwnNts
    rw [nxsC_snoc, List.length_append]
    exact h1
theorem nts_blk {w : World} {B : Nat} {u : Value} {l : List Nx} (h : OwnNts w B u l) : u.ownBlock = none ∨ ∃ j cs, u.ownBlock = some j ∧ w.heap[j]? = some (.cells cs 36 (0, 0)) := by
  have hh : w.ownsRow B 36 2 u l.length (nxsC l) := h
  rcases hh.2 with ⟨rfl, _⟩ | ⟨g, cap, cur, rfl, hb, hhp, _⟩
  · exact .inl rfl
  · exact .inr ⟨g, cur, rfl, hhp⟩
theorem own_rows_kept {w w' : World} {B B' : Nat} {v u : Value} {xss : List (List Int)} {l : List Nx} (h : OwnRows w B v xss) (hn : OwnNts w B' u l) (hg : w.grownBy w' u.ownBlock) : OwnRows w' B v xss := by
  obtain ⟨rows, hL⟩ := h
  have ne : ∀ {e : TypeId} {q : Value} {n : Nat} {xs : List Value}, e ≠ 36 → w.ownsRow B e 1 q n xs → q.ownBlock = none ∨ q.ownBlock ≠ u.ownBlock := by
    intro e q n xs he hq
    rcases nts_blk hn with h0 | ⟨j, cs, h0, h1⟩
    · cases hb : q.ownBlock with
      | none => exact .inl rfl
      | some k => right; rw [h0]; simp
    · right; rw [h0]; exact own_ne_blk hq h1 he
  exact ⟨rows, hL.outer.kept hg (ne (by decide) hL.outer), fun k r hr => (hL.inner k r hr).kept hg (ne (by decide) (hL.inner k r hr)), hL.apart⟩
theorem rd_push {w : World} {N g : Nat} {r : Int} {T b m : Nat} {l : List Nx} {v u u' : Value} (hN : N ≤ g) (hb : w.heap[g]? = some (.cells #[.int .i64 r, v, .int .i64 b, .int .i64 m, u, .bool false] 55 (0, 0))) (ho : OwnRows w N v (zeroS T m)) (hn : OwnNts w N u' l) :
    RdAt (w.setCell ⟨g, 4, none⟩ u') N g (.mid r T b m l) :=
  ⟨v, u', hN, heap_setCell_same w g 4 _ 55 u' hb, own_rows_far ho hb (by decide) (by decide) 4 u', own_far (p := ⟨g, 4, none⟩) hn (.inr (own_ne_blk hn hb (by decide))) _⟩
theorem own_rows_below {w w' : World} {B : Nat} {v : Value} {xss : List (List Int)} (h : OwnRows w B v xss) (hb : Below w.heap.size w w') : OwnRows w' B v xss := h.elim fun rows hL => ⟨rows, hL.below hb⟩
theorem strOf_strB (d : By) : strOf d = .string (strB d) := rfl
set_option maxRecDepth 100000 in
set_option maxHeartbeats 8000000 in
theorem RTAKE_note (N g : Nat) (r : Int) (T b m : Nat) (l : List Nx) (d : By) (s : ByteArray) (A : Option Addr) (n c : Nat) (hn8 : n ≤ 8000000) (w : World) (hN : N ≤ w.heap.size) (hb0 : 0 < b) (hb9 : b ≤ 1000) (hl50 : l.length ≤ 50) (hR : Hid (RdAt w N g (.mid r T b m l))) (hD : Hid (BysAt w N A n d))
    (hq2 : s.data.toList = [110, 111, 116, 101]) (m9 : Int) (hmN : 0 < w.heap.size) (hm9 : Hid (w.cell? ⟨0, 0, none⟩ = some (.int .i64 m9))) :
    Calls Tryd.prog 26 #[.pointer (some ⟨g, 0, none⟩), .agg #[.string s, .slice A n c]] w fun e w' => e = .returned (.bool (stepS (.mid r T b m l) (s.data.toList, d)).isSome) ∧ (∀ st', stepS (.mid r T b m l) (s.data.toList, d) = some st' → RdAt w' N g st') ∧ Below N w w' := by
  have HS : Hid (stepS (.mid r T b m l) (s.data.toList, d) = (noteR l d).map fun x => .mid r T b m (l ++ [x])) := by show _ = _; rw [stepS_mid, if_pos hq2]
  have e1 := ck_ne (s := s) (l := [102, 111, 114, 109]) (by rw [hq2]; decide)
  have e2 := ck_eq hq2
  have hbi : (0 : Int) < (b : Int) := by omega
  have hbn : ((b : Int) == 0) = false := by simp; omega
  have hdl := Lib.hid hD.out.1
  clear hq2
  have hNg := (rd_cells hR.out).1
  have hgw : g < w.heap.size := by
    obtain ⟨_, r, v, b, m, u, h⟩ := rd_cells hR.out
    exact blk_lt h
  obtain ⟨W, gx, hW, hgx, HHW, HB⟩ : ∃ W gx, W = w.alloc (.cells #[.string s, .slice A n c] 42) ∧ gx = w.heap.size ∧ Hid (W.heap[gx]? = some (.cells #[.string s, .slice A n c] 42 (0, 0))) ∧ Hid (Below w.heap.size w W) := ⟨_, _, rfl, rfl, heap_alloc_new _ _, (Below.refl _ _).alloc (Nat.le_refl _) _⟩
  have HGX := Lib.hid hgx
  have hsW := HB.out.size
  go_enter Tryd.func26, Tryd.ntmps26
  go_upto_region 1 with (fail)
  rw [← hW, ← hgx]
  clear hW hgx
  obtain ⟨c0, c1, _, _⟩ := cells2 HHW.out
  have HRW := Lib.hid (rd_mid_keep hR.out HB.out)
  have HDW := Lib.hid (hD.out.below HB.out hN)
  have HMW : Hid (W.cell? ⟨0, 0, none⟩ = some (.int .i64 m9)) := (HB.out.cell (p := ⟨0, 0, none⟩) hmN).trans hm9.out
  obtain ⟨x2, x5⟩ : W.cell? ⟨g, 2, none⟩ = some (.int .i64 b) ∧ W.cell? ⟨g, 5, none⟩ = some (.bool false) := by
    obtain ⟨v, u, _, hbx, _, _⟩ := HRW.out
    obtain ⟨⟨_, _, x2, _, _, x5⟩, _⟩ := cells6 hbx
    exact ⟨x2, x5⟩
  have hcv : (convert 26 9 (.slice A n c)).run Tryd.prog W = .ok (.string (strB d)) W := run_str_of HDW.out
  go_wp2_with fail
  clear hcv x2 x5
  refine (SCUT8_any 0 (strB d) m9 (by rw [strB_size, hdl.out]; exact hn8) _ HMW).mono ?_
  rintro e w2 ⟨lft, rgt, ok, rfl, HCUT, hlz, hrz, hb2⟩
  rw [strB_size, hdl.out] at hlz hrz
  have HC2 : Hid (Lib.cut d [0] = (lft.data.toList, rgt.data.toList, ok)) := by have h := HCUT.out; rw [strB_data] at h; exact h
  clear HCUT
  have HB2 := Lib.hid (HB.out.trans (hb2.mono hsW))
  have HR2 := Lib.hid (rd_mid_keep HRW.out hb2)
  have hs2 := HB2.out.size
  clear hb2
  go_upto_region 8 with fail
  obtain ⟨Y, gn, hY, hgn, HY, HBY, HSY⟩ := one_box w2 (.cells #[.string lft, .string rgt] 36)
  rw [← hgn, ← hY]
  have HRY := Lib.hid (rd_mid_keep HR2.out HBY.out)
  have HB3 := Lib.hid (HB2.out.trans (HBY.out.mono hs2))
  have hs3 := HB3.out.size
  have hgnY : gn < Y.heap.size := blk_lt HY.out
  have hgw3 : w.heap.size ≤ gn := by rw [hgn]; exact hs2
  clear hY hgn HBY HSY HR2 HB2
  obtain ⟨y0, y1, _, _⟩ := cells2 HY.out
  cases ok with
  | false =>
    have HNO : Hid (stepS (.mid r T b m l) (s.data.toList, d) = none) := by
      show _ = _
      rw [HS.out]
      unfold noteR
      rw [HC2.out, if_pos (.inl rfl)]
      rfl
    have HBZ := Lib.hid (HB3.out.mono hN)
    go_wp2_with fail
    go_ret
    rw [HNO.out]
    exact ⟨rfl, (fun st' h => by cases h), HBZ.out⟩
  | true =>
    go_wp2_with fail
    refine (CHECKNOTE_any lft rgt (by omega) (by omega) _).mono ?_
    rintro e w4 ⟨rfl, hb4⟩
    have HR4 := Lib.hid (rd_mid_keep HRY.out hb4)
    have HY4 := Lib.hid ((hb4.block gn hgnY).trans HY.out)
    have HB4 := Lib.hid (HB3.out.trans (hb4.mono hs3))
    have hs4 := HB4.out.size
    have hgn4 : gn < w4.heap.size := blk_lt HY4.out
    have HBZ := Lib.hid (HB4.out.mono hN)
    clear hb4 y0 y1
    obtain ⟨f, hf9⟩ : ∃ f, noteS lft.data.toList rgt.data.toList = f := ⟨_, rfl⟩
    have HF := Lib.hid hf9
    rw [hf9]
    clear hf9
    by_cases hf : f = 0
    · subst hf
      obtain ⟨v, u, _, hbx, hrw, hnt⟩ := HR4.out
      obtain ⟨A6, c6, rfl, _, _⟩ := OwnNts.len hnt
      have HNT := Lib.hid hnt
      have HRW4 := Lib.hid hrw
      have HBX := Lib.hid hbx
      obtain ⟨⟨_, _, _, _, x4, _⟩, _⟩ := cells6 hbx
      have HOB : Hid (∀ j, (Value.slice A6 l.length c6).ownBlock = some j → j < w.heap.size) := fun j hj => by
        obtain ⟨v0, u0, _, hbx0, _, hnt0⟩ := hR.out
        have e := (HB4.out.block g hgw).trans hbx0
        rw [hbx] at e
        simp only [Option.some.injEq, Obj.cells.injEq, Array.mk.injEq, List.cons.injEq, and_true, true_and] at e
        rw [← e.2] at hnt0
        exact (own_lt hnt0 hj).2
      clear hbx hrw hnt
      obtain ⟨L, hL⟩ : ∃ L, l.length = L := ⟨_, rfl⟩
      have HLN := Lib.hid hL
      rw [hL] at x4 hl50
      have HX4 : Hid (w4.cell? ⟨g, 4, none⟩ = some (.slice A6 L c6)) := x4
      by_cases h50 : L = 50
      · have HNO : Hid (stepS (.mid r T b m l) (s.data.toList, d) = none) := by
          show _ = _
          rw [HS.out]
          unfold noteR
          rw [HC2.out, if_pos (.inr (.inr (.inl (by rw [HLN.out]; exact h50))))]
          rfl
        clear hL
        subst h50
        go_wp2_with fail
        go_ret
        rw [HNO.out]
        exact ⟨rfl, (fun st' h => by cases h), HBZ.out⟩
      · have h5i : ((L : Int) == 50) = false := by simp; omega
        have HL50 := Lib.hid h50
        clear hL h50
        go_wp2_with fail
        clear x4
        go_loopw [73] (fun i wr => ∃ k : Nat, k ≤ L ∧ i = .int .i64 k ∧ Hid (∀ x, x < k → (nxOf l x).1.data.toList ≠ lft.data.toList) ∧ Hid (Below w4.heap.size w4 wr)) (fun i _ => L - (intOf i).toNat)
        case atStart => exact ⟨0, Nat.zero_le _, rfl, (fun x hx => by omega), Below.refl _ _⟩
        case round =>
          obtain ⟨wk, rfl⟩ : ∃ x : World, x = wr := ⟨_, rfl⟩
          obtain ⟨k, hk, rfl, hJ, hb⟩ := hrel
          have hk0 : (0 : Int) ≤ (k : Int) := by omega
          by_cases hkl : k < L
          · have hki : (k : Int) < (L : Int) := by omega
            obtain ⟨b', o', e', hbB', p0, p1⟩ := (OwnNts.at_ HNT.out).2 k (by rw [HLN.out]; exact hkl)
            subst e'
            have p0' := (hb.out.cell (p := ⟨b', o' + k * 2, none⟩) hbB').trans p0
            have p1' := (hb.out.cell (p := ⟨b', o' + k * 2 + 1, none⟩) hbB').trans p1
            obtain ⟨⟨s2, t2⟩, hst⟩ : ∃ st, nxOf l k = st := ⟨_, rfl⟩
            have HST := Lib.hid hst
            rw [hst] at p0' p1'
            dsimp only at p0' p1'
            clear p0 p1 hst
            by_cases heq : s2.data.toList = lft.data.toList
            · have hq9 : (s2.toList == lft.toList) = true := by rw [ByteArray.toList_eq, ByteArray.toList_eq, heq]; simp
              have HNO : Hid (stepS (.mid r T b m l) (s.data.toList, d) = none) := by
                show _ = _
                rw [HS.out]
                unfold noteR
                have hin : isIn l lft.data.toList = true := by
                  have := isIn_yes (l := l) (a := l.length) (j := k) (nm := lft.data.toList) (by rw [HLN.out]; exact hkl) (Nat.le_refl _) (by rw [HST.out]; exact heq)
                  rwa [List.take_length] at this
                rw [HC2.out, if_pos (.inr (.inr (.inr hin)))]
                rfl
              clear heq
              go_wp2_with fail
              go_ret
              rw [HNO.out]
              exact ⟨rfl, (fun st' h => by cases h), (HBZ.out.trans (hb.out.mono (Nat.le_trans hN hs4))).alloc (Nat.le_trans (Nat.le_trans hN hs4) hb.out.size) _⟩
            · have hq9 : (s2.toList == lft.toList) = false := by rw [ByteArray.toList_eq, ByteArray.toList_eq]; simpa using heq
              have HJ2 : Hid (∀ x, x < k + 1 → (nxOf l x).1.data.toList ≠ lft.data.toList) := fun x hx => by
                by_cases hxk : x = k
                · rw [hxk, HST.out]; exact heq
                · exact hJ.out x (by omega)
              have HBN := Lib.hid (hb.out.alloc hb.out.size (.cells #[.string s2, .string t2] 36))
              clear heq
              go_wp2_with fail
              go_roundw
              case rel => exact ⟨k + 1, by omega, by go_num, HJ2, HBN⟩
              case measure => simp [intOf]; omega
          · obtain rfl : k = L := by omega
            have hki : ¬ (k : Int) < (k : Int) := by omega
            have hin : isIn l lft.data.toList = false := by
              have := isIn_no (l := l) (a := k) hJ.out
              rwa [List.take_of_length_le (by rw [HLN.out]; exact Nat.le_refl _)] at this
            have HYES : Hid (stepS (.mid r T b m l) (s.data.toList, d) = some (.mid r T b m (l ++ [(lft, rgt)]))) := by
              show _ = _
              rw [HS.out]
              unfold noteR
              rw [HC2.out, if_neg (by rw [HF.out, HLN.out, hin]; simp [HL50.out]), strB_of, strB_of]
              rfl
            clear hin
            have hgw4 : g < w4.heap.size := blk_lt HBX.out
            have hsk := hb.out.size
            have HSS : Hid (∀ x9 : World, Below w4.heap.size w4 x9 → x9.cell? ⟨g, 4, none⟩ = some (.slice A6 k c6) ∧ x9.cell? ⟨gn, 0, none⟩ = some (.string lft) ∧ x9.cell? ⟨gn, 1, none⟩ = some (.string rgt)) := fun x9 h9 => by
              obtain ⟨z0, z1, _, _⟩ := cells2 HY4.out
              exact ⟨(h9.cell (p := ⟨g, 4, none⟩) hgw4).trans HX4.out, (h9.cell (p := ⟨gn, 0, none⟩) hgn4).trans z0, (h9.cell (p := ⟨gn, 1, none⟩) hgn4).trans z1⟩
            go_wp2_with fail
            have hS := HSS.out wk.drew hb.out.drew
            refine wp_region_head 8 (fun x9 => x9.cell? ⟨g, 4, none⟩ = some (.slice A6 k c6) ∧ x9.cell? ⟨gn, 0, none⟩ = some (.string lft) ∧ x9.cell? ⟨gn, 1, none⟩ = some (.string rgt)) (by kernel_rfl) (by kernel_rfl) ?_
            refine HL.take (i := 0) (oi := _) (v := ?_) rfl (by kernel_rfl) (by kernel_rfl) (by decide) (fun _ _ _ h => h) (Or.inl ⟨by rfl, ?_⟩) hS ?_
            rotate_left
            · intro wz hwz
              try dsimp only at hwz
              go_simp
              try with_reducible rfl
            simp only [Act.put, List.setIfInBounds_toArray, List.set_cons_zero, List.set_cons_succ]
            refine HL.take (i := 1) (oi := _) (v := ?_) rfl (by kernel_rfl) (by kernel_rfl) (by decide) (fun _ _ _ h => h) (Or.inl ⟨by rfl, ?_⟩) hS ?_
            rotate_left
            · intro wz hwz
              try dsimp only at hwz
              go_simp
              try with_reducible rfl
            simp only [Act.put, List.setIfInBounds_toArray, List.set_cons_zero, List.set_cons_succ]
            refine HL.take (i := 2) (oi := _) (v := ?_) rfl (by kernel_rfl) (by kernel_rfl) (by decide) (fun _ _ _ h => h) (Or.inl ⟨by rfl, ?_⟩) hS ?_
            rotate_left
            · intro wz hwz
              try dsimp only at hwz
              go_simp
              try with_reducible rfl
            simp only [Act.put, List.setIfInBounds_toArray, List.set_cons_zero, List.set_cons_succ]
            refine HL.take (i := 3) (oi := _) (v := ?_) rfl (by kernel_rfl) (by kernel_rfl) (by decide) (fun _ _ _ h => h) (Or.inl ⟨by rfl, ?_⟩) hS ?_
            rotate_left
            · intro wz hwz
              try dsimp only at hwz
              go_simp
              try with_reducible rfl
            simp only [Act.put, List.setIfInBounds_toArray, List.set_cons_zero, List.set_cons_succ]
            refine HL.take (i := 4) (oi := _) (v := ?_) rfl (by kernel_rfl) (by kernel_rfl) (by decide) (fun _ _ _ h => h) (Or.inl ⟨by rfl, ?_⟩) hS ?_
            rotate_left
            · intro wz hwz
              try dsimp only at hwz
              go_simp
              try with_reducible rfl
            simp only [Act.put, List.setIfInBounds_toArray, List.set_cons_zero, List.set_cons_succ]
            refine HL.take (i := 5) (oi := _) (v := ?_) rfl (by kernel_rfl) (by kernel_rfl) (by decide) (fun _ _ _ h => h) (Or.inl ⟨by rfl, ?_⟩) hS ?_
            rotate_left
            · intro wz hwz
              try dsimp only at hwz
              go_simp
              try with_reducible rfl
            simp only [Act.put, List.setIfInBounds_toArray, List.set_cons_zero, List.set_cons_succ]
            refine HL.one (i := 6) (o := _) rfl (by kernel_rfl) (by decide) (by rfl) ?_
            intro K hK
            go_simp
            have hS9 := HSS.out (wk.drew.alloc (.cells #[.string lft, .string rgt] 36)) (hb.out.drew.alloc hsk _)
            refine hK.out _ _ hS9 ?_
            try simp only [Act.put, List.setIfInBounds_toArray, List.set_cons_zero, List.set_cons_succ]
            clear hK K hS
            have hS := hS9
            clear hS9
            refine HL.one (i := 7) (o := _) rfl (by kernel_rfl) (by decide) (by rfl) ?_
            intro K hK
            refine wp_push_note (w0 := wk.drew) (.tmp 86) (.tmp 88) rfl N A6 k c6 l lft rgt wk.heap.size rfl rfl rfl ?_ (by omega) (Nat.le_trans (Nat.le_trans hN hs4) hsk) ?_
            · have := OwnNts.below HNT.out hb.out.drew
              rw [HLN.out] at this
              exact this
            intro g8 cap8 w8 ho8 hb8 hg8
            have hbx8 := Lib.hid ((hg8.block g (Nat.lt_of_lt_of_le hgw4 hsk) (fun e => own_ne_blk (show w4.ownsRow N 36 2 (.slice A6 l.length c6) l.length (nxsC l) from HNT.out) HBX.out (by decide) (by rw [HLN.out]; exact e.symm))).trans ((hb.out.block g hgw4).trans HBX.out))
            have hny8 := Lib.hid ((hg8.block gn (Nat.lt_of_lt_of_le hgn4 hsk) (fun e => by have := HOB.out gn (by rw [HLN.out]; exact e.symm); omega)).trans ((hb.out.block gn hgn4).trans HY4.out))
            have hS9 : w8.cell? ⟨g, 4, none⟩ = some (.slice A6 k c6) ∧ w8.cell? ⟨gn, 0, none⟩ = some (.string lft) ∧ w8.cell? ⟨gn, 1, none⟩ = some (.string rgt) := by
              obtain ⟨⟨_, _, _, _, z4, _⟩, _⟩ := cells6 hbx8.out
              obtain ⟨z0, z1, _, _⟩ := cells2 hny8.out
              rw [HLN.out] at z4
              exact ⟨z4, z0, z1⟩
            refine hK.out _ _ hS9 ?_
            try simp only [Act.put, List.setIfInBounds_toArray, List.set_cons_zero, List.set_cons_succ]
            clear hK K hS hS9
            have HRF : Hid (RdAt (w8.setCell ⟨g, 4, none⟩ (.slice (some ⟨g8, 0, none⟩) (k + 1) cap8)) N g (.mid r T b m (l ++ [(lft, rgt)]))) := by
              have h1 := own_rows_kept (own_rows_below HRW4.out hb.out.drew) (show OwnNts wk.drew N (.slice A6 k c6) l by have := OwnNts.below HNT.out hb.out.drew; rw [HLN.out] at this; exact this) hg8
              exact rd_push hNg hbx8.out h1 ho8
            have HBF : Hid (Below N w (w8.setCell ⟨g, 4, none⟩ (.slice (some ⟨g8, 0, none⟩) (k + 1) cap8))) := ((HBZ.out.trans (hb.out.drew.mono (Nat.le_trans hN hs4))).trans hb8).setCell (p := ⟨g, 4, none⟩) hNg _
            obtain ⟨⟨_, _, _, _, x4, _⟩, _, _, _, _, f4, _⟩ := cells6 hbx8.out
            clear ho8 hb8 hg8
            refine HL.done (by kernel_rfl) ?_
            simp only [List.drop_succ_cons, List.drop_zero]
            go_wp2_with fail
            go_ret
            rw [HYES.out]
            refine ⟨rfl, fun st' h => ?_, HBF.out⟩
            injection h with h
            subst h
            exact HRF.out
    · have hfi : (f != 0) = true := by simpa using hf
      have HNO : Hid (stepS (.mid r T b m l) (s.data.toList, d) = none) := by
        show _ = _
        rw [HS.out]
        unfold noteR
        rw [HC2.out, if_pos (.inr (.inl (by show noteS lft.data.toList rgt.data.toList ≠ 0; rw [HF.out]; exact hf)))]
        rfl
      clear hf
      go_wp2_with fail
      go_ret
      rw [HNO.out]
      exact ⟨rfl, (fun st' h => by cases h), HBZ.out⟩
end Go.Proofs.YtlnjildkdmeflaaDoor
