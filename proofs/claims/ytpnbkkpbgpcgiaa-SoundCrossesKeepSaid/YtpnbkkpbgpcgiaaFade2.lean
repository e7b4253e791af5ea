/- Fade on the sound's side, where all is right. -/
import Derived.Test.YtpnbkkpbgpcgiaaFade1
import Derived.Test.YtpnbkkpbgpcgiaaRev2
import Derived.Test.YtpnbkkpbgpcgiaaNear
import Derived.Test.YtpnbkkpbgpcgiaaRegion
set_option linter.unusedSimpArgs false
set_option linter.unusedVariables false
namespace Go.Proofs.Ytpnbkkpbgpcgiaa
open Go.RowKit Go.Dw
attribute [local go_sem ↓] Go.wp_at_zero Go.wp_at_succ

theorem FADE1_any (x : Int) (w : World) : Calls Try.prog 79 #[.int .i64 x] w fun e w' => e = .returned (.int .i64 x) ∧ w = w' := by
  go_enter Try.func79, Try.ntmps79
  go_wp2
  go_ret
  exact ⟨rfl, rfl⟩
theorem fill_elem {N : Nat} {W : World} {g : Nat} {o0 : Value} {gv n cV : Nat} {rows : List Value} {wr : World} {yss : List (List Int)} {k b m cap j : Nat} (h : FillI N W g o0 gv n cV rows wr yss) (hr : rows[k]? = some (.slice (some ⟨b, 0, none⟩) m cap)) (hj : j < m) :
    wr.cell? ⟨b, j, none⟩ = some (.int .i64 (elOf (rowOf yss k) j)) := by
  have hin := h.own.inner k _ hr
  have hm : m = (rowOf yss k).length := by
    obtain ⟨A, c, e, _, _⟩ := own_form hin
    injection e
  subst hm
  refine (hin.cellAt j (by omega)).trans ?_
  rw [List.getElem?_map, List.getElem?_eq_getElem hj, elOf_lt hj]; rfl
theorem fill_slice {N : Nat} {W : World} {g : Nat} {o0 : Value} {gv n cV : Nat} {rows : List Value} {wr : World} {yss : List (List Int)} {k m : Nat} (h : FillI N W g o0 gv n cV rows wr yss) (hk : k < yss.length) (hm : (rowOf yss k).length = m) :
    ∃ A cap, rows[k]? = some (.slice A m cap) ∧ m ≤ cap ∧ cap ≤ maxLen ∧ (0 < m → ∃ b, A = some ⟨b, 0, none⟩) := by
  obtain ⟨r, h1, h2⟩ := h.own.row hk
  rw [hm] at h2
  obtain ⟨A, cap, rfl, h3, h4⟩ := own_form h2
  refine ⟨A, cap, h1, h3, h4, fun h0 => ?_⟩
  obtain ⟨b, cap', e, _⟩ := own_slot h2 h0
  exact ⟨b, by injection e⟩

set_option maxRecDepth 100000 in
set_option maxHeartbeats 4000000 in
theorem FADE_ok (r : Int) (ad : Addr) (n c : Nat) (p q : Nat) (sh : Int) (up : Bool) (xss : List (List Int)) (hok : Hid (OkS r xss)) (hc : Hid (chkS r xss = 0)) (hd : Hid (cutF p q (len0 xss) = 0)) (hpq : p ≤ q) (hqm : q ≤ len0 xss) (hs : Hid (shB sh = true)) (w : World) (B : Nat) (hB : B ≤ w.heap.size) (hh : Hid (RowsAt w B (some ad) n xss)) :
    Calls Try.prog 43 #[.agg #[.int .i64 r, .slice (some ad) n c], .agg #[.int .i64 p, .int .i64 q], .int .i64 sh, .bool up] w (OutS w r (genS (fadeV sh up p q) (len0 xss) xss) 0) := by
  have hl := Lib.hid hh.out.1
  have hn16 : n ≤ 16 := by have := hok.out.few; have := hl.out; omega
  have hn0 : 0 < n := by have := hok.out.some; have := hl.out; omega
  have hn := hn0
  have hm := hok.out.long
  have hq : (chkS r xss != 0) = false := by rw [hc.out]; rfl
  have hq2 : (cutF p q (len0 xss) != 0) = false := by rw [hd.out]; rfl
  obtain ⟨A, hA⟩ : ∃ A, some ad = A := ⟨_, rfl⟩
  have HA := Lib.hid hA
  rw [hA] at hh ⊢
  clear hA
  go_enter Try.func43, Try.ntmps43
  go_wp2_with fail
  refine calls_later (w.heap.size + 3) ?_
  intro W hW hsW
  obtain ⟨hcW, hfW⟩ := bcell hW
  simp only [World.size_alloc] at hsW
  have hbW : Below w.heap.size w W := ((((Below.refl _ w).alloc (Nat.le_refl _) _).alloc (by simp) _).alloc (by simp; omega) _).trans (hW.mono (by omega))
  refine (CHECK_any r A n c xss _ B (by omega) (hh.out.below hbW hB)).mono ?_
  rintro e w1 ⟨rfl, hb1⟩
  have hS1 : Below (w.heap.size + 3) W w1 := hb1.mono hsW
  have hz1 := pcell hS1
  have hy1 := (bcell hS1).2
  clear hb1
  go_wp2_with fail
  refine (CHECKCUT_any r A n c p q xss hn _ B (by have := hS1.size; omega) ((hh.out.below hbW hB).below (hS1.mono (by omega)) (Nat.le_refl _))).mono ?_
  rintro e w2 ⟨rfl, hb2⟩
  have hS2 := Below.next hS1 hsW hb2
  clear hz1 hy1 hb2
  have hz2 := pcell hS2
  have hy2 := (bcell hS2).2
  go_wp2_with fail
  refine (ISSHAPE_eq sh true hs _).mono ?_
  rintro e w' ⟨rfl, rfl⟩
  go_wp2_with fail
  have hs2 := hS2.size
  obtain rfl := HA.out
  refine (EACH_id 79 r ad n c xss hok _ B (by omega) ((hh.out.below hbW hB).below (hS2.mono (by omega)) (Nat.le_refl _)) (fun _ _ => rfl) FADE1_any).mono ?_
  rintro e w3 ⟨v3, rfl, ho3, hb3⟩
  obtain ⟨A3, c3, rfl, _, _⟩ := ho3.form
  have hS3 := Below.next hS2 hsW hb3
  have hs3 := hb3.size
  clear hz2 hy2
  have ho3' := ho3.base (show w.heap.size + 3 ≤ w2.heap.size by omega)
  obtain ⟨rows, hL⟩ := ho3'
  rw [hl.out] at hL ⊢
  obtain ⟨gv, hgv⟩ : ∃ gv, A3 = some ⟨gv, 0, none⟩ := by
    have h1 := hL.outer
    rw [hl.out] at h1
    obtain ⟨gv, cap, e, _⟩ := own_slot h1 hn0
    exact ⟨gv, by injection e⟩
  subst hgv
  have HF0 : Hid (FillI (w.heap.size + 3) W w3.heap.size (.int .i64 r) gv n c3 rows (w3.alloc (.cells #[.int .i64 r, .slice (some ⟨gv, 0, none⟩) n c3] 24)) xss) :=
    ⟨hS3.alloc (by omega) _, heap_alloc_new _ _, hL.alloc _, by omega⟩
  have hgge : w.heap.size + 3 ≤ w3.heap.size := by omega
  have hcn : n ≤ c3 ∧ c3 ≤ maxLen := by
    obtain ⟨A, c, e, h1, h2⟩ := own_form hL.outer
    injection e with _ _ e3; subst e3; exact ⟨by rw [hl.out] at h1; exact h1, h2⟩
  obtain ⟨hcn1, hcn2⟩ := hcn
  have hz3 := pcell hS3
  have hlt1 : w.heap.size + 1 < w3.heap.size := by omega
  have hlt2 : w.heap.size + 2 < w3.heap.size := by omega
  clear hL ho3 hb3
  go_wp2_with fail
  obtain ⟨D, hD⟩ : ∃ D : Nat, D = q - p := ⟨_, rfl⟩
  have hD1 : (q : Int) - (p : Int) = (D : Int) := by omega
  have HD := Lib.hid hD
  have HD1 := Lib.hid hD1
  rw [hD1]
  have hDm : D ≤ 100000 := by omega
  have hpD : p + D ≤ len0 xss := by omega
  obtain ⟨g, hg⟩ : ∃ g, w3.heap.size = g := ⟨_, rfl⟩
  rw [hg] at HF0 hlt1 hlt2 hgge ⊢
  have Hg := Lib.hid hg
  clear hg hD hD1
  obtain ⟨Y, hY⟩ : ∃ Y, genS (fadeV sh up p q) (len0 xss) xss = Y := ⟨_, rfl⟩
  have HY := Lib.hid hY
  have HYe : Hid (∀ a i, a < xss.length → i < len0 xss → elOf (rowOf Y a) i = fadeV sh up p q (rowOf xss a) i) := fun a i ha hi => by rw [← hY]; exact genS_el ha hi
  have HYm : Hid (∀ a, a < xss.length → (rowOf Y a).length = len0 xss) := fun a ha => by rw [← hY]; exact genS_len ha
  have HYl : Hid (Y.length = xss.length) := by show _ = _; rw [← hY]; exact genS_length
  clear hY
  have HM0 : Hid (MixOf xss Y xss (len0 xss) (fun a _ => a < 0)) := MixOf.start (fun a ha => (hok.out.row ha).1) (fun _ _ _ _ h => by omega)
  go_loopw [45] (fun i wr => ∃ k : Nat, k ≤ n ∧ i = .int .i64 k ∧ Hid (∃ zss, MixOf xss Y zss (len0 xss) (fun a _ => a < k) ∧ FillI (w.heap.size + 3) W g (.int .i64 r) gv n c3 rows wr zss)) (fun i _ => n - (intOf i).toNat)
  case atStart => exact ⟨0, Nat.zero_le _, rfl, xss, HM0.out, HF0.out⟩
  case round =>
    obtain ⟨k, hk, rfl, hZ⟩ := hrel
    obtain ⟨zs0, hP0, hF0⟩ := hZ.out
    have HP0 := Lib.hid hP0
    have hF := Lib.hid hF0
    clear hP0 hF0 hZ
    by_cases hlt : k < n
    · have hkx : Hid (k < xss.length) := by show _ < _; have := hl.out; omega
      obtain ⟨A9, cap, hrk, hcap1, hcap2, hA9⟩ := fill_slice hF.out (by rw [HP0.out.len]; exact hkx.out) (HP0.out.rows k hkx.out)
      have ho := hF.out.own.outer
      rw [HP0.out.len, hl.out] at ho
      have hcv := (ho.cellAt k (by omega)).trans hrk
      have HR := Lib.hid hrk
      have hk0 : (0 : Int) ≤ (k : Int) := by omega
      have hkn : (k : Int) < (n : Int) := by omega
      unfold maxLen at hcap2
      clear ho hrk
      go_wp2_with fail
      clear hcv
      have HZ1 : Hid (∃ zss, MixOf xss Y zss (len0 xss) (fun a i => a < k ∨ (a = k ∧ i < p + 0)) ∧ FillI (w.heap.size + 3) W g (.int .i64 r) gv n c3 rows wr zss) :=
        ⟨zs0, HP0.out.turn (fun a i ha hi => by
          by_cases h : a = k ∧ i < p
          · exact .inr (by rw [HYe.out a i ha hi, fadeV_out (by omega)])
          · exact .inl (by omega)), hF.out⟩
      clear HP0 hF
      obtain ⟨wo, hwo⟩ : ∃ wo : World, wo = wr := ⟨_, rfl⟩
      rw [← hwo] at HZ1 ⊢
      clear hwo
      go_loopw [50] (fun i wi => ∃ j : Nat, j ≤ D ∧ i = .int .i64 j ∧ Hid (∃ zss, MixOf xss Y zss (len0 xss) (fun a i => a < k ∨ (a = k ∧ i < p + j)) ∧ FillI (w.heap.size + 3) W g (.int .i64 r) gv n c3 rows wi zss)) (fun i _ => D - (intOf i).toNat)
      case atStart => exact ⟨0, Nat.zero_le _, rfl, HZ1.out⟩
      case round =>
        obtain ⟨j, hj, rfl, hZ⟩ := hrel
        obtain ⟨zss, hP0, hi0⟩ := hZ.out
        have hP := Lib.hid hP0
        have hi := Lib.hid hi0
        clear hP0 hi0 hZ
        by_cases hjl : j < D
        · obtain ⟨b', rfl⟩ := hA9 (by omega)
          obtain ⟨i, hi9⟩ : ∃ i : Nat, i = p + j := ⟨_, rfl⟩
          have Hi9 := Lib.hid hi9
          have him : i < len0 xss := by omega
          have HW1 : Hid (IntKind.i64.wrap ((p : Int) + (j : Int)) = (i : Int)) := by show _ = _; rw [IntWalk.i64_in _ (by omega)]; omega
          have hcx := fill_elem hi.out HR.out him
          rw [hP.out.no k i hkx.out him (by omega)] at hcx
          obtain ⟨x1, x2⟩ := hok.out.el hkx.out him
          have HE : Hid (elOf (rowOf Y k) i = nearI (elOf (rowOf xss k) i * facS sh (fadeK up p q i) D) (((D : Int) + 1) * ((D : Int) + 1))) := by
            show _ = _
            rw [HYe.out k i hkx.out him, fadeV_in (by omega) (by have := HD.out; omega), HD1.out]
          obtain ⟨kk, hkk⟩ : ∃ kk, fadeK up p q i = kk := ⟨_, rfl⟩
          have hkb := fadeK_bd (up := up) (p := p) (q := q) (i := i) (by omega) (by have := HD.out; omega)
          rw [hkk, HD1.out] at hkb
          obtain ⟨hkb1, hkb2⟩ := hkb
          rw [hkk] at HE
          obtain ⟨F1, F2, F3, F4, -⟩ := facS_bd (sh := sh) hkb1 hkb2 (show (D : Int) ≤ 100000 by omega)
          have HFA := Lib.hid (fun w => FACTOR_any sh kk D hkb1 hkb2 (show (D : Int) ≤ 100000 by omega) w)
          obtain ⟨F, hF9⟩ : ∃ F, facS sh kk D = F := ⟨_, rfl⟩
          rw [hF9] at HE HFA F1 F2
          obtain ⟨x, hx⟩ : ∃ x, elOf (rowOf xss k) i = x := ⟨_, rfl⟩
          rw [hx] at hcx x1 x2 HE
          obtain ⟨d, hd9⟩ : ∃ d, ((D : Int) + 1) * ((D : Int) + 1) = d := ⟨_, rfl⟩
          rw [hd9] at HE F2 F3 F4
          obtain ⟨P1, P2⟩ := fade_bd x1 x2 F1 F2 F3
          have HW2 := Lib.hid (IntWalk.i64_in (x * F) (by omega))
          have HW3 := Lib.hid (IntWalk.i64_in ((D : Int) + 1) (by omega))
          have HW4 : Hid (IntKind.i64.wrap (((D : Int) + 1) * ((D : Int) + 1)) = d) := by show _ = _; rw [hd9]; exact IntWalk.i64_in _ (by omega)
          have HNE := Lib.hid (fun w => NEAR_any (x * F) d F4 (by omega) (by omega) (by omega) w)
          have Hkk := Lib.hid hkk
          have hsp0 : wr.cell? ⟨w.heap.size + 1, 0, none⟩ = some (.int .i64 (p : Int)) := by
            rw [pcell hi.out.below _ (by simp), hcW _ _ (by simp)]; simp [go_sem]
          have hi0 : (0 : Int) ≤ (i : Int) := by omega
          have hin : (i : Int) < (len0 xss : Int) := by omega
          have hj0 : (0 : Int) ≤ (j : Int) := by omega
          have hjn : (j : Int) < (D : Int) := by omega
          obtain ⟨⟨vo, hvo⟩, hfz⟩ := hi.out.elem HR.out him
          have HI6 := Lib.hid (hi.out.set_ HR.out i (nearI (x * F) d))
          have HP6 : Hid (MixOf xss Y (zss.set k ((rowOf zss k).set i (nearI (x * F) d))) (len0 xss) (fun a i => a < k ∨ (a = k ∧ i < p + (j + 1)))) :=
            hP.out.set_ hkx.out him HE.out (fun a i ha hi => by have := Hi9.out; omega)
          clear hkk hF9 hx hd9 HE F1 F2 F3 F4 P1 P2 x1 x2 hi9 hvo
          have hcs : wr.drew.cell? ⟨w.heap.size + 1, 0, none⟩ = some (.int .i64 (p : Int)) ∧ wr.drew.cell? ⟨b', i, none⟩ = some (.int .i64 x) := ⟨hsp0, hcx⟩
          clear hsp0
          cases up
          · have hkk : kk = (D : Int) - 1 - (j : Int) := by have h1 := Hkk.out; have h2 := Hi9.out; have h3 := HD1.out; unfold fadeK at h1; simp at h1; omega
            rw [hkk] at HFA
            clear hkk
            go_wp2_with fail
            have hS := hcs
            clear hcs hcx
            refine wp_region_head 23 (fun w' => w'.cell? ⟨w.heap.size + 1, 0, none⟩ = some (.int .i64 (p : Int)) ∧ w'.cell? ⟨b', i, none⟩ = some (.int .i64 x)) (by kernel_rfl) (by kernel_rfl) ?_
            refine HL.take (i := 0) (oi := _) (v := ?_) rfl (by kernel_rfl) (by kernel_rfl) (by decide) (fun _ _ _ h => h) (Or.inl ⟨by rfl, ?_⟩) hS ?_
            rotate_left
            · intro wz hwz
              try dsimp only at hwz
              go_simp
              try with_reducible rfl
            simp only [Act.put, List.setIfInBounds_toArray, List.set_cons_zero, List.set_cons_succ]
            refine HL.take (i := 1) (oi := _) (v := ?_) rfl (by kernel_rfl) (by kernel_rfl) (by decide) (fun _ _ _ h => h) (Or.inl ⟨by rfl, ?_⟩) hS ?_
            rotate_left
            · intro wz hwz
              try dsimp only at hwz
              go_simp
              try with_reducible rfl
            simp only [Act.put, List.setIfInBounds_toArray, List.set_cons_zero, List.set_cons_succ]
            refine HL.take (i := 2) (oi := _) (v := ?_) rfl (by kernel_rfl) (by kernel_rfl) (by decide) (fun _ _ _ h => h) (Or.inl ⟨by rfl, ?_⟩) hS ?_
            rotate_left
            · intro wz hwz
              try dsimp only at hwz
              go_simp
              try with_reducible rfl
            simp only [Act.put, List.setIfInBounds_toArray, List.set_cons_zero, List.set_cons_succ]
            refine HL.take (i := 3) (oi := _) (v := ?_) rfl (by kernel_rfl) (by kernel_rfl) (by decide) (fun _ _ _ h => h) (Or.inl ⟨by rfl, ?_⟩) hS ?_
            rotate_left
            · intro wz hwz
              try dsimp only at hwz
              go_simp
              try with_reducible rfl
            simp only [Act.put, List.setIfInBounds_toArray, List.set_cons_zero, List.set_cons_succ]
            refine HL.take (i := 4) (oi := _) (v := .int .i64 (i : Int)) rfl (by kernel_rfl) (by kernel_rfl) (by decide) (fun _ _ _ h => h) (Or.inl ⟨by rfl, ?_⟩) hS ?_
            · intro wz hwz
              try dsimp only at hwz
              go_simp
              first | done | exact HW1.out | simp only [HW1.out]
            simp only [Act.put, List.setIfInBounds_toArray, List.set_cons_zero, List.set_cons_succ]
            refine HL.take (i := 5) (oi := _) (v := ?_) rfl (by kernel_rfl) (by kernel_rfl) (by decide) (fun _ _ _ h => h) (Or.inl ⟨by rfl, ?_⟩) hS ?_
            rotate_left
            · intro wz hwz
              try dsimp only at hwz
              go_simp
              try with_reducible rfl
            simp only [Act.put, List.setIfInBounds_toArray, List.set_cons_zero, List.set_cons_succ]
            refine HL.take (i := 6) (oi := _) (v := ?_) rfl (by kernel_rfl) (by kernel_rfl) (by decide) (fun _ _ _ h => h) (Or.inl ⟨by rfl, ?_⟩) hS ?_
            rotate_left
            · intro wz hwz
              try dsimp only at hwz
              go_simp
              try with_reducible rfl
            simp only [Act.put, List.setIfInBounds_toArray, List.set_cons_zero, List.set_cons_succ]
            refine HL.take (i := 7) (oi := _) (v := ?_) rfl (by kernel_rfl) (by kernel_rfl) (by decide) (fun _ _ _ h => h) (Or.inl ⟨by rfl, ?_⟩) hS ?_
            rotate_left
            · intro wz hwz
              try dsimp only at hwz
              go_simp
              try with_reducible rfl
            simp only [Act.put, List.setIfInBounds_toArray, List.set_cons_zero, List.set_cons_succ]
            refine HL.take (i := 8) (oi := _) (v := ?_) rfl (by kernel_rfl) (by kernel_rfl) (by decide) (fun _ _ _ h => h) (Or.inl ⟨by rfl, ?_⟩) hS ?_
            rotate_left
            · intro wz hwz
              try dsimp only at hwz
              go_simp
              try with_reducible rfl
            simp only [Act.put, List.setIfInBounds_toArray, List.set_cons_zero, List.set_cons_succ]
            refine HL.take (i := 9) (oi := _) (v := .int .i64 (i : Int)) rfl (by kernel_rfl) (by kernel_rfl) (by decide) (fun _ _ _ h => h) (Or.inl ⟨by rfl, ?_⟩) hS ?_
            · intro wz hwz
              try dsimp only at hwz
              go_simp
              first | done | exact HW1.out | simp only [HW1.out]
            simp only [Act.put, List.setIfInBounds_toArray, List.set_cons_zero, List.set_cons_succ]
            refine HL.take (i := 10) (oi := _) (v := ?_) rfl (by kernel_rfl) (by kernel_rfl) (by decide) (fun _ _ _ h => h) (Or.inl ⟨by rfl, ?_⟩) hS ?_
            rotate_left
            · intro wz hwz
              try dsimp only at hwz
              go_simp
              try with_reducible rfl
            simp only [Act.put, List.setIfInBounds_toArray, List.set_cons_zero, List.set_cons_succ]
            refine HL.take (i := 11) (oi := _) (v := ?_) rfl (by kernel_rfl) (by kernel_rfl) (by decide) (fun _ _ _ h => h) (Or.inl ⟨by rfl, ?_⟩) hS ?_
            rotate_left
            · intro wz hwz
              try dsimp only at hwz
              go_simp
              try with_reducible rfl
            simp only [Act.put, List.setIfInBounds_toArray, List.set_cons_zero, List.set_cons_succ]
            refine HL.take (i := 12) (oi := _) (v := ?_) rfl (by kernel_rfl) (by kernel_rfl) (by decide) (fun _ _ _ h => h) (Or.inl ⟨by rfl, ?_⟩) hS ?_
            rotate_left
            · intro wz hwz
              try dsimp only at hwz
              go_simp
              try with_reducible rfl
            simp only [Act.put, List.setIfInBounds_toArray, List.set_cons_zero, List.set_cons_succ]
            refine HL.take (i := 13) (oi := _) (v := ?_) rfl (by kernel_rfl) (by kernel_rfl) (by decide) (fun _ _ _ h => h) (Or.inl ⟨by rfl, ?_⟩) hS ?_
            rotate_left
            · intro wz hwz
              try dsimp only at hwz
              go_simp
              try with_reducible rfl
            simp only [Act.put, List.setIfInBounds_toArray, List.set_cons_zero, List.set_cons_succ]
            refine HL.take (i := 14) (oi := _) (v := ?_) rfl (by kernel_rfl) (by kernel_rfl) (by decide) (fun _ _ _ h => h) (Or.inl ⟨by rfl, ?_⟩) hS ?_
            rotate_left
            · intro wz hwz
              try dsimp only at hwz
              go_simp
              try with_reducible rfl
            simp only [Act.put, List.setIfInBounds_toArray, List.set_cons_zero, List.set_cons_succ]
            refine HL.take (i := 17) (oi := _) (v := ?_) rfl (by kernel_rfl) (by kernel_rfl) (by decide) (fun _ _ _ h => h) (Or.inl ⟨by rfl, ?_⟩) hS ?_
            rotate_left
            · intro wz hwz
              try dsimp only at hwz
              go_simp
              try with_reducible rfl
            simp only [Act.put, List.setIfInBounds_toArray, List.set_cons_zero, List.set_cons_succ]
            refine HL.take (i := 18) (oi := _) (v := .int .i64 ((D : Int) + 1)) rfl (by kernel_rfl) (by kernel_rfl) (by decide) (fun _ _ _ h => h) (Or.inl ⟨by rfl, ?_⟩) hS ?_
            · intro wz hwz
              try dsimp only at hwz
              go_simp
              first | done | exact HW3.out | simp only [HW3.out]
            simp only [Act.put, List.setIfInBounds_toArray, List.set_cons_zero, List.set_cons_succ]
            refine HL.take (i := 19) (oi := _) (v := ?_) rfl (by kernel_rfl) (by kernel_rfl) (by decide) (fun _ _ _ h => h) (Or.inl ⟨by rfl, ?_⟩) hS ?_
            rotate_left
            · intro wz hwz
              try dsimp only at hwz
              go_simp
              try with_reducible rfl
            simp only [Act.put, List.setIfInBounds_toArray, List.set_cons_zero, List.set_cons_succ]
            refine HL.take (i := 20) (oi := _) (v := .int .i64 ((D : Int) + 1)) rfl (by kernel_rfl) (by kernel_rfl) (by decide) (fun _ _ _ h => h) (Or.inl ⟨by rfl, ?_⟩) hS ?_
            · intro wz hwz
              try dsimp only at hwz
              go_simp
              first | done | exact HW3.out | simp only [HW3.out]
            simp only [Act.put, List.setIfInBounds_toArray, List.set_cons_zero, List.set_cons_succ]
            refine HL.take (i := 21) (oi := _) (v := .int .i64 d) rfl (by kernel_rfl) (by kernel_rfl) (by decide) (fun _ _ _ h => h) (Or.inl ⟨by rfl, ?_⟩) hS ?_
            · intro wz hwz
              try dsimp only at hwz
              go_simp
              first | done | exact HW4.out | simp only [HW4.out]
            simp only [Act.put, List.setIfInBounds_toArray, List.set_cons_zero, List.set_cons_succ]
            refine HL.one (i := 15) (o := _) rfl (by kernel_rfl) (by decide) (by rfl) ?_
            intro K hK
            go_simp
            refine (HFA.out _).mono ?_
            rintro e w' ⟨rfl, rfl⟩
            refine hK.out _ _ hS ?_
            try simp only [Act.put, List.setIfInBounds_toArray, List.set_cons_zero, List.set_cons_succ]
            clear hK K
            refine HL.take (i := 16) (oi := _) (v := .int .i64 (x * F)) rfl (by kernel_rfl) (by kernel_rfl) (by decide) (fun _ _ _ h => h) (Or.inl ⟨by rfl, ?_⟩) hS ?_
            · intro wz hwz
              try dsimp only at hwz
              go_simp
              first | done | exact HW2.out | simp only [HW2.out]
            simp only [Act.put, List.setIfInBounds_toArray, List.set_cons_zero, List.set_cons_succ]
            refine HL.one (i := 22) (o := _) rfl (by kernel_rfl) (by decide) (by rfl) ?_
            intro K hK
            go_simp
            refine (HNE.out _).mono ?_
            rintro e w' ⟨rfl, rfl⟩
            refine hK.out _ _ hS ?_
            try simp only [Act.put, List.setIfInBounds_toArray, List.set_cons_zero, List.set_cons_succ]
            clear hK K
            refine HL.done (by kernel_rfl) ?_
            simp only [List.drop_succ_cons, List.drop_zero]
            obtain ⟨hS1, hS2⟩ := hS
            go_wp2
            go_roundw
            case rel => exact ⟨j + 1, by omega, by go_num, _, HP6.out, HI6.out.drew⟩
            case measure => simp [intOf]; omega
          · have hkk : kk = (j : Int) := by have h1 := Hkk.out; have h2 := Hi9.out; unfold fadeK at h1; simp at h1; omega
            rw [hkk] at HFA
            clear hkk
            go_wp2_with fail
            have hS := hcs
            clear hcs hcx
            refine wp_region_head 23 (fun w' => w'.cell? ⟨w.heap.size + 1, 0, none⟩ = some (.int .i64 (p : Int)) ∧ w'.cell? ⟨b', i, none⟩ = some (.int .i64 x)) (by kernel_rfl) (by kernel_rfl) ?_
            refine HL.take (i := 0) (oi := _) (v := ?_) rfl (by kernel_rfl) (by kernel_rfl) (by decide) (fun _ _ _ h => h) (Or.inl ⟨by rfl, ?_⟩) hS ?_
            rotate_left
            · intro wz hwz
              try dsimp only at hwz
              go_simp
              try with_reducible rfl
            simp only [Act.put, List.setIfInBounds_toArray, List.set_cons_zero, List.set_cons_succ]
            refine HL.take (i := 1) (oi := _) (v := ?_) rfl (by kernel_rfl) (by kernel_rfl) (by decide) (fun _ _ _ h => h) (Or.inl ⟨by rfl, ?_⟩) hS ?_
            rotate_left
            · intro wz hwz
              try dsimp only at hwz
              go_simp
              try with_reducible rfl
            simp only [Act.put, List.setIfInBounds_toArray, List.set_cons_zero, List.set_cons_succ]
            refine HL.take (i := 2) (oi := _) (v := ?_) rfl (by kernel_rfl) (by kernel_rfl) (by decide) (fun _ _ _ h => h) (Or.inl ⟨by rfl, ?_⟩) hS ?_
            rotate_left
            · intro wz hwz
              try dsimp only at hwz
              go_simp
              try with_reducible rfl
            simp only [Act.put, List.setIfInBounds_toArray, List.set_cons_zero, List.set_cons_succ]
            refine HL.take (i := 3) (oi := _) (v := ?_) rfl (by kernel_rfl) (by kernel_rfl) (by decide) (fun _ _ _ h => h) (Or.inl ⟨by rfl, ?_⟩) hS ?_
            rotate_left
            · intro wz hwz
              try dsimp only at hwz
              go_simp
              try with_reducible rfl
            simp only [Act.put, List.setIfInBounds_toArray, List.set_cons_zero, List.set_cons_succ]
            refine HL.take (i := 4) (oi := _) (v := .int .i64 (i : Int)) rfl (by kernel_rfl) (by kernel_rfl) (by decide) (fun _ _ _ h => h) (Or.inl ⟨by rfl, ?_⟩) hS ?_
            · intro wz hwz
              try dsimp only at hwz
              go_simp
              first | done | exact HW1.out | simp only [HW1.out]
            simp only [Act.put, List.setIfInBounds_toArray, List.set_cons_zero, List.set_cons_succ]
            refine HL.take (i := 5) (oi := _) (v := ?_) rfl (by kernel_rfl) (by kernel_rfl) (by decide) (fun _ _ _ h => h) (Or.inl ⟨by rfl, ?_⟩) hS ?_
            rotate_left
            · intro wz hwz
              try dsimp only at hwz
              go_simp
              try with_reducible rfl
            simp only [Act.put, List.setIfInBounds_toArray, List.set_cons_zero, List.set_cons_succ]
            refine HL.take (i := 6) (oi := _) (v := ?_) rfl (by kernel_rfl) (by kernel_rfl) (by decide) (fun _ _ _ h => h) (Or.inl ⟨by rfl, ?_⟩) hS ?_
            rotate_left
            · intro wz hwz
              try dsimp only at hwz
              go_simp
              try with_reducible rfl
            simp only [Act.put, List.setIfInBounds_toArray, List.set_cons_zero, List.set_cons_succ]
            refine HL.take (i := 7) (oi := _) (v := ?_) rfl (by kernel_rfl) (by kernel_rfl) (by decide) (fun _ _ _ h => h) (Or.inl ⟨by rfl, ?_⟩) hS ?_
            rotate_left
            · intro wz hwz
              try dsimp only at hwz
              go_simp
              try with_reducible rfl
            simp only [Act.put, List.setIfInBounds_toArray, List.set_cons_zero, List.set_cons_succ]
            refine HL.take (i := 8) (oi := _) (v := ?_) rfl (by kernel_rfl) (by kernel_rfl) (by decide) (fun _ _ _ h => h) (Or.inl ⟨by rfl, ?_⟩) hS ?_
            rotate_left
            · intro wz hwz
              try dsimp only at hwz
              go_simp
              try with_reducible rfl
            simp only [Act.put, List.setIfInBounds_toArray, List.set_cons_zero, List.set_cons_succ]
            refine HL.take (i := 9) (oi := _) (v := .int .i64 (i : Int)) rfl (by kernel_rfl) (by kernel_rfl) (by decide) (fun _ _ _ h => h) (Or.inl ⟨by rfl, ?_⟩) hS ?_
            · intro wz hwz
              try dsimp only at hwz
              go_simp
              first | done | exact HW1.out | simp only [HW1.out]
            simp only [Act.put, List.setIfInBounds_toArray, List.set_cons_zero, List.set_cons_succ]
            refine HL.take (i := 10) (oi := _) (v := ?_) rfl (by kernel_rfl) (by kernel_rfl) (by decide) (fun _ _ _ h => h) (Or.inl ⟨by rfl, ?_⟩) hS ?_
            rotate_left
            · intro wz hwz
              try dsimp only at hwz
              go_simp
              try with_reducible rfl
            simp only [Act.put, List.setIfInBounds_toArray, List.set_cons_zero, List.set_cons_succ]
            refine HL.take (i := 11) (oi := _) (v := ?_) rfl (by kernel_rfl) (by kernel_rfl) (by decide) (fun _ _ _ h => h) (Or.inl ⟨by rfl, ?_⟩) hS ?_
            rotate_left
            · intro wz hwz
              try dsimp only at hwz
              go_simp
              try with_reducible rfl
            simp only [Act.put, List.setIfInBounds_toArray, List.set_cons_zero, List.set_cons_succ]
            refine HL.take (i := 12) (oi := _) (v := ?_) rfl (by kernel_rfl) (by kernel_rfl) (by decide) (fun _ _ _ h => h) (Or.inl ⟨by rfl, ?_⟩) hS ?_
            rotate_left
            · intro wz hwz
              try dsimp only at hwz
              go_simp
              try with_reducible rfl
            simp only [Act.put, List.setIfInBounds_toArray, List.set_cons_zero, List.set_cons_succ]
            refine HL.take (i := 13) (oi := _) (v := ?_) rfl (by kernel_rfl) (by kernel_rfl) (by decide) (fun _ _ _ h => h) (Or.inl ⟨by rfl, ?_⟩) hS ?_
            rotate_left
            · intro wz hwz
              try dsimp only at hwz
              go_simp
              try with_reducible rfl
            simp only [Act.put, List.setIfInBounds_toArray, List.set_cons_zero, List.set_cons_succ]
            refine HL.take (i := 14) (oi := _) (v := ?_) rfl (by kernel_rfl) (by kernel_rfl) (by decide) (fun _ _ _ h => h) (Or.inl ⟨by rfl, ?_⟩) hS ?_
            rotate_left
            · intro wz hwz
              try dsimp only at hwz
              go_simp
              try with_reducible rfl
            simp only [Act.put, List.setIfInBounds_toArray, List.set_cons_zero, List.set_cons_succ]
            refine HL.take (i := 17) (oi := _) (v := ?_) rfl (by kernel_rfl) (by kernel_rfl) (by decide) (fun _ _ _ h => h) (Or.inl ⟨by rfl, ?_⟩) hS ?_
            rotate_left
            · intro wz hwz
              try dsimp only at hwz
              go_simp
              try with_reducible rfl
            simp only [Act.put, List.setIfInBounds_toArray, List.set_cons_zero, List.set_cons_succ]
            refine HL.take (i := 18) (oi := _) (v := .int .i64 ((D : Int) + 1)) rfl (by kernel_rfl) (by kernel_rfl) (by decide) (fun _ _ _ h => h) (Or.inl ⟨by rfl, ?_⟩) hS ?_
            · intro wz hwz
              try dsimp only at hwz
              go_simp
              first | done | exact HW3.out | simp only [HW3.out]
            simp only [Act.put, List.setIfInBounds_toArray, List.set_cons_zero, List.set_cons_succ]
            refine HL.take (i := 19) (oi := _) (v := ?_) rfl (by kernel_rfl) (by kernel_rfl) (by decide) (fun _ _ _ h => h) (Or.inl ⟨by rfl, ?_⟩) hS ?_
            rotate_left
            · intro wz hwz
              try dsimp only at hwz
              go_simp
              try with_reducible rfl
            simp only [Act.put, List.setIfInBounds_toArray, List.set_cons_zero, List.set_cons_succ]
            refine HL.take (i := 20) (oi := _) (v := .int .i64 ((D : Int) + 1)) rfl (by kernel_rfl) (by kernel_rfl) (by decide) (fun _ _ _ h => h) (Or.inl ⟨by rfl, ?_⟩) hS ?_
            · intro wz hwz
              try dsimp only at hwz
              go_simp
              first | done | exact HW3.out | simp only [HW3.out]
            simp only [Act.put, List.setIfInBounds_toArray, List.set_cons_zero, List.set_cons_succ]
            refine HL.take (i := 21) (oi := _) (v := .int .i64 d) rfl (by kernel_rfl) (by kernel_rfl) (by decide) (fun _ _ _ h => h) (Or.inl ⟨by rfl, ?_⟩) hS ?_
            · intro wz hwz
              try dsimp only at hwz
              go_simp
              first | done | exact HW4.out | simp only [HW4.out]
            simp only [Act.put, List.setIfInBounds_toArray, List.set_cons_zero, List.set_cons_succ]
            refine HL.one (i := 15) (o := _) rfl (by kernel_rfl) (by decide) (by rfl) ?_
            intro K hK
            go_simp
            refine (HFA.out _).mono ?_
            rintro e w' ⟨rfl, rfl⟩
            refine hK.out _ _ hS ?_
            try simp only [Act.put, List.setIfInBounds_toArray, List.set_cons_zero, List.set_cons_succ]
            clear hK K
            refine HL.take (i := 16) (oi := _) (v := .int .i64 (x * F)) rfl (by kernel_rfl) (by kernel_rfl) (by decide) (fun _ _ _ h => h) (Or.inl ⟨by rfl, ?_⟩) hS ?_
            · intro wz hwz
              try dsimp only at hwz
              go_simp
              first | done | exact HW2.out | simp only [HW2.out]
            simp only [Act.put, List.setIfInBounds_toArray, List.set_cons_zero, List.set_cons_succ]
            refine HL.one (i := 22) (o := _) rfl (by kernel_rfl) (by decide) (by rfl) ?_
            intro K hK
            go_simp
            refine (HNE.out _).mono ?_
            rintro e w' ⟨rfl, rfl⟩
            refine hK.out _ _ hS ?_
            try simp only [Act.put, List.setIfInBounds_toArray, List.set_cons_zero, List.set_cons_succ]
            clear hK K
            refine HL.done (by kernel_rfl) ?_
            simp only [List.drop_succ_cons, List.drop_zero]
            obtain ⟨hS1, hS2⟩ := hS
            go_wp2
            go_roundw
            case rel => exact ⟨j + 1, by omega, by go_num, _, HP6.out, HI6.out.drew⟩
            case measure => simp [intOf]; omega
        · obtain rfl : j = D := by omega
          go_wp2_with fail
          go_roundw
          case rel => exact ⟨k + 1, by omega, by go_num, zss, hP.out.turn (fun a i ha hi => by
            by_cases h : a = k ∧ p + j ≤ i
            · exact .inr (by rw [HYe.out a i ha hi, fadeV_out (by have := HD.out; omega)])
            · exact .inl (by omega)), hi.out⟩
          case measure => simp [intOf]; omega
    · obtain rfl : k = n := by omega
      have he := HP0.out.all HYl.out HYm.out (fun a i ha _ => .inl (by have := hl.out; omega))
      subst he
      have hcg0 := own_cell1 hF.out.box 0
      have hcg1 := own_cell1 hF.out.box 1
      simp at hcg0 hcg1
      have hz := pcell hF.out.below
      have hcr0 : wr.cell? ⟨w.heap.size + 1 + 1, 0, none⟩ = some (.int .i64 0) := by rw [hz _ (by simp), hcW _ _ (by simp)]; simp [go_sem]
      have hcr1 : wr.cell? ⟨w.heap.size + 1 + 1, 1, none⟩ = some (.slice none 0 0) := by rw [hz _ (by simp), hcW _ _ (by simp)]; simp [go_sem]
      have hfr := fun b o h => ((bcell hF.out.below).2 b o h)
      clear hz HP0
      go_wp2_with fail
      refine end_snd2 rfl rfl rfl hcr0 hcr1 ?_
      have hI9 := hF.out.own
      rw [HY.out]
      have hle := HYl.out.trans hl.out
      exact ⟨_, by simp [hle], ⟨rows, ((hI9.set_below (p := ⟨w.heap.size + 1 + 1, 0, none⟩) (by simp) _).set_below (p := ⟨w.heap.size + 1 + 1, 1, none⟩) (by simp) _).base (show w.heap.size ≤ w.heap.size + 3 by omega)⟩, set2_below (hbW.trans (hF.out.below.mono (by omega))) (by omega)⟩
end Go.Proofs.Ytpnbkkpbgpcgiaa
