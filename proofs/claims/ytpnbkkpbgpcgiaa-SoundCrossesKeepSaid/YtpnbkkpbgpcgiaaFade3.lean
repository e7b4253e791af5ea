/- Fade, the document's, where all is right. -/
import Derived.Test.YtpnbkkpbgpcgiaaFade2
import Derived.Test.YtpnbkkpbgpcgiaaCut
import Derived.Deep.RegionHeld3
import Derived.Deep.DeepCutAuto
set_option linter.unusedSimpArgs false
set_option linter.unusedVariables false
namespace Go.Proofs.Ytpnbkkpbgpcgiaa
open Go.RowKit Go.Dw
attribute [local go_sem ↓] Go.wp_at_zero Go.wp_at_succ

set_option maxRecDepth 100000 in
set_option maxHeartbeats 4000000 in
theorem RFADE_ok (r : Int) (ad : Addr) (n c : Nat) (p q : Nat) (sh : Int) (up : Bool) (xss : List (List Int)) (hok : Hid (OkS r xss)) (hc : Hid (chkS r xss = 0)) (hd : Hid (cutF p q (len0 xss) = 0)) (hpq : p ≤ q) (hqm : q ≤ len0 xss) (hs : Hid (shB sh = true)) (w : World) (B : Nat) (hB : B ≤ w.heap.size) (hh : Hid (RowsAt w B (some ad) n xss)) :
    Calls Try.prog 44 #[.agg #[.int .i64 r, .slice (some ad) n c], .agg #[.int .i64 p, .int .i64 q], .int .i64 sh, .bool up] w (OutS w r (genS (fadeV sh up p q) (len0 xss) xss) 0) := by
  have hl := Lib.hid hh.out.1
  have hn16 : n ≤ 16 := by have := hok.out.few; have := hl.out; omega
  have hn0 : 0 < n := by have := hok.out.some; have := hl.out; omega
  have hn := hn0
  have hm := hok.out.long
  have hq : (chkS r xss != 0) = false := by rw [hc.out]; rfl
  have hq2 : (cutF p q (len0 xss) != 0) = false := by rw [hd.out]; rfl
  obtain ⟨A, hA⟩ : ∃ A, some ad = A := ⟨_, rfl⟩
  have HA := Lib.hid hA
  rw [hA] at hh ⊢
  clear hA
  go_enter Try.func44, Try.ntmps44
  go_wp2_with fail
  refine calls_later (w.heap.size + 3) ?_
  intro W hW hsW
  obtain ⟨hcW, hfW⟩ := bcell hW
  simp only [World.size_alloc] at hsW
  have hbW : Below w.heap.size w W := ((((Below.refl _ w).alloc (Nat.le_refl _) _).alloc (by simp) _).alloc (by simp; omega) _).trans (hW.mono (by omega))
  refine (RCHECK_any r A n c xss _ B (by omega) (hh.out.below hbW hB)).mono ?_
  rintro e w1 ⟨rfl, hb1⟩
  have hS1 : Below (w.heap.size + 3) W w1 := hb1.mono hsW
  have hz1 := pcell hS1
  have hy1 := (bcell hS1).2
  clear hb1
  go_wp2_with fail
  refine (RWITHIN_any r A n c p q xss hn _ B (by have := hS1.size; omega) ((hh.out.below hbW hB).below (hS1.mono (by omega)) (Nat.le_refl _))).mono ?_
  rintro e w2 ⟨rfl, hb2⟩
  have hS2 := Below.next hS1 hsW hb2
  clear hz1 hy1 hb2
  have hz2 := pcell hS2
  have hy2 := (bcell hS2).2
  go_wp2_with fail
  have HSH := Lib.hid (fun w => RISSHAPE_eq sh true hs w)
  go_upto_region 9 with (go_at_call 81; refine (HSH.out _).mono ?_; rintro e w' ⟨rfl, rfl⟩)
  have hs2 := hS2.size
  obtain rfl := HA.out
  have HCU : Hid (cutS r xss 0 (len0 xss : Int) = (r, xss, 0)) := by
    show _ = _
    unfold cutS
    have h1 : cutF 0 (len0 xss : Int) (len0 xss) = 0 := cutF_ok (by omega) (by omega) (by omega)
    rw [if_neg (by simp [hc.out]), if_neg (by simp [h1]), cutXs_all (fun a ha => (hok.out.row ha).1)]
  have HRow : Hid (RowsAt W B (some ad) n xss) := hh.out.below hbW hB
  go_cut [12, 13] (fun s12 s13 wx => ∃ (g : Nat) (V : Value) (rows : List Value), s12 = .pointer (some ⟨g, 0, none⟩) ∧ s13 = .int .i64 0 ∧ Hid (wx.heap[g]? = some (.cells #[.int .i64 r, V] 24 (0, 0))) ∧ Hid (OwnRowsL wx (w.heap.size + 3) V xss rows) ∧ Hid (Below (w.heap.size + 3) W wx) ∧ w.heap.size + 3 ≤ g)
  case first =>
    go_region_held3 (fun w' => Below (w.heap.size + 3) W w' ∧ ∀ z : Addr, z.block < w.heap.size + 3 → w'.cell? z = W.cell? z)
      ((refine (fun h => ⟨h, pcell h⟩) ?_; repeat (first | assumption | exact Below.refl _ _ | (refine Below.drew ?_) | (refine Below.alloc ?_ (by first | omega | (simp; omega) | exact Nat.le_trans hsW (Below.size (by assumption)) | (simp only [World.size_drew, World.size_alloc]; exact Nat.le_trans hsW (Nat.le_succ_of_le (Below.size (by assumption))))) _) | (refine Below.setCell ?_ (by first | omega | (simp; omega) | exact Nat.le_trans hsW (Below.size (by assumption))) _))))
      (first
        | (go_at_call 66; refine (RLONG_any r (some ad) n c xss _ B (Below.ge ‹Below (w.heap.size + 3) W _ ∧ _› hsW (by omega)) (HRow.out.below ((‹Below (w.heap.size + 3) W _ ∧ _›).1.mono (by omega)) (Nat.le_refl _)) hn0).mono ?_; rintro e w7 ⟨rfl, hb7⟩; have hbS := Below.next (‹Below (w.heap.size + 3) W _ ∧ _›).1 hsW hb7; have hz7 := pcell hb7; have hy7 := fun b o => (bcell hb7).2 b o; have hs7 := hb7.size; simp only [World.size_alloc, World.size_drew, Nat.add_one_le_iff] at hs7)
        | (go_at_call 23; refine (RCUT_any r (some ad) n c 0 (len0 xss : Int) xss _ B (Below.ge ‹Below (w.heap.size + 3) W _ ∧ _› hsW (by omega)) (HRow.out.below ((‹Below (w.heap.size + 3) W _ ∧ _›).1.mono (by omega)) (Nat.le_refl _))).mono ?_; rw [HCU.out]; rintro e w8 ⟨v8, rfl, ho8, hb8⟩; obtain ⟨A8, c8, rfl, _, _⟩ := ho8.form; have hbS8 := Below.next (‹Below (w.heap.size + 3) W _ ∧ _›).1 hsW hb8; have hz8 := pcell hb8; have hy8 := fun b o => (bcell hb8).2 b o; have hs8 := hb8.size; (try simp only [World.size_alloc, Nat.add_one_le_iff] at hs8)))
    all_goals (go_wp2_with fail; go_meet)
    · obtain ⟨rows, hL2⟩ := ho8
      have hx1 : w.heap.size + 3 ≤ w7.heap.size := Nat.le_trans hsW hbS.size
      exact ⟨w8.heap.size, _, rows, rfl, rfl, heap_alloc_new _ _, (hL2.alloc _).base hx1, hbS8.alloc (by omega) _, by omega⟩
    · obtain ⟨rows, hL2⟩ := ho8
      have hx1 : w.heap.size + 3 ≤ w7.heap.size := Nat.le_trans hsW hbS.size
      have hb2x := (hb8.block w7.heap.size (by simp)).trans (heap_alloc_new w7 (.cells #[.int .i64 0, .slice none 0 0] 24))
      exact ⟨w7.heap.size, _, rows, rfl, rfl, heap_set2 hb2x, (hL2.base (by simp; omega)).set2_far hb2x (by decide) (by decide) _ _, set2_below hbS8 hx1, hx1⟩
    · obtain ⟨rows, hL2⟩ := ho8
      have hx0 : w.heap.size + 3 ≤ w2.heap.size := Nat.le_trans hsW hS2.size
      have hx1 : w.heap.size + 3 ≤ w7.heap.size := Nat.le_trans hsW hbS.size
      have hb2x := (hb8.block w2.heap.size (by have := hb7.size; simp at this; omega)).trans ((hb7.block w2.heap.size (by simp)).trans (heap_alloc_new w2 (.cells #[.int .i64 0, .slice none 0 0] 24)))
      exact ⟨w2.heap.size, _, rows, rfl, rfl, heap_set2 hb2x, (hL2.base hx1).set2_far hb2x (by decide) (by decide) _ _, set2_below hbS8 hx0, hx0⟩
  case rest =>
    obtain ⟨g, V, rows, rfl, rfl, hbox, hL, hb, hgge⟩ := hcut
    obtain ⟨A3, c3, hVe, hcn1, hcn2⟩ := own_form hL.out.outer
    rw [hl.out] at hVe hcn1
    subst hVe
    obtain ⟨gv, hgv⟩ : ∃ gv, A3 = some ⟨gv, 0, none⟩ := by
      have h1 := hL.out.outer
      rw [hl.out] at h1
      obtain ⟨gv, cap, e, _⟩ := own_slot h1 hn0
      exact ⟨gv, by injection e⟩
    subst hgv
    have HF0 : Hid (FillI (w.heap.size + 3) W g (.int .i64 r) gv n c3 rows wc xss) := ⟨hb.out, hbox.out, hL.out, hgge⟩
    have hz3 := pcell hb.out
    clear hbox hL hb
    go_wp2_with fail
    obtain ⟨D, hD⟩ : ∃ D : Nat, D = q - p := ⟨_, rfl⟩
    have hD1 : (q : Int) - (p : Int) = (D : Int) := by omega
    have HD := Lib.hid hD
    have HD1 := Lib.hid hD1
    rw [hD1]
    have hDm : D ≤ 100000 := by omega
    have hpD : p + D ≤ len0 xss := by omega
    clear hD hD1 hz3
    obtain ⟨Y, hY⟩ : ∃ Y, genS (fadeV sh up p q) (len0 xss) xss = Y := ⟨_, rfl⟩
    have HY := Lib.hid hY
    have HYe : Hid (∀ a i, a < xss.length → i < len0 xss → elOf (rowOf Y a) i = fadeV sh up p q (rowOf xss a) i) := fun a i ha hi => by rw [← hY]; exact genS_el ha hi
    have HYm : Hid (∀ a, a < xss.length → (rowOf Y a).length = len0 xss) := fun a ha => by rw [← hY]; exact genS_len ha
    have HYl : Hid (Y.length = xss.length) := by show _ = _; rw [← hY]; exact genS_length
    clear hY
    have HM0 : Hid (MixOf xss Y xss (len0 xss) (fun a _ => a < 0)) := MixOf.start (fun a ha => (hok.out.row ha).1) (fun _ _ _ _ h => by omega)
    go_loopw [15] (fun i wr => ∃ k : Nat, k ≤ n ∧ i = .int .i64 k ∧ Hid (∃ zss, MixOf xss Y zss (len0 xss) (fun a _ => a < k) ∧ FillI (w.heap.size + 3) W g (.int .i64 r) gv n c3 rows wr zss)) (fun i _ => n - (intOf i).toNat)
    case atStart => exact ⟨0, Nat.zero_le _, rfl, xss, HM0.out, HF0.out⟩
    case round =>
      obtain ⟨k, hk, rfl, hZ⟩ := hrel
      obtain ⟨zs0, hP0, hF0⟩ := hZ.out
      have HP0 := Lib.hid hP0
      have hF := Lib.hid hF0
      clear hP0 hF0 hZ
      by_cases hlt : k < n
      · have hkx : Hid (k < xss.length) := by show _ < _; have := hl.out; omega
        obtain ⟨A9, cap, hrk, hcap1, hcap2, hA9⟩ := fill_slice hF.out (by rw [HP0.out.len]; exact hkx.out) (HP0.out.rows k hkx.out)
        have HR := Lib.hid hrk
        obtain ⟨A', n', c', hadB, hcell0, hn', hc', hi⟩ := hh.out.row hlt
        obtain rfl : n' = len0 xss := hi.1.symm.trans (hok.out.row hkx.out).1
        have hi' := Lib.hid hi
        have HC0 := Lib.hid hcell0
        clear hi hcell0
        unfold maxLen at hc'
        have hk0 : (0 : Int) ≤ (k : Int) := by omega
        have hkn : (k : Int) < (n : Int) := by omega
        unfold maxLen at hcap2
        have hzo := pcell hF.out.below
        clear hrk
        go_wp2_with fail
        clear hzo
        have HZ1 : Hid (∃ zss, MixOf xss Y zss (len0 xss) (fun a i => a < k ∨ (a = k ∧ i < p + 0)) ∧ FillI (w.heap.size + 3) W g (.int .i64 r) gv n c3 rows wr zss) :=
          ⟨zs0, HP0.out.turn (fun a i ha hi => by
            by_cases h : a = k ∧ i < p
            · exact .inr (by rw [HYe.out a i ha hi, fadeV_out (by omega)])
            · exact .inl (by omega)), hF.out⟩
        clear HP0 hF
        obtain ⟨wo, hwo⟩ : ∃ wo : World, wo = wr := ⟨_, rfl⟩
        rw [← hwo] at HZ1 ⊢
        clear hwo
        go_loopw [16] (fun i wi => ∃ j : Nat, j ≤ D ∧ i = .int .i64 j ∧ Hid (∃ zss, MixOf xss Y zss (len0 xss) (fun a i => a < k ∨ (a = k ∧ i < p + j)) ∧ FillI (w.heap.size + 3) W g (.int .i64 r) gv n c3 rows wi zss)) (fun i _ => D - (intOf i).toNat)
        case atStart => exact ⟨0, Nat.zero_le _, rfl, HZ1.out⟩
        case round =>
          obtain ⟨j, hj, rfl, hZ⟩ := hrel
          obtain ⟨zss, hP0, hi0⟩ := hZ.out
          have hP := Lib.hid hP0
          have hi := Lib.hid hi0
          clear hP0 hi0 hZ
          by_cases hjl : j < D
          · obtain ⟨b', rfl⟩ := hA9 (by omega)
            obtain ⟨i, hi9⟩ : ∃ i : Nat, i = p + j := ⟨_, rfl⟩
            have Hi9 := Lib.hid hi9
            have him : i < len0 xss := by omega
            have HW1 : Hid (IntKind.i64.wrap ((p : Int) + (j : Int)) = (i : Int)) := by show _ = _; rw [IntWalk.i64_in _ (by omega)]; omega
            have hbB : Below B w wr := (hbW.mono hB).trans (hi.out.below.mono (show B ≤ w.heap.size + 3 by omega))
            obtain ⟨ad', rfl⟩ := hi'.out.addr (by omega)
            have hcx := ((hi'.out.below hbB (Nat.le_refl _)).at_ him).2
            have hcd := (hbB.cell (p := ad.add k) (by rw [block_of_add]; omega)).trans HC0.out
            have hcs1 : wr.cell? ⟨w.heap.size, 1, none⟩ = some (.slice (some ad) n c) := by rw [pcell hi.out.below _ (by simp), hcW _ _ (by simp)]; simp [go_sem]
            have hcg := hi.out.cells HR.out
            clear hbB
            obtain ⟨x1, x2⟩ := hok.out.el hkx.out him
            have HE : Hid (elOf (rowOf Y k) i = nearI (elOf (rowOf xss k) i * facS sh (fadeK up p q i) D) (((D : Int) + 1) * ((D : Int) + 1))) := by
              show _ = _
              rw [HYe.out k i hkx.out him, fadeV_in (by omega) (by have := HD.out; omega), HD1.out]
            obtain ⟨kk, hkk⟩ : ∃ kk, fadeK up p q i = kk := ⟨_, rfl⟩
            have hkb := fadeK_bd (up := up) (p := p) (q := q) (i := i) (by omega) (by have := HD.out; omega)
            rw [hkk, HD1.out] at hkb
            obtain ⟨hkb1, hkb2⟩ := hkb
            rw [hkk] at HE
            obtain ⟨F1, F2, F3, F4, -⟩ := facS_bd (sh := sh) hkb1 hkb2 (show (D : Int) ≤ 100000 by omega)
            have HFA := Lib.hid (fun w => RFACTOR_any sh kk D hkb1 hkb2 (show (D : Int) ≤ 100000 by omega) w)
            obtain ⟨F, hF9⟩ : ∃ F, facS sh kk D = F := ⟨_, rfl⟩
            rw [hF9] at HE HFA F1 F2
            obtain ⟨x, hx⟩ : ∃ x, elOf (rowOf xss k) i = x := ⟨_, rfl⟩
            rw [hx] at hcx x1 x2 HE
            obtain ⟨d, hd9⟩ : ∃ d, ((D : Int) + 1) * ((D : Int) + 1) = d := ⟨_, rfl⟩
            rw [hd9] at HE F2 F3 F4
            obtain ⟨P1, P2⟩ := fade_bd x1 x2 F1 F2 F3
            have HW2 := Lib.hid (IntWalk.i64_in (x * F) (by omega))
            have HW3 := Lib.hid (IntWalk.i64_in ((D : Int) + 1) (by omega))
            have HW4 : Hid (IntKind.i64.wrap (((D : Int) + 1) * ((D : Int) + 1)) = d) := by show _ = _; rw [hd9]; exact IntWalk.i64_in _ (by omega)
            have HNE : Hid (∀ (wz : World) (R : Ending → World → Prop), (∀ qn, R (.returned (.int .i64 (nearI (x * F) d))) (wz.drewN qn)) → Calls Try.prog 68 #[.int .i64 (x * F), .int .i64 d] wz R) := by
              have b1 : (-1000000000000000000 : Int) ≤ x * F := by omega
              have b2 : x * F ≤ 1000000000000000000 := by omega
              exact fun wz R hR => (RNEAR_any (x * F) d F4 (by omega) b1 b2 wz).mono fun e w' ⟨he, qn, hw⟩ => by rw [he, hw]; exact hR qn
            have Hkk := Lib.hid hkk
            have hsp0 : wr.cell? ⟨w.heap.size + 1, 0, none⟩ = some (.int .i64 (p : Int)) := by
              rw [pcell hi.out.below _ (by simp), hcW _ _ (by simp)]; simp [go_sem]
            have hi0 : (0 : Int) ≤ (i : Int) := by omega
            have hin : (i : Int) < (len0 xss : Int) := by omega
            have hj0 : (0 : Int) ≤ (j : Int) := by omega
            have hjn : (j : Int) < (D : Int) := by omega
            obtain ⟨⟨vo, hvo⟩, hfz⟩ := hi.out.elem HR.out him
            have HI6 : Hid (∀ qn, FillI (w.heap.size + 3) W g (.int .i64 r) gv n c3 rows ((wr.drewN qn).setCell ⟨b', i, none⟩ (.int .i64 (nearI (x * F) d))) (zss.set k ((rowOf zss k).set i (nearI (x * F) d)))) := fun qn => (hi.out.drewN qn).set_ HR.out i (nearI (x * F) d)
            have HP6 : Hid (MixOf xss Y (zss.set k ((rowOf zss k).set i (nearI (x * F) d))) (len0 xss) (fun a i => a < k ∨ (a = k ∧ i < p + (j + 1)))) :=
              hP.out.set_ hkx.out him HE.out (fun a i ha hi => by have := Hi9.out; omega)
            clear hkk hF9 hx hd9 HE F1 F2 F3 F4 P1 P2 x1 x2 hi9
            have hcs : ((wr.drew.cell? ⟨g, 1, none⟩ = some (.slice (some ⟨gv, 0, none⟩) n c3) ∧ wr.drew.cell? ⟨gv, k, none⟩ = some (.slice (some ⟨b', 0, none⟩) (len0 xss) cap)) ∧ wr.drew.cell? ⟨w.heap.size, 1, none⟩ = some (.slice (some ad) n c) ∧ wr.drew.cell? (ad.add k) = some (.slice (some ad') (len0 xss) c')) ∧ wr.drew.cell? ⟨w.heap.size + 1, 0, none⟩ = some (.int .i64 (p : Int)) ∧ wr.drew.cell? (ad'.add i) = some (.int .i64 x) := ⟨⟨hcg, hcs1, hcd⟩, hsp0, hcx⟩
            clear hsp0 hcs1 hcd hcg
            cases up
            · have hkk : kk = (D : Int) - 1 - (j : Int) := by have h1 := Hkk.out; have h2 := Hi9.out; have h3 := HD1.out; unfold fadeK at h1; simp at h1; omega
              rw [hkk] at HFA
              clear hkk
              go_wp2_with fail
              have hS := hcs
              clear hcs hcx
              refine wp_region_head 31 (fun w' => ((w'.cell? ⟨g, 1, none⟩ = some (.slice (some ⟨gv, 0, none⟩) n c3) ∧ w'.cell? ⟨gv, k, none⟩ = some (.slice (some ⟨b', 0, none⟩) (len0 xss) cap)) ∧ w'.cell? ⟨w.heap.size, 1, none⟩ = some (.slice (some ad) n c) ∧ w'.cell? (ad.add k) = some (.slice (some ad') (len0 xss) c')) ∧ w'.cell? ⟨w.heap.size + 1, 0, none⟩ = some (.int .i64 (p : Int)) ∧ w'.cell? (ad'.add i) = some (.int .i64 x)) (by kernel_rfl) (by kernel_rfl) ?_
              refine HL.take (i := 0) (oi := _) (v := ?_) rfl (by kernel_rfl) (by kernel_rfl) (by decide) (fun _ _ _ h => h) (Or.inl ⟨by rfl, ?_⟩) hS ?_
              rotate_left
              · intro wz hwz
                try dsimp only at hwz
                go_simp
                try with_reducible rfl
              simp only [Act.put, List.setIfInBounds_toArray, List.set_cons_zero, List.set_cons_succ]
              refine HL.take (i := 1) (oi := _) (v := ?_) rfl (by kernel_rfl) (by kernel_rfl) (by decide) (fun _ _ _ h => h) (Or.inl ⟨by rfl, ?_⟩) hS ?_
              rotate_left
              · intro wz hwz
                try dsimp only at hwz
                go_simp
                try with_reducible rfl
              simp only [Act.put, List.setIfInBounds_toArray, List.set_cons_zero, List.set_cons_succ]
              refine HL.take (i := 2) (oi := _) (v := ?_) rfl (by kernel_rfl) (by kernel_rfl) (by decide) (fun _ _ _ h => h) (Or.inl ⟨by rfl, ?_⟩) hS ?_
              rotate_left
              · intro wz hwz
                try dsimp only at hwz
                go_simp
                try with_reducible rfl
              simp only [Act.put, List.setIfInBounds_toArray, List.set_cons_zero, List.set_cons_succ]
              refine HL.take (i := 3) (oi := _) (v := ?_) rfl (by kernel_rfl) (by kernel_rfl) (by decide) (fun _ _ _ h => h) (Or.inl ⟨by rfl, ?_⟩) hS ?_
              rotate_left
              · intro wz hwz
                try dsimp only at hwz
                go_simp
                try with_reducible rfl
              simp only [Act.put, List.setIfInBounds_toArray, List.set_cons_zero, List.set_cons_succ]
              refine HL.take (i := 4) (oi := _) (v := ?_) rfl (by kernel_rfl) (by kernel_rfl) (by decide) (fun _ _ _ h => h) (Or.inl ⟨by rfl, ?_⟩) hS ?_
              rotate_left
              · intro wz hwz
                try dsimp only at hwz
                go_simp
                try with_reducible rfl
              simp only [Act.put, List.setIfInBounds_toArray, List.set_cons_zero, List.set_cons_succ]
              refine HL.take (i := 5) (oi := _) (v := ?_) rfl (by kernel_rfl) (by kernel_rfl) (by decide) (fun _ _ _ h => h) (Or.inl ⟨by rfl, ?_⟩) hS ?_
              rotate_left
              · intro wz hwz
                try dsimp only at hwz
                go_simp
                try with_reducible rfl
              simp only [Act.put, List.setIfInBounds_toArray, List.set_cons_zero, List.set_cons_succ]
              refine HL.take (i := 6) (oi := _) (v := ?_) rfl (by kernel_rfl) (by kernel_rfl) (by decide) (fun _ _ _ h => h) (Or.inl ⟨by rfl, ?_⟩) hS ?_
              rotate_left
              · intro wz hwz
                try dsimp only at hwz
                go_simp
                try with_reducible rfl
              simp only [Act.put, List.setIfInBounds_toArray, List.set_cons_zero, List.set_cons_succ]
              refine HL.take (i := 7) (oi := _) (v := ?_) rfl (by kernel_rfl) (by kernel_rfl) (by decide) (fun _ _ _ h => h) (Or.inl ⟨by rfl, ?_⟩) hS ?_
              rotate_left
              · intro wz hwz
                try dsimp only at hwz
                go_simp
                try with_reducible rfl
              simp only [Act.put, List.setIfInBounds_toArray, List.set_cons_zero, List.set_cons_succ]
              refine HL.take (i := 8) (oi := _) (v := .int .i64 (i : Int)) rfl (by kernel_rfl) (by kernel_rfl) (by decide) (fun _ _ _ h => h) (Or.inl ⟨by rfl, ?_⟩) hS ?_
              · intro wz hwz
                try dsimp only at hwz
                go_simp
                first | done | exact HW1.out | simp only [HW1.out]
              simp only [Act.put, List.setIfInBounds_toArray, List.set_cons_zero, List.set_cons_succ]
              refine HL.take (i := 9) (oi := _) (v := ?_) rfl (by kernel_rfl) (by kernel_rfl) (by decide) (fun _ _ _ h => h) (Or.inl ⟨by rfl, ?_⟩) hS ?_
              rotate_left
              · intro wz hwz
                try dsimp only at hwz
                go_simp
                try with_reducible rfl
              simp only [Act.put, List.setIfInBounds_toArray, List.set_cons_zero, List.set_cons_succ]
              refine HL.take (i := 10) (oi := _) (v := ?_) rfl (by kernel_rfl) (by kernel_rfl) (by decide) (fun _ _ _ h => h) (Or.inl ⟨by rfl, ?_⟩) hS ?_
              rotate_left
              · intro wz hwz
                try dsimp only at hwz
                go_simp
                try with_reducible rfl
              simp only [Act.put, List.setIfInBounds_toArray, List.set_cons_zero, List.set_cons_succ]
              refine HL.take (i := 11) (oi := _) (v := ?_) rfl (by kernel_rfl) (by kernel_rfl) (by decide) (fun _ _ _ h => h) (Or.inl ⟨by rfl, ?_⟩) hS ?_
              rotate_left
              · intro wz hwz
                try dsimp only at hwz
                go_simp
                try with_reducible rfl
              simp only [Act.put, List.setIfInBounds_toArray, List.set_cons_zero, List.set_cons_succ]
              refine HL.take (i := 12) (oi := _) (v := ?_) rfl (by kernel_rfl) (by kernel_rfl) (by decide) (fun _ _ _ h => h) (Or.inl ⟨by rfl, ?_⟩) hS ?_
              rotate_left
              · intro wz hwz
                try dsimp only at hwz
                go_simp
                try with_reducible rfl
              simp only [Act.put, List.setIfInBounds_toArray, List.set_cons_zero, List.set_cons_succ]
              refine HL.take (i := 13) (oi := _) (v := ?_) rfl (by kernel_rfl) (by kernel_rfl) (by decide) (fun _ _ _ h => h) (Or.inl ⟨by rfl, ?_⟩) hS ?_
              rotate_left
              · intro wz hwz
                try dsimp only at hwz
                go_simp
                try with_reducible rfl
              simp only [Act.put, List.setIfInBounds_toArray, List.set_cons_zero, List.set_cons_succ]
              refine HL.take (i := 14) (oi := _) (v := ?_) rfl (by kernel_rfl) (by kernel_rfl) (by decide) (fun _ _ _ h => h) (Or.inl ⟨by rfl, ?_⟩) hS ?_
              rotate_left
              · intro wz hwz
                try dsimp only at hwz
                go_simp
                try with_reducible rfl
              simp only [Act.put, List.setIfInBounds_toArray, List.set_cons_zero, List.set_cons_succ]
              refine HL.take (i := 15) (oi := _) (v := ?_) rfl (by kernel_rfl) (by kernel_rfl) (by decide) (fun _ _ _ h => h) (Or.inl ⟨by rfl, ?_⟩) hS ?_
              rotate_left
              · intro wz hwz
                try dsimp only at hwz
                go_simp
                try with_reducible rfl
              simp only [Act.put, List.setIfInBounds_toArray, List.set_cons_zero, List.set_cons_succ]
              refine HL.take (i := 16) (oi := _) (v := ?_) rfl (by kernel_rfl) (by kernel_rfl) (by decide) (fun _ _ _ h => h) (Or.inl ⟨by rfl, ?_⟩) hS ?_
              rotate_left
              · intro wz hwz
                try dsimp only at hwz
                go_simp
                try with_reducible rfl
              simp only [Act.put, List.setIfInBounds_toArray, List.set_cons_zero, List.set_cons_succ]
              refine HL.take (i := 17) (oi := _) (v := .int .i64 (i : Int)) rfl (by kernel_rfl) (by kernel_rfl) (by decide) (fun _ _ _ h => h) (Or.inl ⟨by rfl, ?_⟩) hS ?_
              · intro wz hwz
                try dsimp only at hwz
                go_simp
                first | done | exact HW1.out | simp only [HW1.out]
              simp only [Act.put, List.setIfInBounds_toArray, List.set_cons_zero, List.set_cons_succ]
              refine HL.take (i := 18) (oi := _) (v := ?_) rfl (by kernel_rfl) (by kernel_rfl) (by decide) (fun _ _ _ h => h) (Or.inl ⟨by rfl, ?_⟩) hS ?_
              rotate_left
              · intro wz hwz
                try dsimp only at hwz
                go_simp
                try with_reducible rfl
              simp only [Act.put, List.setIfInBounds_toArray, List.set_cons_zero, List.set_cons_succ]
              refine HL.take (i := 19) (oi := _) (v := ?_) rfl (by kernel_rfl) (by kernel_rfl) (by decide) (fun _ _ _ h => h) (Or.inl ⟨by rfl, ?_⟩) hS ?_
              rotate_left
              · intro wz hwz
                try dsimp only at hwz
                go_simp
                try with_reducible rfl
              simp only [Act.put, List.setIfInBounds_toArray, List.set_cons_zero, List.set_cons_succ]
              refine HL.take (i := 20) (oi := _) (v := ?_) rfl (by kernel_rfl) (by kernel_rfl) (by decide) (fun _ _ _ h => h) (Or.inl ⟨by rfl, ?_⟩) hS ?_
              rotate_left
              · intro wz hwz
                try dsimp only at hwz
                go_simp
                try with_reducible rfl
              simp only [Act.put, List.setIfInBounds_toArray, List.set_cons_zero, List.set_cons_succ]
              refine HL.take (i := 21) (oi := _) (v := ?_) rfl (by kernel_rfl) (by kernel_rfl) (by decide) (fun _ _ _ h => h) (Or.inl ⟨by rfl, ?_⟩) hS ?_
              rotate_left
              · intro wz hwz
                try dsimp only at hwz
                go_simp
                try with_reducible rfl
              simp only [Act.put, List.setIfInBounds_toArray, List.set_cons_zero, List.set_cons_succ]
              refine HL.take (i := 22) (oi := _) (v := ?_) rfl (by kernel_rfl) (by kernel_rfl) (by decide) (fun _ _ _ h => h) (Or.inl ⟨by rfl, ?_⟩) hS ?_
              rotate_left
              · intro wz hwz
                try dsimp only at hwz
                go_simp
                try with_reducible rfl
              simp only [Act.put, List.setIfInBounds_toArray, List.set_cons_zero, List.set_cons_succ]
              refine HL.take (i := 25) (oi := _) (v := ?_) rfl (by kernel_rfl) (by kernel_rfl) (by decide) (fun _ _ _ h => h) (Or.inl ⟨by rfl, ?_⟩) hS ?_
              rotate_left
              · intro wz hwz
                try dsimp only at hwz
                go_simp
                try with_reducible rfl
              simp only [Act.put, List.setIfInBounds_toArray, List.set_cons_zero, List.set_cons_succ]
              refine HL.take (i := 26) (oi := _) (v := .int .i64 ((D : Int) + 1)) rfl (by kernel_rfl) (by kernel_rfl) (by decide) (fun _ _ _ h => h) (Or.inl ⟨by rfl, ?_⟩) hS ?_
              · intro wz hwz
                try dsimp only at hwz
                go_simp
                first | done | exact HW3.out | simp only [HW3.out]
              simp only [Act.put, List.setIfInBounds_toArray, List.set_cons_zero, List.set_cons_succ]
              refine HL.take (i := 27) (oi := _) (v := ?_) rfl (by kernel_rfl) (by kernel_rfl) (by decide) (fun _ _ _ h => h) (Or.inl ⟨by rfl, ?_⟩) hS ?_
              rotate_left
              · intro wz hwz
                try dsimp only at hwz
                go_simp
                try with_reducible rfl
              simp only [Act.put, List.setIfInBounds_toArray, List.set_cons_zero, List.set_cons_succ]
              refine HL.take (i := 28) (oi := _) (v := .int .i64 ((D : Int) + 1)) rfl (by kernel_rfl) (by kernel_rfl) (by decide) (fun _ _ _ h => h) (Or.inl ⟨by rfl, ?_⟩) hS ?_
              · intro wz hwz
                try dsimp only at hwz
                go_simp
                first | done | exact HW3.out | simp only [HW3.out]
              simp only [Act.put, List.setIfInBounds_toArray, List.set_cons_zero, List.set_cons_succ]
              refine HL.take (i := 29) (oi := _) (v := .int .i64 d) rfl (by kernel_rfl) (by kernel_rfl) (by decide) (fun _ _ _ h => h) (Or.inl ⟨by rfl, ?_⟩) hS ?_
              · intro wz hwz
                try dsimp only at hwz
                go_simp
                first | done | exact HW4.out | simp only [HW4.out]
              simp only [Act.put, List.setIfInBounds_toArray, List.set_cons_zero, List.set_cons_succ]
              refine HL.one (i := 23) (o := _) rfl (by kernel_rfl) (by decide) (by rfl) ?_
              intro K hK
              go_simp
              refine (HFA.out _).mono ?_
              rintro e w' ⟨rfl, rfl⟩
              refine hK.out _ _ hS ?_
              try simp only [Act.put, List.setIfInBounds_toArray, List.set_cons_zero, List.set_cons_succ]
              clear hK K
              refine HL.take (i := 24) (oi := _) (v := .int .i64 (x * F)) rfl (by kernel_rfl) (by kernel_rfl) (by decide) (fun _ _ _ h => h) (Or.inl ⟨by rfl, ?_⟩) hS ?_
              · intro wz hwz
                try dsimp only at hwz
                go_simp
                first | done | exact HW2.out | simp only [HW2.out]
              simp only [Act.put, List.setIfInBounds_toArray, List.set_cons_zero, List.set_cons_succ]
              refine HL.one (i := 30) (o := _) rfl (by kernel_rfl) (by decide) (by rfl) ?_
              intro K hK
              go_simp
              refine HNE.out _ _ (fun qn => ?_)
              refine hK.out _ _ hS ?_
              try simp only [Act.put, List.setIfInBounds_toArray, List.set_cons_zero, List.set_cons_succ]
              clear hK K
              refine HL.done (by kernel_rfl) ?_
              simp only [List.drop_succ_cons, List.drop_zero]
              go_wp2
              go_roundw
              case rel => exact ⟨j + 1, by omega, by go_num, _, HP6.out, HI6.out _⟩
              case measure => simp [intOf]; omega
            · have hkk : kk = (j : Int) := by have h1 := Hkk.out; have h2 := Hi9.out; unfold fadeK at h1; simp at h1; omega
              rw [hkk] at HFA
              clear hkk
              go_wp2_with fail
              have hS := hcs
              clear hcs hcx
              refine wp_region_head 31 (fun w' => ((w'.cell? ⟨g, 1, none⟩ = some (.slice (some ⟨gv, 0, none⟩) n c3) ∧ w'.cell? ⟨gv, k, none⟩ = some (.slice (some ⟨b', 0, none⟩) (len0 xss) cap)) ∧ w'.cell? ⟨w.heap.size, 1, none⟩ = some (.slice (some ad) n c) ∧ w'.cell? (ad.add k) = some (.slice (some ad') (len0 xss) c')) ∧ w'.cell? ⟨w.heap.size + 1, 0, none⟩ = some (.int .i64 (p : Int)) ∧ w'.cell? (ad'.add i) = some (.int .i64 x)) (by kernel_rfl) (by kernel_rfl) ?_
              refine HL.take (i := 0) (oi := _) (v := ?_) rfl (by kernel_rfl) (by kernel_rfl) (by decide) (fun _ _ _ h => h) (Or.inl ⟨by rfl, ?_⟩) hS ?_
              rotate_left
              · intro wz hwz
                try dsimp only at hwz
                go_simp
                try with_reducible rfl
              simp only [Act.put, List.setIfInBounds_toArray, List.set_cons_zero, List.set_cons_succ]
              refine HL.take (i := 1) (oi := _) (v := ?_) rfl (by kernel_rfl) (by kernel_rfl) (by decide) (fun _ _ _ h => h) (Or.inl ⟨by rfl, ?_⟩) hS ?_
              rotate_left
              · intro wz hwz
                try dsimp only at hwz
                go_simp
                try with_reducible rfl
              simp only [Act.put, List.setIfInBounds_toArray, List.set_cons_zero, List.set_cons_succ]
              refine HL.take (i := 2) (oi := _) (v := ?_) rfl (by kernel_rfl) (by kernel_rfl) (by decide) (fun _ _ _ h => h) (Or.inl ⟨by rfl, ?_⟩) hS ?_
              rotate_left
              · intro wz hwz
                try dsimp only at hwz
                go_simp
                try with_reducible rfl
              simp only [Act.put, List.setIfInBounds_toArray, List.set_cons_zero, List.set_cons_succ]
              refine HL.take (i := 3) (oi := _) (v := ?_) rfl (by kernel_rfl) (by kernel_rfl) (by decide) (fun _ _ _ h => h) (Or.inl ⟨by rfl, ?_⟩) hS ?_
              rotate_left
              · intro wz hwz
                try dsimp only at hwz
                go_simp
                try with_reducible rfl
              simp only [Act.put, List.setIfInBounds_toArray, List.set_cons_zero, List.set_cons_succ]
              refine HL.take (i := 4) (oi := _) (v := ?_) rfl (by kernel_rfl) (by kernel_rfl) (by decide) (fun _ _ _ h => h) (Or.inl ⟨by rfl, ?_⟩) hS ?_
              rotate_left
              · intro wz hwz
                try dsimp only at hwz
                go_simp
                try with_reducible rfl
              simp only [Act.put, List.setIfInBounds_toArray, List.set_cons_zero, List.set_cons_succ]
              refine HL.take (i := 5) (oi := _) (v := ?_) rfl (by kernel_rfl) (by kernel_rfl) (by decide) (fun _ _ _ h => h) (Or.inl ⟨by rfl, ?_⟩) hS ?_
              rotate_left
              · intro wz hwz
                try dsimp only at hwz
                go_simp
                try with_reducible rfl
              simp only [Act.put, List.setIfInBounds_toArray, List.set_cons_zero, List.set_cons_succ]
              refine HL.take (i := 6) (oi := _) (v := ?_) rfl (by kernel_rfl) (by kernel_rfl) (by decide) (fun _ _ _ h => h) (Or.inl ⟨by rfl, ?_⟩) hS ?_
              rotate_left
              · intro wz hwz
                try dsimp only at hwz
                go_simp
                try with_reducible rfl
              simp only [Act.put, List.setIfInBounds_toArray, List.set_cons_zero, List.set_cons_succ]
              refine HL.take (i := 7) (oi := _) (v := ?_) rfl (by kernel_rfl) (by kernel_rfl) (by decide) (fun _ _ _ h => h) (Or.inl ⟨by rfl, ?_⟩) hS ?_
              rotate_left
              · intro wz hwz
                try dsimp only at hwz
                go_simp
                try with_reducible rfl
              simp only [Act.put, List.setIfInBounds_toArray, List.set_cons_zero, List.set_cons_succ]
              refine HL.take (i := 8) (oi := _) (v := .int .i64 (i : Int)) rfl (by kernel_rfl) (by kernel_rfl) (by decide) (fun _ _ _ h => h) (Or.inl ⟨by rfl, ?_⟩) hS ?_
              · intro wz hwz
                try dsimp only at hwz
                go_simp
                first | done | exact HW1.out | simp only [HW1.out]
              simp only [Act.put, List.setIfInBounds_toArray, List.set_cons_zero, List.set_cons_succ]
              refine HL.take (i := 9) (oi := _) (v := ?_) rfl (by kernel_rfl) (by kernel_rfl) (by decide) (fun _ _ _ h => h) (Or.inl ⟨by rfl, ?_⟩) hS ?_
              rotate_left
              · intro wz hwz
                try dsimp only at hwz
                go_simp
                try with_reducible rfl
              simp only [Act.put, List.setIfInBounds_toArray, List.set_cons_zero, List.set_cons_succ]
              refine HL.take (i := 10) (oi := _) (v := ?_) rfl (by kernel_rfl) (by kernel_rfl) (by decide) (fun _ _ _ h => h) (Or.inl ⟨by rfl, ?_⟩) hS ?_
              rotate_left
              · intro wz hwz
                try dsimp only at hwz
                go_simp
                try with_reducible rfl
              simp only [Act.put, List.setIfInBounds_toArray, List.set_cons_zero, List.set_cons_succ]
              refine HL.take (i := 11) (oi := _) (v := ?_) rfl (by kernel_rfl) (by kernel_rfl) (by decide) (fun _ _ _ h => h) (Or.inl ⟨by rfl, ?_⟩) hS ?_
              rotate_left
              · intro wz hwz
                try dsimp only at hwz
                go_simp
                try with_reducible rfl
              simp only [Act.put, List.setIfInBounds_toArray, List.set_cons_zero, List.set_cons_succ]
              refine HL.take (i := 12) (oi := _) (v := ?_) rfl (by kernel_rfl) (by kernel_rfl) (by decide) (fun _ _ _ h => h) (Or.inl ⟨by rfl, ?_⟩) hS ?_
              rotate_left
              · intro wz hwz
                try dsimp only at hwz
                go_simp
                try with_reducible rfl
              simp only [Act.put, List.setIfInBounds_toArray, List.set_cons_zero, List.set_cons_succ]
              refine HL.take (i := 13) (oi := _) (v := ?_) rfl (by kernel_rfl) (by kernel_rfl) (by decide) (fun _ _ _ h => h) (Or.inl ⟨by rfl, ?_⟩) hS ?_
              rotate_left
              · intro wz hwz
                try dsimp only at hwz
                go_simp
                try with_reducible rfl
              simp only [Act.put, List.setIfInBounds_toArray, List.set_cons_zero, List.set_cons_succ]
              refine HL.take (i := 14) (oi := _) (v := ?_) rfl (by kernel_rfl) (by kernel_rfl) (by decide) (fun _ _ _ h => h) (Or.inl ⟨by rfl, ?_⟩) hS ?_
              rotate_left
              · intro wz hwz
                try dsimp only at hwz
                go_simp
                try with_reducible rfl
              simp only [Act.put, List.setIfInBounds_toArray, List.set_cons_zero, List.set_cons_succ]
              refine HL.take (i := 15) (oi := _) (v := ?_) rfl (by kernel_rfl) (by kernel_rfl) (by decide) (fun _ _ _ h => h) (Or.inl ⟨by rfl, ?_⟩) hS ?_
              rotate_left
              · intro wz hwz
                try dsimp only at hwz
                go_simp
                try with_reducible rfl
              simp only [Act.put, List.setIfInBounds_toArray, List.set_cons_zero, List.set_cons_succ]
              refine HL.take (i := 16) (oi := _) (v := ?_) rfl (by kernel_rfl) (by kernel_rfl) (by decide) (fun _ _ _ h => h) (Or.inl ⟨by rfl, ?_⟩) hS ?_
              rotate_left
              · intro wz hwz
                try dsimp only at hwz
                go_simp
                try with_reducible rfl
              simp only [Act.put, List.setIfInBounds_toArray, List.set_cons_zero, List.set_cons_succ]
              refine HL.take (i := 17) (oi := _) (v := .int .i64 (i : Int)) rfl (by kernel_rfl) (by kernel_rfl) (by decide) (fun _ _ _ h => h) (Or.inl ⟨by rfl, ?_⟩) hS ?_
              · intro wz hwz
                try dsimp only at hwz
                go_simp
                first | done | exact HW1.out | simp only [HW1.out]
              simp only [Act.put, List.setIfInBounds_toArray, List.set_cons_zero, List.set_cons_succ]
              refine HL.take (i := 18) (oi := _) (v := ?_) rfl (by kernel_rfl) (by kernel_rfl) (by decide) (fun _ _ _ h => h) (Or.inl ⟨by rfl, ?_⟩) hS ?_
              rotate_left
              · intro wz hwz
                try dsimp only at hwz
                go_simp
                try with_reducible rfl
              simp only [Act.put, List.setIfInBounds_toArray, List.set_cons_zero, List.set_cons_succ]
              refine HL.take (i := 19) (oi := _) (v := ?_) rfl (by kernel_rfl) (by kernel_rfl) (by decide) (fun _ _ _ h => h) (Or.inl ⟨by rfl, ?_⟩) hS ?_
              rotate_left
              · intro wz hwz
                try dsimp only at hwz
                go_simp
                try with_reducible rfl
              simp only [Act.put, List.setIfInBounds_toArray, List.set_cons_zero, List.set_cons_succ]
              refine HL.take (i := 20) (oi := _) (v := ?_) rfl (by kernel_rfl) (by kernel_rfl) (by decide) (fun _ _ _ h => h) (Or.inl ⟨by rfl, ?_⟩) hS ?_
              rotate_left
              · intro wz hwz
                try dsimp only at hwz
                go_simp
                try with_reducible rfl
              simp only [Act.put, List.setIfInBounds_toArray, List.set_cons_zero, List.set_cons_succ]
              refine HL.take (i := 21) (oi := _) (v := ?_) rfl (by kernel_rfl) (by kernel_rfl) (by decide) (fun _ _ _ h => h) (Or.inl ⟨by rfl, ?_⟩) hS ?_
              rotate_left
              · intro wz hwz
                try dsimp only at hwz
                go_simp
                try with_reducible rfl
              simp only [Act.put, List.setIfInBounds_toArray, List.set_cons_zero, List.set_cons_succ]
              refine HL.take (i := 22) (oi := _) (v := ?_) rfl (by kernel_rfl) (by kernel_rfl) (by decide) (fun _ _ _ h => h) (Or.inl ⟨by rfl, ?_⟩) hS ?_
              rotate_left
              · intro wz hwz
                try dsimp only at hwz
                go_simp
                try with_reducible rfl
              simp only [Act.put, List.setIfInBounds_toArray, List.set_cons_zero, List.set_cons_succ]
              refine HL.take (i := 25) (oi := _) (v := ?_) rfl (by kernel_rfl) (by kernel_rfl) (by decide) (fun _ _ _ h => h) (Or.inl ⟨by rfl, ?_⟩) hS ?_
              rotate_left
              · intro wz hwz
                try dsimp only at hwz
                go_simp
                try with_reducible rfl
              simp only [Act.put, List.setIfInBounds_toArray, List.set_cons_zero, List.set_cons_succ]
              refine HL.take (i := 26) (oi := _) (v := .int .i64 ((D : Int) + 1)) rfl (by kernel_rfl) (by kernel_rfl) (by decide) (fun _ _ _ h => h) (Or.inl ⟨by rfl, ?_⟩) hS ?_
              · intro wz hwz
                try dsimp only at hwz
                go_simp
                first | done | exact HW3.out | simp only [HW3.out]
              simp only [Act.put, List.setIfInBounds_toArray, List.set_cons_zero, List.set_cons_succ]
              refine HL.take (i := 27) (oi := _) (v := ?_) rfl (by kernel_rfl) (by kernel_rfl) (by decide) (fun _ _ _ h => h) (Or.inl ⟨by rfl, ?_⟩) hS ?_
              rotate_left
              · intro wz hwz
                try dsimp only at hwz
                go_simp
                try with_reducible rfl
              simp only [Act.put, List.setIfInBounds_toArray, List.set_cons_zero, List.set_cons_succ]
              refine HL.take (i := 28) (oi := _) (v := .int .i64 ((D : Int) + 1)) rfl (by kernel_rfl) (by kernel_rfl) (by decide) (fun _ _ _ h => h) (Or.inl ⟨by rfl, ?_⟩) hS ?_
              · intro wz hwz
                try dsimp only at hwz
                go_simp
                first | done | exact HW3.out | simp only [HW3.out]
              simp only [Act.put, List.setIfInBounds_toArray, List.set_cons_zero, List.set_cons_succ]
              refine HL.take (i := 29) (oi := _) (v := .int .i64 d) rfl (by kernel_rfl) (by kernel_rfl) (by decide) (fun _ _ _ h => h) (Or.inl ⟨by rfl, ?_⟩) hS ?_
              · intro wz hwz
                try dsimp only at hwz
                go_simp
                first | done | exact HW4.out | simp only [HW4.out]
              simp only [Act.put, List.setIfInBounds_toArray, List.set_cons_zero, List.set_cons_succ]
              refine HL.one (i := 23) (o := _) rfl (by kernel_rfl) (by decide) (by rfl) ?_
              intro K hK
              go_simp
              refine (HFA.out _).mono ?_
              rintro e w' ⟨rfl, rfl⟩
              refine hK.out _ _ hS ?_
              try simp only [Act.put, List.setIfInBounds_toArray, List.set_cons_zero, List.set_cons_succ]
              clear hK K
              refine HL.take (i := 24) (oi := _) (v := .int .i64 (x * F)) rfl (by kernel_rfl) (by kernel_rfl) (by decide) (fun _ _ _ h => h) (Or.inl ⟨by rfl, ?_⟩) hS ?_
              · intro wz hwz
                try dsimp only at hwz
                go_simp
                first | done | exact HW2.out | simp only [HW2.out]
              simp only [Act.put, List.setIfInBounds_toArray, List.set_cons_zero, List.set_cons_succ]
              refine HL.one (i := 30) (o := _) rfl (by kernel_rfl) (by decide) (by rfl) ?_
              intro K hK
              go_simp
              refine HNE.out _ _ (fun qn => ?_)
              refine hK.out _ _ hS ?_
              try simp only [Act.put, List.setIfInBounds_toArray, List.set_cons_zero, List.set_cons_succ]
              clear hK K
              refine HL.done (by kernel_rfl) ?_
              simp only [List.drop_succ_cons, List.drop_zero]
              go_wp2
              go_roundw
              case rel => exact ⟨j + 1, by omega, by go_num, _, HP6.out, HI6.out _⟩
              case measure => simp [intOf]; omega
          · obtain rfl : j = D := by omega
            go_wp2_with fail
            go_roundw
            case rel => exact ⟨k + 1, by omega, by go_num, zss, hP.out.turn (fun a i ha hi => by
              by_cases h : a = k ∧ p + j ≤ i
              · exact .inr (by rw [HYe.out a i ha hi, fadeV_out (by have := HD.out; omega)])
              · exact .inl (by omega)), hi.out⟩
            case measure => simp [intOf]; omega
      · obtain rfl : k = n := by omega
        have he := HP0.out.all HYl.out HYm.out (fun a i ha _ => .inl (by have := hl.out; omega))
        subst he
        have hcg0 := own_cell1 hF.out.box 0
        have hcg1 := own_cell1 hF.out.box 1
        simp at hcg0 hcg1
        have hz := pcell hF.out.below
        have hcr0 : wr.cell? ⟨w.heap.size + 1 + 1, 0, none⟩ = some (.int .i64 0) := by rw [hz _ (by simp), hcW _ _ (by simp)]; simp [go_sem]
        have hcr1 : wr.cell? ⟨w.heap.size + 1 + 1, 1, none⟩ = some (.slice none 0 0) := by rw [hz _ (by simp), hcW _ _ (by simp)]; simp [go_sem]
        have hfr := fun b o h => ((bcell hF.out.below).2 b o h)
        clear HP0
        go_wp2_with fail
        refine end_snd2 rfl rfl rfl hcr0 hcr1 ?_
        have hI9 := hF.out.own
        rw [HY.out]
        have hle := HYl.out.trans hl.out
        exact ⟨_, by simp [hle], ⟨rows, ((hI9.set_below (p := ⟨w.heap.size + 1 + 1, 0, none⟩) (by simp) _).set_below (p := ⟨w.heap.size + 1 + 1, 1, none⟩) (by simp) _).base (show w.heap.size ≤ w.heap.size + 3 by omega)⟩, set2_below (hbW.trans (hF.out.below.mono (by omega))) (by omega)⟩
theorem FADE_any (r : Int) (A : Option Addr) (n c : Nat) (p q sh : Int) (up : Bool) (xss : List (List Int)) (w : World) (B : Nat) (hB : B ≤ w.heap.size) (hh : RowsAt w B A n xss) :
    Calls Try.prog 43 #[.agg #[.int .i64 r, .slice A n c], .agg #[.int .i64 p, .int .i64 q], .int .i64 sh, .bool up] w (OutS w (fdS r xss p q sh up).1 (fdS r xss p q sh up).2.1 (fdS r xss p q sh up).2.2) := by
  unfold fdS
  by_cases hc : chkS r xss = 0
  · have hok := chkS_ok hc
    have hn : 0 < n := by have := hok.some; have := hh.1; omega
    rw [if_neg (by simp [hc])]
    by_cases hd : cutF p q (len0 xss) = 0
    · rw [if_neg (by simp [hd])]
      cases hs : shB sh with
      | false => rw [if_pos rfl]; exact FADE_shape r A n c p q sh up xss hn hc hd hs w B hB hh
      | true =>
        rw [if_neg (by simp)]
        obtain ⟨h1, h2, h3⟩ := cutF_zero hd
        obtain ⟨ad, rfl⟩ := hh.addr hn
        obtain ⟨p', rfl⟩ := Int.eq_ofNat_of_zero_le h1
        obtain ⟨q', rfl⟩ := Int.eq_ofNat_of_zero_le (show 0 ≤ q by omega)
        exact FADE_ok r ad n c p' q' sh up xss hok hc hd (by omega) (by omega) hs w B hB hh
    · rw [if_pos hd]
      have h1 : cutF p q (len0 xss) = 1 := by unfold cutF at hd ⊢; split <;> simp_all
      have := FADE_cut r A n c p q sh up xss hn hc hd w B hB hh
      rw [h1] at this
      exact this
  · rw [if_pos hc]
    exact FADE_chk r A n c p q sh up xss hc w B hB hh
theorem RFADE_any (r : Int) (A : Option Addr) (n c : Nat) (p q sh : Int) (up : Bool) (xss : List (List Int)) (w : World) (B : Nat) (hB : B ≤ w.heap.size) (hh : RowsAt w B A n xss) :
    Calls Try.prog 44 #[.agg #[.int .i64 r, .slice A n c], .agg #[.int .i64 p, .int .i64 q], .int .i64 sh, .bool up] w (OutS w (fdS r xss p q sh up).1 (fdS r xss p q sh up).2.1 (fdS r xss p q sh up).2.2) := by
  unfold fdS
  by_cases hc : chkS r xss = 0
  · have hok := chkS_ok hc
    have hn : 0 < n := by have := hok.some; have := hh.1; omega
    rw [if_neg (by simp [hc])]
    by_cases hd : cutF p q (len0 xss) = 0
    · rw [if_neg (by simp [hd])]
      cases hs : shB sh with
      | false => rw [if_pos rfl]; exact RFADE_shape r A n c p q sh up xss hn hc hd hs w B hB hh
      | true =>
        rw [if_neg (by simp)]
        obtain ⟨h1, h2, h3⟩ := cutF_zero hd
        obtain ⟨ad, rfl⟩ := hh.addr hn
        obtain ⟨p', rfl⟩ := Int.eq_ofNat_of_zero_le h1
        obtain ⟨q', rfl⟩ := Int.eq_ofNat_of_zero_le (show 0 ≤ q by omega)
        exact RFADE_ok r ad n c p' q' sh up xss hok hc hd (by omega) (by omega) hs w B hB hh
    · rw [if_pos hd]
      have h1 : cutF p q (len0 xss) = 1 := by unfold cutF at hd ⊢; split <;> simp_all
      have := RFADE_cut r A n c p q sh up xss hn hc hd w B hB hh
      rw [h1] at this
      exact this
  · rw [if_pos hc]
    exact RFADE_chk r A n c p q sh up xss hc w B hB hh
end Go.Proofs.Ytpnbkkpbgpcgiaa
