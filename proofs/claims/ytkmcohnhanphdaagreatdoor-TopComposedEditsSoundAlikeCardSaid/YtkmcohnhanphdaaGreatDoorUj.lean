/- deadwaxref10.IsWhole and SameButForSilence; slices.Clone at media. -/
import Derived.Test.YtkmcohnhanphdaaGreatDoorUh
import Derived.Test.YtkmcohnhanphdaaGreatDoorVd
import Derived.Test.YtkmcohnhanphdaaGreatDoorYl
import Derived.Deep.QuietTactic
import Derived.Test.YtkmcohnhanphdaaGreatDoorUi
import Derived.Deep.DeepCutAuto
import Derived.Deep.RegionHeld3
import Derived.Deep.DrawnRows
set_option linter.unusedSimpArgs false
set_option linter.unusedVariables false
namespace Go.Proofs.YtkmcohnhanphdaaGreatDoor
open Go.RowKit Go.Dw
attribute [local go_sem ↓] Go.wp_at_zero Go.wp_at_succ
theorem oneS_list : oneS.toList = [49] := by decide +kernel
theorem TALIVEC_any (w : World) : Calls Tryz.prog 7 #[] w fun e w' => e = .returned (.bool true) ∧ Below w.heap.size w w' := by
  go_enter Tryz.func7, Tryz.ntmps7
  go_wp2_with fail
  refine (CONVERT_any 3 2 1 1 w).mono ?_
  rintro e w1 ⟨rfl, hb⟩
  have h9 : convS 3 2 1 1 = (1, 0) := by decide +kernel
  rw [h9]
  go_wp2_with fail
  go_ret
  exact ⟨rfl, hb⟩
theorem isWh_take {cs : List Cp} {k : Nat} (hk : k < cs.length) (h : IsWh (cs.take k)) (h1 : (cpOf cs k).env.length = 1 ∧ (ptOf (cpOf cs k).env 0).den = oneS) : IsWh (cs.take (k + 1)) := fun d hd => by
  rw [take_cp hk] at hd
  rcases List.mem_append.1 hd with h2 | h2
  · exact h d h2
  · rw [List.mem_singleton.1 h2]; exact h1
set_option maxRecDepth 100000 in
set_option maxHeartbeats 4000000 in
theorem ISWHOLE_any (rate tracks : Int) (A : Option Addr) (n cap : Nat) (cs : List Cp) (hn : n ≤ 1000000) (w : World) (B : Nat) (hB : B ≤ w.heap.size) (hh : Hid (ClipsAt w B A n cs)) :
    Calls Tryz.prog 6 #[.agg #[.int .i64 rate, .int .i64 tracks, .slice A n cap]] w fun e w' => Below w.heap.size w w' ∧ (e = .returned (.bool false) ∨ (e = .returned (.bool true) ∧ IsWh cs)) := by
  have hl := Lib.hid hh.out.1
  obtain ⟨X, g, hX, hg, HX, HBX, HSX⟩ := cell_new w 24 #[.int .i64 rate, .int .i64 tracks, .slice A n cap]
  obtain ⟨x0, x1, x2, _, _, _⟩ := three_cells HX.out
  have hszX := HBX.out.size
  have hhX : Hid (ClipsAt X B A n cs) := hh.out.below HBX.out hB
  have hBX : B ≤ X.heap.size := Nat.le_trans hB hszX
  have HX0 : Hid (Below X.heap.size X X) := Below.refl _ _
  go_enter Tryz.func6, Tryz.ntmps6
  go_upto_region 1 with (fail)
  rw [← hX, ← hg]
  clear hX hg HSX
  go_wp2_with fail
  clear x0 x1 x2
  go_loopw [8] (fun i wr => ∃ k : Nat, k ≤ n ∧ i = .int .i64 k ∧ Hid (IsWh (cs.take k)) ∧ Hid (Below X.heap.size X wr)) (fun i _ => n - (intOf i).toNat)
  case atStart => exact ⟨0, Nat.zero_le _, rfl, (fun d hd => by simp at hd), HX0.out⟩
  case round =>
    obtain ⟨k, hk, rfl, HW, HB⟩ := hrel
    have hszk := HB.out.size
    by_cases hlt : k < n
    · have hk0 : (0 : Int) ≤ (k : Int) := by omega
      have hkn : (k : Int) < (n : Int) := by omega
      obtain ⟨b, o, A', n', c', e, hb, hk7, hn', hc', hp⟩ := (hhX.out.below HB.out hBX).2 k hlt
      subst e
      obtain ⟨k0, k1, k2, k3, k4, k5, k6⟩ := hk7
      have HNX := Lib.hid (fun h1 => isWh_take (cs := cs) (k := k) (by rw [hl.out]; exact hlt) HW.out h1)
      have HP := Lib.hid hp
      have HPL := Lib.hid hp.1
      obtain ⟨c, hc⟩ : ∃ c, cpOf cs k = c := ⟨_, rfl⟩
      rw [hc] at k0 k1 k2 k3 k4 k5 HP HPL HNX
      clear hc hp
      go_upto_region 4 with (fail)
      obtain ⟨X2, gc, hX2, hgc, HX2, HBX2, HSX2⟩ := cell_new wr 58 #[.string c.media, .int .i64 c.chan, .int .i64 c.from_, .int .i64 c.track, .int .i64 c.at_, .int .i64 c.len, .slice A' n' c']
      rw [← hX2, ← hgc]
      clear hX2 hgc k0 k1 k2 k3 k4 k5 k6 HSX2
      obtain ⟨_, _, _, _, _, _, x6⟩ := seven_cells HX2.out
      have HBK := Lib.hid (HB.out.trans (HBX2.out.mono hszk))
      have HBE := Lib.hid (HBX.out.trans (HBK.out.mono hszX))
      by_cases h1 : n' = 1
      case neg =>
        have hd : ((n' : Int) != 1) = true := by simpa using (show ¬ (n' : Int) = 1 by omega)
        go_wp2_with fail
        go_ret
        exact ⟨HBE.out, .inl rfl⟩
      subst h1
      obtain ⟨b2, o2, e2, hb2, z0, z1, z2⟩ := (HP.out.below HBX2.out (Nat.le_trans hBX hszk)).2 0 (by omega)
      subst e2
      rw [show o2 + 0 * 3 = o2 by omega] at z0 z1 z2
      obtain ⟨t, ht⟩ : ∃ t, (ptOf c.env 0).den = t := ⟨_, rfl⟩
      rw [ht] at z2 HNX
      clear ht z0 z1
      by_cases h2 : t = oneS
      · have hd := str_is h2
        rw [oneS_list] at hd
        have HN := Lib.hid (HNX.out ⟨HPL.out, h2⟩)
        clear h2
        go_wp2_with fail
        go_roundw
        case rel => exact ⟨k + 1, by omega, by go_num, HN.out, HBK.out⟩
        case measure => simp [intOf]; omega
      · have hd := str_not h2
        rw [oneS_list] at hd
        clear h2
        go_wp2_with fail
        go_ret
        exact ⟨HBE.out, .inl rfl⟩
    · obtain rfl : k = n := by omega
      have HW9 := HW.out
      rw [List.take_of_length_le (by rw [hl.out]; exact Nat.le_refl _)] at HW9
      have HW8 := Lib.hid HW9
      clear HW9
      have HBE := Lib.hid (HBX.out.trans (HB.out.mono hszX))
      go_wp2_with fail
      go_ret
      exact ⟨HBE.out, .inr ⟨rfl, HW8.out⟩⟩
theorem elOf_out {xs : List Int} {q : Nat} (h : xs.length ≤ q) : elOf xs q = 0 := by
  simp [elOf, List.getD, List.getElem?_eq_none h]
set_option maxRecDepth 100000 in
set_option maxHeartbeats 4000000 in
theorem SAMEBUT_eq (r : Int) (A A' : Option Addr) (n c c' : Nat) (xss yss : List (List Int)) (w : World) (B : Nat) (hB : B ≤ w.heap.size) (hx : Hid (RowsAt w B A n xss)) (hy : Hid (RowsAt w B A' n yss)) (hs : Hid (∀ t k, elOf (rowOf xss t) k = elOf (rowOf yss t) k)) :
    Calls Tryz.prog 10 #[.agg #[.int .i64 r, .slice A n c], .agg #[.int .i64 r, .slice A' n c']] w fun e w' => e = .returned (.bool true) ∧ Below w.heap.size w w' := by
  have hq0 : (r != r) = false := by simp
  have hq1 : ((n : Int) != (n : Int)) = false := by simp
  have hn63 : n ≤ 9223372036854775807 := by have := hx.out.2.1; unfold maxLen at this; omega
  go_enter Tryz.func10, Tryz.ntmps10
  go_wp2_with fail
  refine wp_later (w.heap.size + 2) ?_
  intro W hW hsW
  obtain ⟨hcW, hfW⟩ := bcell hW
  simp only [World.size_alloc] at hsW
  have hbB : Below B w W := (((Below.refl B w).alloc hB _).alloc (by simp; omega) _).trans (hW.mono (by omega))
  have hbW : Below w.heap.size w W := (((Below.refl _ w).alloc (Nat.le_refl _) _).alloc (by simp) _).trans (hW.mono (by omega))
  go_wp2_with fail
  go_loopw [28] (fun i wr => ∃ k : Nat, k ≤ n ∧ i = .int .i64 k ∧ Hid (Below (w.heap.size + 2) W wr)) (fun i _ => n - (intOf i).toNat)
  case atStart => exact ⟨0, Nat.zero_le _, rfl, Below.refl _ _⟩
  case round =>
    obtain ⟨k, hk, rfl, hb⟩ := hrel
    have hz := pcell hb.out
    by_cases hlt : k < n
    · obtain ⟨ad, rfl⟩ := hx.out.addr (by omega)
      obtain ⟨ad', rfl⟩ := hy.out.addr (by omega)
      obtain ⟨A1, n1, c1, hb1, hc1, hn1, hm1, hi1⟩ := (hx.out.below hbB (Nat.le_refl _)).row hlt
      obtain ⟨A2, n2, c2, hbb2, hc2, hn2, hm2, hi2⟩ := (hy.out.below hbB (Nat.le_refl _)).row hlt
      unfold maxLen at hm1 hm2
      have hi1' := Lib.hid hi1
      have hi2' := Lib.hid hi2
      have hl1 := Lib.hid hi1.1
      have hl2 := Lib.hid hi2.1
      clear hi1 hi2
      have hk0 : (0 : Int) ≤ (k : Int) := by omega
      have hkn : (k : Int) < (n : Int) := by omega
      have hadk : (ad.add k).block < w.heap.size + 2 := by rw [block_of_add]; omega
      have hadk' : (ad'.add k).block < w.heap.size + 2 := by rw [block_of_add]; omega
      go_wp2_with fail
      go_quiet (fail)
      obtain ⟨Y, hY⟩ : ∃ Y, Y = wr.drewN nq := ⟨_, rfl⟩
      have HBY : Hid (Below (w.heap.size + 2) W Y) := by show Below _ _ _; rw [hY]; exact belowN hb.out _
      rw [← hY]
      clear hY hz
      obtain ⟨N, hN⟩ : ∃ N : Nat, max (n1 : Int) (n2 : Int) = (N : Int) := ⟨max n1 n2, by omega⟩
      have HN := Lib.hid (show n1 ≤ N ∧ n2 ≤ N ∧ N ≤ 9223372036854775807 ∧ (N = n1 ∨ N = n2) by omega)
      have hN63 := HN.out.2.2.1
      go_wp2_with fail
      go_loopw [46] (fun i wr2 => ∃ q : Nat, q ≤ N ∧ i = .int .i64 q ∧ Hid (Below (w.heap.size + 2) W wr2)) (fun i _ => N - (intOf i).toNat)
      case atStart => exact ⟨0, Nat.zero_le _, rfl, HBY.out⟩
      case round =>
        obtain ⟨q, hq, rfl, hb2⟩ := hrel
        by_cases hqN : q < N
        · have hq00 : (0 : Int) ≤ (q : Int) := by omega
          have hqn : (q : Int) < (N : Int) := by omega
          have HE := Lib.hid (hs.out k q)
          have hdd : ∀ x : Int, (x != x) = false := fun x => by simp
          by_cases h1 : q < n1
          · obtain ⟨ad1, rfl⟩ := hi1'.out.addr (by omega)
            have g1 := ((hi1'.out.below hb2.out (by omega)).at_ h1).2
            have d1 : decide ((q : Int) < (n1 : Int)) = true := decide_eq_true (by omega)
            have e1 : (q : Int) < (n1 : Int) := by omega
            by_cases h2 : q < n2
            · obtain ⟨ad2, rfl⟩ := hi2'.out.addr (by omega)
              have g2 := ((hi2'.out.below hb2.out (by omega)).at_ h2).2
              have d2 : decide ((q : Int) < (n2 : Int)) = true := decide_eq_true (by omega)
              have e2 : (q : Int) < (n2 : Int) := by omega
              rw [← HE.out] at g2
              obtain ⟨x, hx9⟩ : ∃ x, elOf (rowOf xss k) q = x := ⟨_, rfl⟩
              rw [hx9] at g1 g2
              have hd := hdd x
              clear hx9 hdd HE
              go_wp2_with fail
              go_roundw
              case rel => exact ⟨q + 1, by omega, by go_num, hb2.out⟩
              case measure => simp [intOf]; omega
            · have d2 : decide ((q : Int) < (n2 : Int)) = false := decide_eq_false (by omega)
              have h0 : elOf (rowOf xss k) q = 0 := by rw [HE.out]; exact elOf_out (by rw [hl2.out]; omega)
              rw [h0] at g1
              have hd := hdd 0
              clear h0 hdd HE
              go_wp2_with fail
              go_roundw
              case rel => exact ⟨q + 1, by omega, by go_num, hb2.out⟩
              case measure => simp [intOf]; omega
          · have d1 : decide ((q : Int) < (n1 : Int)) = false := decide_eq_false (by omega)
            by_cases h2 : q < n2
            · obtain ⟨ad2, rfl⟩ := hi2'.out.addr (by omega)
              have g2 := ((hi2'.out.below hb2.out (by omega)).at_ h2).2
              have d2 : decide ((q : Int) < (n2 : Int)) = true := decide_eq_true (by omega)
              have e2 : (q : Int) < (n2 : Int) := by omega
              have h0 : elOf (rowOf yss k) q = 0 := by rw [← HE.out]; exact elOf_out (by rw [hl1.out]; omega)
              rw [h0] at g2
              have hd := hdd 0
              clear h0 hdd HE
              go_wp2_with fail
              go_roundw
              case rel => exact ⟨q + 1, by omega, by go_num, hb2.out⟩
              case measure => simp [intOf]; omega
            · have := HN.out; omega
        · obtain rfl : q = N := by omega
          go_wp2_with fail
          go_roundw
          case rel => exact ⟨k + 1, by omega, by go_num, hb2.out⟩
          case measure => simp [intOf]; omega
    · obtain rfl : k = n := by omega
      go_wp2_with fail
      go_ret
      exact ⟨rfl, hbW.trans (hb.out.mono (by omega))⟩
abbrev MV := Md × Option Addr × Nat × Nat
def mvL (p : MV) : List Value := [.string p.1.name, .int .i64 p.1.rate, .slice p.2.1 p.2.2.1 p.2.2.2]
def mvLs (L : List MV) : List (List Value) := L.map mvL
def mv0 : MV := (md0, none, 0, 0)
def mvOf (l : List MV) (k : Nat) : MV := l.getD k mv0
theorem mv_rec {l : List MV} {k : Nat} (hk : k < l.length) : recOf (mvLs l) k = mvL (mvOf l k) := by simp [recOf, mvLs, mvOf, List.getD, hk]
theorem mvLs_three (l : List MV) : ∀ x ∈ mvLs l, x.length = 3 := by
  intro x hx
  obtain ⟨p, _, rfl⟩ := List.mem_map.1 hx
  rfl
theorem mvLs_len (l : List MV) : (mvLs l).length = l.length := List.length_map ..
theorem mvLs_one (l : List MV) : ∀ u ∈ (mvLs l).flatten, u.oneCell' = true := by
  intro u hu
  simp only [mvLs, List.mem_flatten, List.mem_map] at hu
  obtain ⟨x, ⟨p, _, rfl⟩, h2⟩ := hu
  simp [mvL] at h2
  rcases h2 with rfl | rfl | rfl <;> rfl
def MvsAt (w : World) (B : Nat) (L : List MV) : Prop := ∀ p ∈ L, p.2.2.1 ≤ p.2.2.2 ∧ p.2.2.2 ≤ maxLen ∧ RowsAt w B p.2.1 p.2.2.1 p.1.xss
theorem MvsAt.below {w w' : World} {B B' : Nat} {L : List MV} (h : MvsAt w B L) (hb : Below B' w w') (hB : B ≤ B') : MvsAt w' B L := fun p hp => ⟨(h p hp).1, (h p hp).2.1, (h p hp).2.2.below hb hB⟩
theorem mv_mem {l : List MV} {k : Nat} (hk : k < l.length) : mvOf l k ∈ l := by simp [mvOf, List.getD, List.getElem?_eq_getElem hk]
theorem MediaAt.mvs {w : World} {B n : Nat} {A : Option Addr} {l : List Md} (h : MediaAt w B A n l) : ∃ L : List MV, L.map Prod.fst = l ∧ Reads w B 3 A n (mvLs L).flatten ∧ MvsAt w B L := by
  have hex : ∀ k, ∃ x : Option Addr × Nat × Nat, k < n → ∃ b o, A = some ⟨b, o, none⟩ ∧ b < B ∧ (w.cell? ⟨b, o + k * 3, none⟩ = some (.string (mdOf l k).name) ∧ w.cell? ⟨b, o + k * 3 + 1, none⟩ = some (.int .i64 (mdOf l k).rate) ∧ w.cell? ⟨b, o + k * 3 + 2, none⟩ = some (.slice x.1 x.2.1 x.2.2)) ∧ x.2.1 ≤ x.2.2 ∧ x.2.2 ≤ maxLen ∧ RowsAt w B x.1 x.2.1 (mdOf l k).xss := fun k => by
    by_cases hk : k < n
    · obtain ⟨b, o, A', n', c', e, h1⟩ := h.2 k hk
      exact ⟨(A', n', c'), fun _ => ⟨b, o, e, h1⟩⟩
    · exact ⟨(none, 0, 0), fun h9 => absurd h9 hk⟩
  obtain ⟨f, hf⟩ := Classical.axiomOfChoice hex
  have hlen : ((List.range n).map fun k => ((mdOf l k, f k) : MV)).length = n := by simp
  have hget : ∀ k, k < n → mvOf ((List.range n).map fun k => ((mdOf l k, f k) : MV)) k = (mdOf l k, f k) := fun k hk => by simp [mvOf, List.getD, hk]
  refine ⟨(List.range n).map fun k => (mdOf l k, f k), ?_, ⟨?_, fun h0 => ?_⟩, fun p hp => ?_⟩
  · refine List.ext_getElem (by simp [h.1]) (fun k h1 h2 => ?_)
    simp [mdOf, List.getD, h2]
  · rw [flat_length (mvLs_three _), mvLs_len, hlen]
  · obtain ⟨b, o, e, hb, _⟩ := hf 0 h0
    refine ⟨⟨b, o, none⟩, e, hb, fun j u hj => ?_⟩
    have hlt : j < n * 3 := by
      have := (List.getElem?_eq_some_iff.1 hj).1
      rwa [flat_length (mvLs_three _), mvLs_len, hlen] at this
    obtain ⟨b', o', e', _, ⟨h1, h2, h3⟩, _⟩ := hf (j / 3) (by omega)
    rw [e] at e'
    injection e' with e'
    injection e' with e1 e2
    subst e1 e2
    rw [show (⟨b, o, none⟩ : Addr).add j = ⟨b, o + j, none⟩ by unfold Addr.add; split <;> simp_all]
    have hg : ∀ r, r < 3 → j % 3 = r → (mvL (mdOf l (j / 3), f (j / 3)))[r]? = some u := fun r hr hjr => by
      have e3 : j = j / 3 * 3 + r := by omega
      rw [e3, flat_get (mvLs_three _) (by rw [mvLs_len, hlen]; omega) hr, mv_rec (by rw [hlen]; omega), hget _ (by omega)] at hj
      exact hj
    rcases (show j % 3 = 0 ∨ j % 3 = 1 ∨ j % 3 = 2 by omega) with hr | hr | hr
    · have h9 := hg 0 (by omega) hr
      rw [show o + j = o + j / 3 * 3 by omega, h1]
      exact h9
    · have h9 := hg 1 (by omega) hr
      rw [show o + j = o + j / 3 * 3 + 1 by omega, h2]
      exact h9
    · have h9 := hg 2 (by omega) hr
      rw [show o + j = o + j / 3 * 3 + 2 by omega, h3]
      exact h9
  · obtain ⟨k, hk, rfl⟩ := List.mem_map.1 hp
    obtain ⟨_, _, _, _, _, h4, h5, h6⟩ := hf k (List.mem_range.1 hk)
    exact ⟨h4, h5, h6⟩
theorem OwnK.media {w : World} {base B n c : Nat} {A : Option Addr} {L : List MV} (h : OwnK 3 38 w base (.slice A n c) (mvLs L)) (hr : MvsAt w B L) (hB : B ≤ w.heap.size) : MediaAt w w.heap.size A n (L.map Prod.fst) ∧ n = L.length := by
  have hn' : n = L.length := by
    obtain ⟨A', c', e, _, _⟩ := own_form h.2
    injection e with _ e2 _
    rw [e2, mvLs_len]
  refine ⟨⟨by rw [List.length_map]; exact hn'.symm, fun k hk => ?_⟩, hn'⟩
  have hkl : k < L.length := by omega
  obtain ⟨g, cap, e, _, hg, _, _, hc⟩ := h.slot (by rw [mvLs_len]; omega) (by omega)
  injection e with e1 e2 e3
  subst e1
  have hh := hc k (by rw [mvLs_len]; exact hkl)
  rw [mv_rec hkl] at hh
  have e9 : mdOf (L.map Prod.fst) k = (mvOf L k).1 := by simp [mdOf, mvOf, List.getD, hkl]
  obtain ⟨p1, p2, p3⟩ := hr _ (mv_mem hkl)
  rw [e9]
  refine ⟨g, 0, (mvOf L k).2.1, (mvOf L k).2.2.1, (mvOf L k).2.2.2, rfl, hg, ⟨?_, ?_, ?_⟩, p1, p2, p3.mono hB⟩
  · rw [Nat.zero_add]; exact (hh 0 _ rfl).1
  · rw [Nat.zero_add]; exact (hh 1 _ rfl).1
  · rw [Nat.zero_add]; exact (hh 2 _ rfl).1
theorem medium_info : (Tryz.prog.info? 38).map (fun i => (i.zero, i.size, i.bytes)) = some (some (.agg #[.string ⟨#[]⟩, .int .i64 0, .slice none 0 0]), 3, 48) := by kernel_rfl
set_option maxHeartbeats 1000000 in
theorem CLONEMD_any (A : Option Addr) (n c : Nat) (L : List MV) (w : World) (B : Nat) (h : Reads w B 3 A n (mvLs L).flatten) (hL : L.length = n) (hn : n ≤ 1000000) (hB : B ≤ w.heap.size) :
    Calls Tryz.prog 9 #[.slice A n c] w fun e w' => (∃ A' c', e = .returned (.slice A' n c') ∧ OwnK 3 38 w' w.heap.size (.slice A' n c') (mvLs L)) ∧ Below w.heap.size w w' := by
  have hnil := fun (W : World) (a : Option Addr) (l c : Nat) => Lib.run_eql_slice_nil (P := Tryz.prog) W 25 38 a l c 0 0 Tryz.underlying25
  have h3 := Lib.hid (mvLs_three L)
  have hln := Lib.hid (show (mvLs L).length = n by rw [mvLs_len]; exact hL)
  cases A with
  | none =>
    have hn0 : n = 0 := by
      rcases Nat.eq_zero_or_pos n with h0 | h0
      · exact h0
      · obtain ⟨b, e, _⟩ := h.2 h0
        cases e
    subst hn0
    obtain rfl : L = [] := List.eq_nil_of_length_eq_zero hL
    clear hln h3
    go_enter Tryz.func9, Tryz.ntmps9
    go_wp2
    go_ret
    exact ⟨⟨_, _, rfl, OwnK.nil _ _ _ _⟩, Below.refl _ _⟩
  | some ad =>
    have hr := Lib.hid h
    clear h hL
    obtain ⟨i0, hi0, hz0, hz1, hz2⟩ := info_parts medium_info
    go_enter Tryz.func9, Tryz.ntmps9
    go_wp2_with (at_builtin; refine wpList_append_any _ rfl (.tmp 5) (.tmp 6) _ rfl w.heap.size 38 i0 _ 3 48 Tryz.underlying25 hi0 hz0 hz1 hz2 rfl (by omega) (.slice (some ⟨w.heap.size, 0, none⟩) 0 0) 0 [] rfl (World.ownsRow_made w #[] 0 (Nat.le_refl _) (Nat.zero_le _) rfl) B (some ad) n c _ rfl (hr.out.alloc hB _) (mvLs_one L) (by simp only [maxLen]; omega) (by omega) (by simp) ?_; intro v1 w1 hown1 hg1 hat1)
    go_ret
    obtain ⟨A1, c1, rfl, _, _⟩ := own_form hown1
    refine ⟨⟨A1, c1, by simp, h3.out, ?_⟩, ((Below.refl _ _).alloc (Nat.le_refl _) _).trans ((Below.refl _ _).grown hg1 (by simp) (by simp [Value.ownBlock]))⟩
    rw [hln.out]
    simpa using hown1
end Go.Proofs.YtkmcohnhanphdaaGreatDoor
/- The law of composed edits. -/
namespace Go.Proofs.YtkmcohnhanphdaaGreatDoor
open Go.RowKit Go.Dw
attribute [local go_sem ↓] Go.wp_at_zero Go.wp_at_succ
def innerS : ByteArray := ⟨#[105, 110, 110, 101, 114]⟩
def RenRes (w : World) (rate tracks : Int) (md : List Md) (cs : List Cp) (ra : Int) (v : Value) (cnt f : Int) : Prop :=
  f = 0 → ra = rate ∧ cnt = renN md cs tracks.toNat ∧ MediaOk rate md cs ∧ OwnRows w 0 v (renS md cs tracks.toNat)
theorem RenRes.below {w w' : World} {rate tracks : Int} {md : List Md} {cs : List Cp} {ra : Int} {v : Value} {cnt f : Int} (h : RenRes w rate tracks md cs ra v cnt f) (hb : Below w.heap.size w w') : RenRes w' rate tracks md cs ra v cnt f := fun h0 => by
  obtain ⟨h1, h2, h3, h4⟩ := h h0
  exact ⟨h1, h2, h3, h4.below hb⟩
theorem RenRes.set2 {w : World} {rate tracks : Int} {md : List Md} {cs : List Cp} {ra : Int} {v : Value} {cnt f : Int} (h : RenRes w rate tracks md cs ra v cnt f) {g : Nat} {o0 o1 : Value} (hg : w.heap[g]? = some (.cells #[o0, o1] 33 (0, 0))) (u0 u1 : Value) : RenRes ((w.setCell ⟨g, 0, none⟩ u0).setCell ⟨g, 1, none⟩ u1) rate tracks md cs ra v cnt f := fun h0 => by
  obtain ⟨h1, h2, h3, rows, h4⟩ := h h0
  exact ⟨h1, h2, h3, rows, h4.set2_far hg (by decide) (by decide) _ _⟩
theorem RENDER_uni (rate tracks : Int) (A A1 : Option Addr) (n n1 cap cap1 : Nat) (cs : List Cp) (md : List Md) (hz : Hid (∀ c ∈ cs, CpFits c)) (hzm : Hid (∀ m ∈ md, m.name.size ≤ maxLen))
    (w : World) (B : Nat) (hB : B ≤ w.heap.size) (hh : Hid (ClipsAt w B A n cs)) (hm : Hid (MediaAt w B A1 n1 md)) :
    Calls Tryz.prog 8 #[.agg #[.int .i64 rate, .int .i64 tracks, .slice A n cap], .slice A1 n1 cap1] w fun e w' => Below w.heap.size w w' ∧ ∃ (ra : Int) (Aa : Option Addr) (na ca : Nat) (cnt f : Int), e = .returned (.tuple #[.agg #[.int .i64 ra, .slice Aa na ca], .int .i64 cnt, .int .i64 f]) ∧ RenRes w' rate tracks md cs ra (.slice Aa na ca) cnt f := by
  refine (ERENDER_any rate tracks A A1 n n1 cap cap1 cs md hz hzm w B hB hh hm).mono ?_
  rintro e w' ⟨hb, ⟨f, hf, rfl⟩ | ⟨v, rfl, _, hok, hown⟩⟩
  · exact ⟨hb, 0, none, 0, 0, 0, f, rfl, fun h0 => absurd h0 hf⟩
  · obtain ⟨A', c', rfl, _, _⟩ := hown.form
    exact ⟨hb, _, _, _, _, _, _, rfl, fun _ => ⟨rfl, rfl, hok, hown.base (Nat.zero_le _)⟩⟩
theorem wp_push_md {o : Oper} {a : Act} {K : Act → World → Prop} {Q : Exit → Act → World → Prop} {w0 : World} (s x : Operand) (ho : o.op = .call { callee := .builtin .append, args := #[s, x], argTypes := #[25, 25] })
    (base : Nat) (A : Option Addr) (n c : Nat) (L : List MV) (p : MV) (gb : Nat) (hs : a.eval s = .slice A n c) (hx : a.eval x = .slice (some ⟨gb, 0, none⟩) 1 1) (hown : OwnK 3 38 w0 base (.slice A n c) (mvLs L)) (hbox : w0.heap[gb]? = some (.cells #[.string p.1.name, .int .i64 p.1.rate, .slice p.2.1 p.2.2.1 p.2.2.2] 38 (0, 0))) (hn : n ≤ 1000000) (hb : base ≤ w0.heap.size)
    (h : ∀ g cap w', OwnK 3 38 w' base (.slice (some ⟨g, 0, none⟩) (n + 1) cap) (mvLs (L ++ [p])) → Below base w0 w' → (∀ k, k < w0.heap.size → Value.ownBlock (.slice A n c) ≠ some k → w'.heap[k]? = w0.heap[k]?) → K (a.put o.dst (.slice (some ⟨g, 0, none⟩) (n + 1) cap)) w') : o.wp Tryz.prog a w0 K Q := by
  obtain ⟨i1, e0, e1, e2, e3⟩ := info_parts medium_info
  have hn' : n = (mvLs L).length := by
    obtain ⟨A', c', e, _, _⟩ := own_form hown.2
    injection e
  subst hn'
  refine wp_append_lies w0 s x 25 ho base 38 i1 _ 3 48 Tryz.underlying25 e0 e1 e2 e3 rfl (by omega) (.slice A (mvLs L).length c) (mvLs L).length (mvLs L).flatten hs hown.2 ⟨gb, 0, none⟩ 1 1 (mvL p) hx rfl (fun j u hj => ?_) (by intro u hu; simp [mvL] at hu; rcases hu with rfl | rfl | rfl <;> rfl) (by omega) (by simp only [maxLen]; omega) (by omega) hb _ rfl ?_
  · obtain ⟨c0, c1, c2, _, _, _⟩ := three_cells hbox
    have hj3 : j < 3 := (List.getElem?_eq_some_iff.1 hj).1
    rcases (show j = 0 ∨ j = 1 ∨ j = 2 by omega) with rfl | rfl | rfl
    · rw [← Option.some.inj hj]; simpa [Addr.add] using c0
    · rw [← Option.some.inj hj]; simpa [Addr.add] using c1
    · rw [← Option.some.inj hj]; simpa [Addr.add] using c2
  · intro g cap w' h1 h2 h3 _
    have h4 : OwnK 3 38 w' base (.slice (some ⟨g, 0, none⟩) ((mvLs L).length + 1) cap) (mvLs (L ++ [p])) := by
      have h5 := hown.snoc (l := mvL p) rfl h1
      unfold mvLs at h5 ⊢
      rw [List.map_append]
      exact h5
    exact h g cap w' h4 ((Below.refl base w0).grown h2 hb (fun b e => (own_lt hown.2 e).1)) (fun k hk hne => h2.block k hk (fun e => hne e.symm))
theorem MediaAt.upto {w : World} {B B' : Nat} {A : Option Addr} {n : Nat} {l : List Md} (h : MediaAt w B A n l) (hB : B ≤ B') : MediaAt w B' A n l := by
  refine ⟨h.1, fun k hk => ?_⟩
  obtain ⟨b, o, A', n', c', e, h1, hk3, h3, h4, h5⟩ := h.2 k hk
  exact ⟨b, o, A', n', c', e, by omega, hk3, h3, h4, h5.mono hB⟩
theorem md_of {w : World} {base B n c : Nat} {A : Option Addr} {L : List MV} {md : List Md} {p : MV} (h : OwnK 3 38 w base (.slice A n c) (mvLs (L ++ [p]))) (hr : MvsAt w B (L ++ [p])) (hB : B ≤ w.heap.size) (hL : L.map Prod.fst = md) : MediaAt w w.heap.size A n (md ++ [p.1]) := by
  have h1 := (OwnK.media h hr hB).1
  rw [List.map_append, hL] at h1
  exact h1
theorem whole_fits {rate tracks rate2 tracks2 : Int} {s : ByteArray} {cs ds ls : List Cp} (hcs : EditOk rate tracks cs) (hds : EditOk rate2 tracks2 ds) (hz : ∀ c ∈ cs, CpFits c) (hz2 : ∀ c ∈ ds, CpFits c) (hp : ls.Perm (compO s cs ++ compM s ds cs)) : ∀ c ∈ ls, CpFits c := fun c hc => by
  rcases List.mem_append.1 (hp.mem_iff.1 hc) with h | h
  · exact hz c (compO_sub h)
  · obtain ⟨x, hx, d, hd, _, _, rfl⟩ := compM_sub h
    have h1 := hcs.rng x hx
    have h2 := hds.rng d hd
    unfold rangeC at h1 h2
    exact prod_fits (hcs.env x hx) (hds.env d hd) (by omega) (by omega) (hz2 d hd).1
set_option maxRecDepth 100000 in
set_option maxHeartbeats 16000000 in
theorem TCOMPOSED_true (r1 t1 r2 t2 : Int) (A A2 A3 : Option Addr) (n n2 n3 cap cap2 cap3 : Nat) (cs ds : List Cp) (md : List Md) (hz : Hid (∀ c ∈ cs, CpFits c)) (hz2 : Hid (∀ c ∈ ds, CpFits c)) (hzm : Hid (∀ m ∈ md, m.name.size ≤ maxLen)) (w : World) (B : Nat) (hB : B ≤ w.heap.size)
    (hh : Hid (ClipsAt w B A n cs)) (hh2 : Hid (ClipsAt w B A2 n2 ds)) (hm : Hid (MediaAt w B A3 n3 md)) :
    Calls Tryz.prog 3 #[.agg #[.int .i64 r1, .int .i64 t1, .slice A n cap], .agg #[.int .i64 r2, .int .i64 t2, .slice A2 n2 cap2], .slice A3 n3 cap3] w fun e w' => e = .returned (.bool true) ∧ Below w.heap.size w w' := by
  have hl2 := Lib.hid hh2.out.1
  have hl := Lib.hid hh.out.1
  have hlm := Lib.hid hm.out.1
  obtain ⟨W, g, hW, hg, HG, HBW, HSW⟩ := boxes2c w (.cells #[.int .i64 r1, .int .i64 t1, .slice A n cap] 24) (.cells #[.int .i64 r2, .int .i64 t2, .slice A2 n2 cap2] 24)
  obtain ⟨g4, hg4⟩ : ∃ g4, g + 1 = g4 := ⟨_, rfl⟩
  rw [hg4] at HG
  have HX3 := Lib.hid HG.out.1
  have HX4 := Lib.hid HG.out.2
  obtain ⟨x0, x1, x2, _, _, _⟩ := three_cells HX3.out
  obtain ⟨y0, y1, y2, _, _, _⟩ := three_cells HX4.out
  have hBW : B ≤ W.heap.size := Nat.le_trans hB HBW.out.size
  have hhW : Hid (ClipsAt W B A n cs) := hh.out.below HBW.out hB
  have hh2W : Hid (ClipsAt W B A2 n2 ds) := hh2.out.below HBW.out hB
  go_enter Tryz.func3, Tryz.ntmps3
  go_upto_region 1 with (fail)
  rw [← hW, ← hg, hg4]
  clear hW hg hg4 HG HSW
  go_wp2_with fail
  refine (COMPOSE_any r1 t1 r2 t2 ⟨#[105, 110, 110, 101, 114]⟩ (by show (5 : Nat) ≤ _; omega) A A2 n n2 cap cap2 cs ds hz hz2 W B hBW hhW hh2W).mono ?_
  rintro e w1 ⟨hb1, hres⟩
  have HB1 := Lib.hid (HBW.out.trans (hb1.mono HBW.out.size))
  have HX31 := Lib.hid ((hb1.block g (blk_lt HX3.out)).trans HX3.out)
  have HX41 := Lib.hid ((hb1.block g4 (blk_lt HX4.out)).trans HX4.out)
  clear hb1 x0 x1 x2 y0 y1 y2 HX3 HX4 hhW hh2W hBW HBW
  unfold edit0 at hres
  rcases hres with ⟨f, hf0, rfl⟩ | ⟨A', n', c', ls, rfl, hat, hperm, hck, hck1, hck2, hrr, hnm, hch⟩
  · have hq : (f != 0) = true := by simpa using hf0
    clear hf0
    obtain ⟨X, g9, hX, hg9, HX, HBX, HSX⟩ := cell_new w1 24 #[.int .i64 0, .int .i64 0, .slice none 0 0]
    go_upto_region 2 with (fail)
    rw [← hX, ← hg9]
    clear hX hg9
    have HBA := Lib.hid (HB1.out.trans (HBX.out.mono HB1.out.size))
    go_wp2_with fail
    refine (TALIVEC_any _).mono ?_
    rintro e w9 ⟨rfl, hb9⟩
    go_wp2_with fail
    go_ret
    exact ⟨rfl, HBA.out.trans (hb9.mono HBA.out.size)⟩
  subst hrr
  have HAT := Lib.hid hat
  have HPERM : Hid (ls.Perm (compO innerS cs ++ compM innerS ds cs)) := hperm
  have HLS := Lib.hid (chkE_ok hck)
  have HCS := Lib.hid (chkE_ok hck1)
  have HDS := Lib.hid (chkE_ok hck2)
  have HCH : Hid (∀ c ∈ cs, c.media = innerS → c.chan < t2) := hch
  clear hat hperm hck hck1 hck2 hnm hch
  have HLZ : Hid (∀ c ∈ ls, CpFits c) := whole_fits HCS.out HDS.out hz.out hz2.out HPERM.out
  have hn2 : n2 ≤ 1000000 := by have := HDS.out.few; have := hl2.out; omega
  obtain ⟨X, g7, hX, hg7, HX7, HBX, HSX⟩ := cell_new w1 24 #[.int .i64 r1, .int .i64 t1, .slice A' n' c']
  have HX3X := Lib.hid ((HBX.out.block g (blk_lt HX31.out)).trans HX31.out)
  have HX4X := Lib.hid ((HBX.out.block g4 (blk_lt HX41.out)).trans HX41.out)
  have HBX1 := Lib.hid (HB1.out.trans (HBX.out.mono HB1.out.size))
  have HATX : Hid (ClipsAt X X.heap.size A' n' ls) := (HAT.out.below HBX.out (Nat.le_refl _)).mono HBX.out.size
  obtain ⟨y0, y1, y2, _, _, _⟩ := three_cells HX4X.out
  go_upto_region 2 with (fail)
  rw [← hX, ← hg7]
  clear hX hg7 HSX HX31 HX41 HAT HBX HB1
  have hBX : B ≤ X.heap.size := Nat.le_trans hB HBX1.out.size
  have hh2X : Hid (ClipsAt X B A2 n2 ds) := hh2.out.below HBX1.out hB
  go_wp2_with fail
  refine (ISWHOLE_any r1 t2 A2 n2 cap2 ds hn2 X B hBX hh2X).mono ?_
  rintro e w2 ⟨hb2, hres⟩
  have HB2 := Lib.hid (HBX1.out.trans (hb2.mono HBX1.out.size))
  have HX32 := Lib.hid ((hb2.block g (blk_lt HX3X.out)).trans HX3X.out)
  have HX42 := Lib.hid ((hb2.block g4 (blk_lt HX4X.out)).trans HX4X.out)
  have HX72 := Lib.hid ((hb2.block g7 (blk_lt HX7.out)).trans HX7.out)
  have HAT2 : Hid (ClipsAt w2 w2.heap.size A' n' ls) := (HATX.out.below hb2 (Nat.le_refl _)).mono hb2.size
  clear hb2 y0 y1 y2 HX3X HX4X HX7 HATX hBX hh2X HBX1
  rcases hres with rfl | ⟨rfl, hwh⟩
  · have HBA := HB2
    go_wp2_with fail
    refine (TALIVEC_any _).mono ?_
    rintro e w9 ⟨rfl, hb9⟩
    go_wp2_with fail
    go_ret
    exact ⟨rfl, HBA.out.trans (hb9.mono HBA.out.size)⟩
  have HWH := Lib.hid hwh
  clear hwh
  obtain ⟨y0, y1, y2, _, _, _⟩ := three_cells HX42.out
  have hB2 : B ≤ w2.heap.size := Nat.le_trans hB HB2.out.size
  have hh22 : Hid (ClipsAt w2 B A2 n2 ds) := hh2.out.below HB2.out hB
  have hm2 : Hid (MediaAt w2 B A3 n3 md) := hm.out.below HB2.out hB
  go_wp2_with fail
  refine (RENDER_uni r1 t2 A2 A3 n2 n3 cap2 cap3 ds md hz2 hzm w2 B hB2 hh22 hm2).mono ?_
  rintro e w3 ⟨hb3, ra, AR, nR, cR, cnt, f, rfl, hren⟩
  have HREN := Lib.hid hren
  have HB3 := Lib.hid (HB2.out.trans (hb3.mono HB2.out.size))
  have HX33 := Lib.hid ((hb3.block g (blk_lt HX32.out)).trans HX32.out)
  have HX43 := Lib.hid ((hb3.block g4 (blk_lt HX42.out)).trans HX42.out)
  have HX73 := Lib.hid ((hb3.block g7 (blk_lt HX72.out)).trans HX72.out)
  have HAT3 : Hid (ClipsAt w3 w3.heap.size A' n' ls) := (HAT2.out.below hb3 (Nat.le_refl _)).mono hb3.size
  clear hb3 hren y0 y1 y2 HX32 HX42 HX72 HAT2 hB2 hh22 hm2 HB2
  obtain ⟨X4, g9, hX, hg9, HX9, HBX, HSX⟩ := cell_new w3 33 #[.int .i64 ra, .slice AR nR cR]
  have HX34 := Lib.hid ((HBX.out.block g (blk_lt HX33.out)).trans HX33.out)
  have HX74 := Lib.hid ((HBX.out.block g7 (blk_lt HX73.out)).trans HX73.out)
  have HB4 := Lib.hid (HB3.out.trans (HBX.out.mono HB3.out.size))
  have HAT4 : Hid (ClipsAt X4 X4.heap.size A' n' ls) := (HAT3.out.below HBX.out (Nat.le_refl _)).mono HBX.out.size
  have HREN4 : Hid (RenRes X4 r1 t2 md ds ra (.slice AR nR cR) cnt f) := HREN.out.below HBX.out
  go_upto_region 5 with (fail)
  rw [← hX, ← hg9]
  clear hX hg9 HSX HX33 HX43 HX73 HAT3 HREN HBX HB3
  by_cases hf : f = 0
  case neg =>
    have hq : (f != 0) = true := by simpa using hf
    clear hf
    have HBA := HB4
    go_wp2_with fail
    refine (TALIVEC_any _).mono ?_
    rintro e w9 ⟨rfl, hb9⟩
    go_wp2_with fail
    go_ret
    exact ⟨rfl, HBA.out.trans (hb9.mono HBA.out.size)⟩
  subst hf
  obtain ⟨rfl, hcnt, hmok, hown⟩ := HREN4.out rfl
  have HMOK := Lib.hid hmok
  have HOWN := Lib.hid hown
  clear hmok hown HREN4
  have hc0 : 0 ≤ cnt := by rw [hcnt]; exact renN_nn _ _ _
  have HCNT := Lib.hid hcnt
  clear hcnt
  by_cases hc1 : 0 < cnt
  · have hq : decide (cnt > 0) = true := decide_eq_true hc1
    clear hc0
    have HBA := HB4
    go_wp2_with fail
    refine (TALIVEC_any _).mono ?_
    rintro e w9 ⟨rfl, hb9⟩
    go_wp2_with fail
    go_ret
    exact ⟨rfl, HBA.out.trans (hb9.mono HBA.out.size)⟩
  obtain rfl : cnt = 0 := by omega
  clear hc0 hc1
  have HN0 : Hid (renN md ds t2.toNat = 0) := HCNT.out.symm
  clear HCNT
  obtain ⟨x0, x1, x2, _, _, _⟩ := three_cells HX74.out
  have hm4 : Hid (MediaAt X4 X4.heap.size A3 n3 md) := MediaAt.upto (hm.out.below HB4.out hB) (Nat.le_trans hB HB4.out.size)
  go_wp2_with fail
  refine (RENDER_uni ra t1 A' A3 n' n3 c' cap3 ls md HLZ hzm X4 X4.heap.size (Nat.le_refl _) HAT4 hm4).mono ?_
  rintro e w5 ⟨hb5, rb, AA, nA, cA, cntA, fA, rfl, hren⟩
  have HREN := Lib.hid hren
  have HB5 := Lib.hid (HB4.out.trans (hb5.mono HB4.out.size))
  have HX35 := Lib.hid ((hb5.block g (blk_lt HX34.out)).trans HX34.out)
  have HX95 := Lib.hid ((hb5.block g9 (blk_lt HX9.out)).trans HX9.out)
  have HOWN5 := Lib.hid (HOWN.out.below hb5)
  clear hb5 hren x0 x1 x2 HX34 HX74 HX9 HAT4 hm4 HB4 HOWN
  obtain ⟨W7, g11, hX, hg11, HX11, HBX, HSX⟩ := cell_new w5 33 #[.int .i64 rb, .slice AA nA cA]
  have HX37 := Lib.hid ((HBX.out.block g (blk_lt HX35.out)).trans HX35.out)
  have HX97 := Lib.hid ((HBX.out.block g9 (blk_lt HX95.out)).trans HX95.out)
  have HB7 := Lib.hid (HB5.out.trans (HBX.out.mono HB5.out.size))
  have HREN7 : Hid (RenRes W7 ra t1 md ls rb (.slice AA nA cA) cntA fA) := HREN.out.below HBX.out
  have HOWN7 := Lib.hid (HOWN5.out.below HBX.out)
  go_upto_region 8 with (fail)
  rw [← hX, ← hg11]
  clear hX hg11 HSX HX35 HX95 HREN HBX HB5 HOWN5
  have hBW7 : B ≤ W7.heap.size := Nat.le_trans hB HB7.out.size
  have HR7 := Lib.hid HOWN7.out.rows
  have HML : Hid (nR ≤ cR ∧ cR ≤ maxLen) := by
    obtain ⟨A9, c9, e9, h1, h2⟩ := HOWN7.out.form
    injection e9 with e1 e2 e3
    rw [e2, e3]
    exact ⟨h1, h2⟩
  obtain ⟨L, hL, hrd, hmv⟩ := (hm.out.below HB7.out hB).mvs
  obtain ⟨m9, hm9⟩ : ∃ m9 : Md, m9 = ⟨innerS, ra, renS md ds t2.toNat⟩ := ⟨_, rfl⟩
  have HM9 := Lib.hid hm9
  have HLM := Lib.hid hL
  have HRD := Lib.hid hrd
  have HMV : Hid (MvsAt W7 W7.heap.size (L ++ [(m9, AR, nR, cR)])) := fun p hp => by
    rcases List.mem_append.1 hp with h1 | h1
    · have h2 := hmv p h1
      exact ⟨h2.1, h2.2.1, h2.2.2.mono hBW7⟩
    · rw [List.mem_singleton.1 h1]
      refine ⟨HML.out.1, HML.out.2, ?_⟩
      rw [hm9]
      exact HR7.out
  have HLN : Hid (L.length = n3) := by show _ = _; have h9 := congrArg List.length HLM.out; rw [List.length_map] at h9; rw [h9]; exact hlm.out
  have hn3 : n3 ≤ 1000000 := by have := HMOK.out.few; have := hlm.out; omega
  have HZM9 : Hid (∀ m ∈ md ++ [m9], m.name.size ≤ maxLen) := fun m hm => by
    rcases List.mem_append.1 hm with h1 | h1
    · exact hzm.out m h1
    · rw [List.mem_singleton.1 h1, HM9.out]
      show (5 : Nat) ≤ maxLen
      unfold maxLen; omega
  have hmn : m9.name = ⟨#[105, 110, 110, 101, 114]⟩ := by rw [hm9]; rfl
  have hmr : m9.rate = ra := by rw [hm9]
  have HMN := Lib.hid (And.intro hmn hmr)
  clear hL hrd hmv hm9 hmn hmr
  obtain ⟨x0, x1, x2, _, _, _⟩ := three_cells HX37.out
  obtain ⟨y0, y1, _, _⟩ := two_cells HX97.out
  have hg3W := blk_lt HX37.out
  have hg9W := blk_lt HX97.out
  have hhC : Hid (ClipsAt W7 B A n cs) := hh.out.below HB7.out hB
  go_cut [13, 14, 15] (fun s13 s14 s15 wx => ∃ (gg : Nat) (rc : Int) (AB : Option Addr) (nB cB : Nat) (cntB fB : Int), s13 = .pointer (some ⟨gg, 0, none⟩) ∧ s14 = .int .i64 cntB ∧ s15 = .int .i64 fB ∧ Hid (wx.heap[gg]? = some (.cells #[.int .i64 rc, .slice AB nB cB] 33 (0, 0))) ∧ Hid (RenRes wx ra t1 (md ++ [m9]) cs rc (.slice AB nB cB) cntB fB) ∧ Hid (Below W7.heap.size W7 wx))
  case first =>
    refine wp_region_text 13 (fun x9 => x9.cell? ⟨g, 0, none⟩ = some (.int .i64 ra) ∧ x9.cell? ⟨g, 1, none⟩ = some (.int .i64 t1) ∧ x9.cell? ⟨g, 2, none⟩ = some (.slice A n cap) ∧ x9.cell? ⟨g9, 0, none⟩ = some (.int .i64 ra) ∧ x9.cell? ⟨g9, 1, none⟩ = some (.slice AR nR cR)) (by kernel_rfl) (by kernel_rfl) ?_
    obtain ⟨wc, hwc⟩ : ∃ x : World, x = W7.drew := ⟨_, rfl⟩
    have hbn : Below W7.heap.size W7 W7.drew := (Below.refl _ _).drew
    clear hbn
    have HBc : Hid (Below W7.heap.size W7 wc) := by show Below _ _ _; rw [hwc]; exact (Below.refl _ _).drew
    have hS : wc.cell? ⟨g, 0, none⟩ = some (.int .i64 ra) ∧ wc.cell? ⟨g, 1, none⟩ = some (.int .i64 t1) ∧ wc.cell? ⟨g, 2, none⟩ = some (.slice A n cap) ∧ wc.cell? ⟨g9, 0, none⟩ = some (.int .i64 ra) ∧ wc.cell? ⟨g9, 1, none⟩ = some (.slice AR nR cR) := by rw [hwc]; exact ⟨x0, x1, x2, y0, y1⟩
    have hg_0 : g < wc.heap.size := by rw [hwc]; exact hg3W
    have hg_1 : g9 < wc.heap.size := by rw [hwc]; exact hg9W
    rw [← hwc]
    clear hwc
    refine HT.load (i := 0) (oi := _) (v := ?_) rfl (by kernel_rfl) (by kernel_rfl) (by decide) (fun _ _ _ h => h) (by kernel_rfl) (Or.inl ⟨by rfl, ?_⟩) hS ?_
    rotate_left
    · intro wz hwz
      try dsimp only at hwz
      go_simp
      try with_reducible rfl
    simp only [zA, zB, zC, Act.put, zD, zE, zF]
    refine HT.take (i := 1) (oi := _) (v := ?_) rfl (by kernel_rfl) (by kernel_rfl) (by decide) (fun _ _ _ h => h) (Or.inl ⟨by rfl, ?_⟩) hS ?_
    rotate_left
    · intro wz
      go_simp
      try with_reducible rfl
    simp only [zA, zB, zC, Act.put, zD, zE, zF]
    refine HT.load (i := 3) (oi := _) (v := ?_) rfl (by kernel_rfl) (by kernel_rfl) (by decide) (fun _ _ _ h => h) (by kernel_rfl) (Or.inl ⟨by rfl, ?_⟩) hS ?_
    rotate_left
    · intro wz hwz
      try dsimp only at hwz
      go_simp
      try with_reducible rfl
    simp only [zA, zB, zC, Act.put, zD, zE, zF]
    refine HT.take (i := 4) (oi := _) (v := ?_) rfl (by kernel_rfl) (by kernel_rfl) (by decide) (fun _ _ _ h => h) (Or.inl ⟨by rfl, ?_⟩) hS ?_
    rotate_left
    · intro wz
      go_simp
      try with_reducible rfl
    simp only [zA, zB, zC, Act.put, zD, zE, zF]
    refine HT.three 2 5 12 (o1 := _) (o2 := _) (o3 := _) rfl rfl rfl (by kernel_rfl) (by decide) (by decide) (by decide) (by rfl) (by rfl) (by rfl) ?_ ?_ ?_
    · intro K hK
      go_simp
      refine (CLONEMD_any A3 n3 cap3 L wc B (HRD.out.below (HBc.out.mono hBW7)) HLN.out hn3 (Nat.le_trans hBW7 HBc.out.size)).mono ?_
      rintro e wn ⟨⟨A4, c4, rfl, hOC⟩, hbn⟩
      replace hOC := OwnK.to_base (base' := W7.heap.size) hOC HBc.out.size
      have OC := Lib.hid hOC
      clear hOC
      have HBn := Lib.hid (HBc.out.trans (hbn.mono HBc.out.size))
      have hSn : wn.cell? ⟨g, 0, none⟩ = some (.int .i64 ra) ∧ wn.cell? ⟨g, 1, none⟩ = some (.int .i64 t1) ∧ wn.cell? ⟨g, 2, none⟩ = some (.slice A n cap) ∧ wn.cell? ⟨g9, 0, none⟩ = some (.int .i64 ra) ∧ wn.cell? ⟨g9, 1, none⟩ = some (.slice AR nR cR) := ⟨(hbn.cell (p := ⟨g, 0, none⟩) hg_0).trans hS.1, (hbn.cell (p := ⟨g, 1, none⟩) hg_0).trans hS.2.1, (hbn.cell (p := ⟨g, 2, none⟩) hg_0).trans hS.2.2.1, (hbn.cell (p := ⟨g9, 0, none⟩) hg_1).trans hS.2.2.2.1, (hbn.cell (p := ⟨g9, 1, none⟩) hg_1).trans hS.2.2.2.2⟩
      have hgn_0 := Nat.lt_of_lt_of_le hg_0 hbn.size
      have hgn_1 := Nat.lt_of_lt_of_le hg_1 hbn.size
      refine hK.out _ _ hSn ?_
      clear hK K hS HBc hg_0 hg_1
      try simp only [zA, zB, zC, Act.put, zD, zE, zF]
      have hS := hSn
      have HBc := HBn
      have hg_0 := hgn_0
      have hg_1 := hgn_1
      clear hSn HBn hbn hgn_0 hgn_1
      obtain ⟨wc, rfl⟩ : ∃ x : World, x = wn := ⟨_, rfl⟩
      refine HT.two 5 12 (o := _) (o' := _) rfl rfl (by kernel_rfl) (by decide) (by decide) (by rfl) (by rfl) ?_ ?_
      · intro K hK
        go_simp
        obtain ⟨wn, gb, hwn, hga9, hOB, hbn0, _⟩ := cell_new0 wc 38 #[.string ⟨#[105, 110, 110, 101, 114]⟩, .int .i64 ra, .slice AR nR cR]
        have hbn := hbn0.out
        have HGgb : Hid (W7.heap.size ≤ gb) := by show _ ≤ _; rw [hga9]; exact HBc.out.size
        rw [← hwn, ← hga9]
        have OB := hOB
        clear hwn hga9 hbn0 hOB
        replace OC := Lib.hid (OC.out.below hbn)
        have HBn := Lib.hid (HBc.out.trans (hbn.mono HBc.out.size))
        have hSn : wn.cell? ⟨g, 0, none⟩ = some (.int .i64 ra) ∧ wn.cell? ⟨g, 1, none⟩ = some (.int .i64 t1) ∧ wn.cell? ⟨g, 2, none⟩ = some (.slice A n cap) ∧ wn.cell? ⟨g9, 0, none⟩ = some (.int .i64 ra) ∧ wn.cell? ⟨g9, 1, none⟩ = some (.slice AR nR cR) := ⟨(hbn.cell (p := ⟨g, 0, none⟩) hg_0).trans hS.1, (hbn.cell (p := ⟨g, 1, none⟩) hg_0).trans hS.2.1, (hbn.cell (p := ⟨g, 2, none⟩) hg_0).trans hS.2.2.1, (hbn.cell (p := ⟨g9, 0, none⟩) hg_1).trans hS.2.2.2.1, (hbn.cell (p := ⟨g9, 1, none⟩) hg_1).trans hS.2.2.2.2⟩
        have hgn_0 := Nat.lt_of_lt_of_le hg_0 hbn.size
        have hgn_1 := Nat.lt_of_lt_of_le hg_1 hbn.size
        refine hK.out _ _ hSn ?_
        clear hK K hS HBc hg_0 hg_1
        try simp only [zA, zB, zC, Act.put, zD, zE, zF]
        have hS := hSn
        have HBc := HBn
        have hg_0 := hgn_0
        have hg_1 := hgn_1
        clear hSn HBn hbn hgn_0 hgn_1
        obtain ⟨wc, rfl⟩ : ∃ x : World, x = wn := ⟨_, rfl⟩
        refine HT.two 6 12 (o := _) (o' := _) rfl rfl (by kernel_rfl) (by decide) (by decide) (by rfl) (by rfl) ?_ ?_
        · intro K hK
          refine wp_push_md (.tmp 54) (.tmp 57) rfl W7.heap.size A4 n3 c4 L (m9, AR, nR, cR) gb rfl rfl OC.out (by rw [HMN.out.1, HMN.out.2]; exact OB.out) hn3 HBc.out.size ?_
          intro g8 cap8 wn hown8 hb8 hk8
          have OP := Lib.hid hown8
          have HBn := Lib.hid (HBc.out.trans hb8)
          have hSn : wn.cell? ⟨g, 0, none⟩ = some (.int .i64 ra) ∧ wn.cell? ⟨g, 1, none⟩ = some (.int .i64 t1) ∧ wn.cell? ⟨g, 2, none⟩ = some (.slice A n cap) ∧ wn.cell? ⟨g9, 0, none⟩ = some (.int .i64 ra) ∧ wn.cell? ⟨g9, 1, none⟩ = some (.slice AR nR cR) := ⟨(hb8.cell (p := ⟨g, 0, none⟩) hg3W).trans hS.1, (hb8.cell (p := ⟨g, 1, none⟩) hg3W).trans hS.2.1, (hb8.cell (p := ⟨g, 2, none⟩) hg3W).trans hS.2.2.1, (hb8.cell (p := ⟨g9, 0, none⟩) hg9W).trans hS.2.2.2.1, (hb8.cell (p := ⟨g9, 1, none⟩) hg9W).trans hS.2.2.2.2⟩
          have hgn_0 := Nat.lt_of_lt_of_le hg3W HBn.out.size
          have hgn_1 := Nat.lt_of_lt_of_le hg9W HBn.out.size
          refine hK.out _ _ hSn ?_
          clear hK K hS HBc hown8 hb8 hk8 OC OB hg_0 hg_1
          try simp only [zA, zB, zC, Act.put, zD, zE, zF]
          have hS := hSn
          have HBc := HBn
          have hg_0 := hgn_0
          have hg_1 := hgn_1
          clear hSn HBn hgn_0 hgn_1
          obtain ⟨wc, rfl⟩ : ∃ x : World, x = wn := ⟨_, rfl⟩
          refine HT.two 7 12 (o := _) (o' := _) rfl rfl (by kernel_rfl) (by decide) (by decide) (by rfl) (by rfl) ?_ ?_
          · intro K hK
            go_simp
            refine (RENDER_uni ra t1 A (some ⟨g8, 0, none⟩) n (n3 + 1) cap cap8 cs (md ++ [m9]) hz HZM9 wc wc.heap.size (Nat.le_refl _) (Lib.hid ((hhC.out.below HBc.out hBW7).mono (Nat.le_trans hBW7 HBc.out.size))) (Lib.hid (md_of OP.out (HMV.out.below HBc.out (Nat.le_refl _)) HBc.out.size HLM.out))).mono ?_
            rintro e wn ⟨hbn, rc, AB, nB, cB, cntB, fB, rfl, hOR⟩
            have OR := Lib.hid hOR
            clear hOR
            clear OP
            have HBn := Lib.hid (HBc.out.trans (hbn.mono HBc.out.size))
            have hSn : wn.cell? ⟨g, 0, none⟩ = some (.int .i64 ra) ∧ wn.cell? ⟨g, 1, none⟩ = some (.int .i64 t1) ∧ wn.cell? ⟨g, 2, none⟩ = some (.slice A n cap) ∧ wn.cell? ⟨g9, 0, none⟩ = some (.int .i64 ra) ∧ wn.cell? ⟨g9, 1, none⟩ = some (.slice AR nR cR) := ⟨(hbn.cell (p := ⟨g, 0, none⟩) hg_0).trans hS.1, (hbn.cell (p := ⟨g, 1, none⟩) hg_0).trans hS.2.1, (hbn.cell (p := ⟨g, 2, none⟩) hg_0).trans hS.2.2.1, (hbn.cell (p := ⟨g9, 0, none⟩) hg_1).trans hS.2.2.2.1, (hbn.cell (p := ⟨g9, 1, none⟩) hg_1).trans hS.2.2.2.2⟩
            have hgn_0 := Nat.lt_of_lt_of_le hg_0 hbn.size
            have hgn_1 := Nat.lt_of_lt_of_le hg_1 hbn.size
            refine hK.out _ _ hSn ?_
            clear hK K hS HBc hg_0 hg_1
            try simp only [zA, zB, zC, Act.put, zD, zE, zF]
            have hS := hSn
            have HBc := HBn
            have hg_0 := hgn_0
            have hg_1 := hgn_1
            clear hSn HBn hbn hgn_0 hgn_1
            obtain ⟨wc, rfl⟩ : ∃ x : World, x = wn := ⟨_, rfl⟩
            refine HT.take (i := 8) (oi := _) (v := ?_) rfl (by kernel_rfl) (by kernel_rfl) (by decide) (fun _ _ _ h => h) (Or.inl ⟨by rfl, ?_⟩) hS ?_
            rotate_left
            · intro wz
              go_simp
              try with_reducible rfl
            simp only [zA, zB, zC, Act.put, zD, zE, zF]
            refine HT.take (i := 9) (oi := _) (v := ?_) rfl (by kernel_rfl) (by kernel_rfl) (by decide) (fun _ _ _ h => h) (Or.inl ⟨by rfl, ?_⟩) hS ?_
            rotate_left
            · intro wz
              go_simp
              try with_reducible rfl
            simp only [zA, zB, zC, Act.put, zD, zE, zF]
            refine HT.take (i := 10) (oi := _) (v := ?_) rfl (by kernel_rfl) (by kernel_rfl) (by decide) (fun _ _ _ h => h) (Or.inl ⟨by rfl, ?_⟩) hS ?_
            rotate_left
            · intro wz
              go_simp
              try with_reducible rfl
            simp only [zA, zB, zC, Act.put, zD, zE, zF]
            refine HT.take (i := 11) (oi := _) (v := ?_) rfl (by kernel_rfl) (by kernel_rfl) (by decide) (fun _ _ _ h => h) (Or.inl ⟨by rfl, ?_⟩) hS ?_
            rotate_left
            · intro wz
              go_simp
              try with_reducible rfl
            simp only [zA, zB, zC, Act.put, zD, zE, zF]
            refine HT.one (i := 12) (o := _) rfl (by kernel_rfl) (by decide) (by rfl) ?_
            intro K hK
            go_simp
            obtain ⟨wn, ga, hwn, hga9, hOA, hbn0, _⟩ := cell_new0 wc 33 #[.int .i64 0, .slice none 0 0]
            have hbn := hbn0.out
            have HGga : Hid (W7.heap.size ≤ ga) := by show _ ≤ _; rw [hga9]; exact HBc.out.size
            rw [← hwn, ← hga9]
            have OA := hOA
            clear hwn hga9 hbn0 hOA
            replace OR := Lib.hid (OR.out.below hbn)
            have HBn := Lib.hid (HBc.out.trans (hbn.mono HBc.out.size))
            have hSn : wn.cell? ⟨g, 0, none⟩ = some (.int .i64 ra) ∧ wn.cell? ⟨g, 1, none⟩ = some (.int .i64 t1) ∧ wn.cell? ⟨g, 2, none⟩ = some (.slice A n cap) ∧ wn.cell? ⟨g9, 0, none⟩ = some (.int .i64 ra) ∧ wn.cell? ⟨g9, 1, none⟩ = some (.slice AR nR cR) := ⟨(hbn.cell (p := ⟨g, 0, none⟩) hg_0).trans hS.1, (hbn.cell (p := ⟨g, 1, none⟩) hg_0).trans hS.2.1, (hbn.cell (p := ⟨g, 2, none⟩) hg_0).trans hS.2.2.1, (hbn.cell (p := ⟨g9, 0, none⟩) hg_1).trans hS.2.2.2.1, (hbn.cell (p := ⟨g9, 1, none⟩) hg_1).trans hS.2.2.2.2⟩
            have hgn_0 := Nat.lt_of_lt_of_le hg_0 hbn.size
            have hgn_1 := Nat.lt_of_lt_of_le hg_1 hbn.size
            refine hK.out _ _ hSn ?_
            clear hK K hS HBc hg_0 hg_1
            try simp only [zA, zB, zC, Act.put, zD, zE, zF]
            have hS := hSn
            have HBc := HBn
            have hg_0 := hgn_0
            have hg_1 := hgn_1
            clear hSn HBn hbn hgn_0 hgn_1
            obtain ⟨wc, rfl⟩ : ∃ x : World, x = wn := ⟨_, rfl⟩
            refine HT.done (by kernel_rfl) ?_
            clear hS
            simp only [List.drop_succ_cons, List.drop_zero]
            obtain ⟨c0, c1, f0, f1⟩ := two_cells OA.out
            go_wp2_with fail
            go_meet
            exact ⟨ga, rc, AB, nB, cB, cntB, fB, rfl, rfl, rfl, heap_set2 OA.out, OR.out.set2 OA.out _ _, set2_below HBc.out HGga.out⟩
            -- OA OR
          · intro K hK
            go_simp
            obtain ⟨wn, ga, hwn, hga9, hOA, hbn0, _⟩ := cell_new0 wc 33 #[.int .i64 0, .slice none 0 0]
            have hbn := hbn0.out
            have HGga : Hid (W7.heap.size ≤ ga) := by show _ ≤ _; rw [hga9]; exact HBc.out.size
            rw [← hwn, ← hga9]
            have OA := hOA
            clear hwn hga9 hbn0 hOA
            replace OP := Lib.hid (OP.out.below hbn)
            have HBn := Lib.hid (HBc.out.trans (hbn.mono HBc.out.size))
            have hSn : wn.cell? ⟨g, 0, none⟩ = some (.int .i64 ra) ∧ wn.cell? ⟨g, 1, none⟩ = some (.int .i64 t1) ∧ wn.cell? ⟨g, 2, none⟩ = some (.slice A n cap) ∧ wn.cell? ⟨g9, 0, none⟩ = some (.int .i64 ra) ∧ wn.cell? ⟨g9, 1, none⟩ = some (.slice AR nR cR) := ⟨(hbn.cell (p := ⟨g, 0, none⟩) hg_0).trans hS.1, (hbn.cell (p := ⟨g, 1, none⟩) hg_0).trans hS.2.1, (hbn.cell (p := ⟨g, 2, none⟩) hg_0).trans hS.2.2.1, (hbn.cell (p := ⟨g9, 0, none⟩) hg_1).trans hS.2.2.2.1, (hbn.cell (p := ⟨g9, 1, none⟩) hg_1).trans hS.2.2.2.2⟩
            have hgn_0 := Nat.lt_of_lt_of_le hg_0 hbn.size
            have hgn_1 := Nat.lt_of_lt_of_le hg_1 hbn.size
            refine hK.out _ _ hSn ?_
            clear hK K hS HBc hg_0 hg_1
            try simp only [zA, zB, zC, Act.put, zD, zE, zF]
            have hS := hSn
            have HBc := HBn
            have hg_0 := hgn_0
            have hg_1 := hgn_1
            clear hSn HBn hbn hgn_0 hgn_1
            obtain ⟨wc, rfl⟩ : ∃ x : World, x = wn := ⟨_, rfl⟩
            refine HT.one (i := 7) (o := _) rfl (by kernel_rfl) (by decide) (by rfl) ?_
            intro K hK
            go_simp
            refine (RENDER_uni ra t1 A (some ⟨g8, 0, none⟩) n (n3 + 1) cap cap8 cs (md ++ [m9]) hz HZM9 wc wc.heap.size (Nat.le_refl _) (Lib.hid ((hhC.out.below HBc.out hBW7).mono (Nat.le_trans hBW7 HBc.out.size))) (Lib.hid (md_of OP.out (HMV.out.below HBc.out (Nat.le_refl _)) HBc.out.size HLM.out))).mono ?_
            rintro e wn ⟨hbn, rc, AB, nB, cB, cntB, fB, rfl, hOR⟩
            have OR := Lib.hid hOR
            clear hOR
            clear OP
            replace OA := Lib.hid ((hbn.block ga (blk_lt OA.out)).trans OA.out)
            have HBn := Lib.hid (HBc.out.trans (hbn.mono HBc.out.size))
            have hSn : wn.cell? ⟨g, 0, none⟩ = some (.int .i64 ra) ∧ wn.cell? ⟨g, 1, none⟩ = some (.int .i64 t1) ∧ wn.cell? ⟨g, 2, none⟩ = some (.slice A n cap) ∧ wn.cell? ⟨g9, 0, none⟩ = some (.int .i64 ra) ∧ wn.cell? ⟨g9, 1, none⟩ = some (.slice AR nR cR) := ⟨(hbn.cell (p := ⟨g, 0, none⟩) hg_0).trans hS.1, (hbn.cell (p := ⟨g, 1, none⟩) hg_0).trans hS.2.1, (hbn.cell (p := ⟨g, 2, none⟩) hg_0).trans hS.2.2.1, (hbn.cell (p := ⟨g9, 0, none⟩) hg_1).trans hS.2.2.2.1, (hbn.cell (p := ⟨g9, 1, none⟩) hg_1).trans hS.2.2.2.2⟩
            have hgn_0 := Nat.lt_of_lt_of_le hg_0 hbn.size
            have hgn_1 := Nat.lt_of_lt_of_le hg_1 hbn.size
            refine hK.out _ _ hSn ?_
            clear hK K hS HBc hg_0 hg_1
            try simp only [zA, zB, zC, Act.put, zD, zE, zF]
            have hS := hSn
            have HBc := HBn
            have hg_0 := hgn_0
            have hg_1 := hgn_1
            clear hSn HBn hbn hgn_0 hgn_1
            obtain ⟨wc, rfl⟩ : ∃ x : World, x = wn := ⟨_, rfl⟩
            refine HT.take (i := 8) (oi := _) (v := ?_) rfl (by kernel_rfl) (by kernel_rfl) (by decide) (fun _ _ _ h => h) (Or.inl ⟨by rfl, ?_⟩) hS ?_
            rotate_left
            · intro wz
              go_simp
              try with_reducible rfl
            simp only [zA, zB, zC, Act.put, zD, zE, zF]
            refine HT.take (i := 9) (oi := _) (v := ?_) rfl (by kernel_rfl) (by kernel_rfl) (by decide) (fun _ _ _ h => h) (Or.inl ⟨by rfl, ?_⟩) hS ?_
            rotate_left
            · intro wz
              go_simp
              try with_reducible rfl
            simp only [zA, zB, zC, Act.put, zD, zE, zF]
            refine HT.take (i := 10) (oi := _) (v := ?_) rfl (by kernel_rfl) (by kernel_rfl) (by decide) (fun _ _ _ h => h) (Or.inl ⟨by rfl, ?_⟩) hS ?_
            rotate_left
            · intro wz
              go_simp
              try with_reducible rfl
            simp only [zA, zB, zC, Act.put, zD, zE, zF]
            refine HT.take (i := 11) (oi := _) (v := ?_) rfl (by kernel_rfl) (by kernel_rfl) (by decide) (fun _ _ _ h => h) (Or.inl ⟨by rfl, ?_⟩) hS ?_
            rotate_left
            · intro wz
              go_simp
              try with_reducible rfl
            simp only [zA, zB, zC, Act.put, zD, zE, zF]
            refine HT.done (by kernel_rfl) ?_
            clear hS
            simp only [List.drop_succ_cons, List.drop_zero]
            obtain ⟨c0, c1, f0, f1⟩ := two_cells OA.out
            go_wp2_with fail
            go_meet
            exact ⟨ga, rc, AB, nB, cB, cntB, fB, rfl, rfl, rfl, heap_set2 OA.out, OR.out.set2 OA.out _ _, set2_below HBc.out HGga.out⟩
            -- OA OR
        · intro K hK
          go_simp
          obtain ⟨wn, ga, hwn, hga9, hOA, hbn0, _⟩ := cell_new0 wc 33 #[.int .i64 0, .slice none 0 0]
          have hbn := hbn0.out
          have HGga : Hid (W7.heap.size ≤ ga) := by show _ ≤ _; rw [hga9]; exact HBc.out.size
          have hne_gb_ga : gb ≠ ga := by have := blk_lt OB.out; omega
          rw [← hwn, ← hga9]
          have OA := hOA
          clear hwn hga9 hbn0 hOA
          replace OC := Lib.hid (OC.out.below hbn)
          replace OB := Lib.hid ((hbn.block gb (blk_lt OB.out)).trans OB.out)
          have HBn := Lib.hid (HBc.out.trans (hbn.mono HBc.out.size))
          have hSn : wn.cell? ⟨g, 0, none⟩ = some (.int .i64 ra) ∧ wn.cell? ⟨g, 1, none⟩ = some (.int .i64 t1) ∧ wn.cell? ⟨g, 2, none⟩ = some (.slice A n cap) ∧ wn.cell? ⟨g9, 0, none⟩ = some (.int .i64 ra) ∧ wn.cell? ⟨g9, 1, none⟩ = some (.slice AR nR cR) := ⟨(hbn.cell (p := ⟨g, 0, none⟩) hg_0).trans hS.1, (hbn.cell (p := ⟨g, 1, none⟩) hg_0).trans hS.2.1, (hbn.cell (p := ⟨g, 2, none⟩) hg_0).trans hS.2.2.1, (hbn.cell (p := ⟨g9, 0, none⟩) hg_1).trans hS.2.2.2.1, (hbn.cell (p := ⟨g9, 1, none⟩) hg_1).trans hS.2.2.2.2⟩
          have hgn_0 := Nat.lt_of_lt_of_le hg_0 hbn.size
          have hgn_1 := Nat.lt_of_lt_of_le hg_1 hbn.size
          refine hK.out _ _ hSn ?_
          clear hK K hS HBc hg_0 hg_1
          try simp only [zA, zB, zC, Act.put, zD, zE, zF]
          have hS := hSn
          have HBc := HBn
          have hg_0 := hgn_0
          have hg_1 := hgn_1
          clear hSn HBn hbn hgn_0 hgn_1
          obtain ⟨wc, rfl⟩ : ∃ x : World, x = wn := ⟨_, rfl⟩
          refine HT.one (i := 6) (o := _) rfl (by kernel_rfl) (by decide) (by rfl) ?_
          intro K hK
          refine wp_push_md (.tmp 54) (.tmp 57) rfl W7.heap.size A4 n3 c4 L (m9, AR, nR, cR) gb rfl rfl OC.out (by rw [HMN.out.1, HMN.out.2]; exact OB.out) hn3 HBc.out.size ?_
          intro g8 cap8 wn hown8 hb8 hk8
          have OP := Lib.hid hown8
          replace OA := Lib.hid ((hk8 ga (blk_lt OA.out) (own_ne_blk OC.out.2 OA.out (by decide))).trans OA.out)
          have HBn := Lib.hid (HBc.out.trans hb8)
          have hSn : wn.cell? ⟨g, 0, none⟩ = some (.int .i64 ra) ∧ wn.cell? ⟨g, 1, none⟩ = some (.int .i64 t1) ∧ wn.cell? ⟨g, 2, none⟩ = some (.slice A n cap) ∧ wn.cell? ⟨g9, 0, none⟩ = some (.int .i64 ra) ∧ wn.cell? ⟨g9, 1, none⟩ = some (.slice AR nR cR) := ⟨(hb8.cell (p := ⟨g, 0, none⟩) hg3W).trans hS.1, (hb8.cell (p := ⟨g, 1, none⟩) hg3W).trans hS.2.1, (hb8.cell (p := ⟨g, 2, none⟩) hg3W).trans hS.2.2.1, (hb8.cell (p := ⟨g9, 0, none⟩) hg9W).trans hS.2.2.2.1, (hb8.cell (p := ⟨g9, 1, none⟩) hg9W).trans hS.2.2.2.2⟩
          have hgn_0 := Nat.lt_of_lt_of_le hg3W HBn.out.size
          have hgn_1 := Nat.lt_of_lt_of_le hg9W HBn.out.size
          refine hK.out _ _ hSn ?_
          clear hK K hS HBc hown8 hb8 hk8 OC OB hg_0 hg_1
          try simp only [zA, zB, zC, Act.put, zD, zE, zF]
          have hS := hSn
          have HBc := HBn
          have hg_0 := hgn_0
          have hg_1 := hgn_1
          clear hSn HBn hgn_0 hgn_1
          obtain ⟨wc, rfl⟩ : ∃ x : World, x = wn := ⟨_, rfl⟩
          refine HT.one (i := 7) (o := _) rfl (by kernel_rfl) (by decide) (by rfl) ?_
          intro K hK
          go_simp
          refine (RENDER_uni ra t1 A (some ⟨g8, 0, none⟩) n (n3 + 1) cap cap8 cs (md ++ [m9]) hz HZM9 wc wc.heap.size (Nat.le_refl _) (Lib.hid ((hhC.out.below HBc.out hBW7).mono (Nat.le_trans hBW7 HBc.out.size))) (Lib.hid (md_of OP.out (HMV.out.below HBc.out (Nat.le_refl _)) HBc.out.size HLM.out))).mono ?_
          rintro e wn ⟨hbn, rc, AB, nB, cB, cntB, fB, rfl, hOR⟩
          have OR := Lib.hid hOR
          clear hOR
          clear OP
          replace OA := Lib.hid ((hbn.block ga (blk_lt OA.out)).trans OA.out)
          have HBn := Lib.hid (HBc.out.trans (hbn.mono HBc.out.size))
          have hSn : wn.cell? ⟨g, 0, none⟩ = some (.int .i64 ra) ∧ wn.cell? ⟨g, 1, none⟩ = some (.int .i64 t1) ∧ wn.cell? ⟨g, 2, none⟩ = some (.slice A n cap) ∧ wn.cell? ⟨g9, 0, none⟩ = some (.int .i64 ra) ∧ wn.cell? ⟨g9, 1, none⟩ = some (.slice AR nR cR) := ⟨(hbn.cell (p := ⟨g, 0, none⟩) hg_0).trans hS.1, (hbn.cell (p := ⟨g, 1, none⟩) hg_0).trans hS.2.1, (hbn.cell (p := ⟨g, 2, none⟩) hg_0).trans hS.2.2.1, (hbn.cell (p := ⟨g9, 0, none⟩) hg_1).trans hS.2.2.2.1, (hbn.cell (p := ⟨g9, 1, none⟩) hg_1).trans hS.2.2.2.2⟩
          have hgn_0 := Nat.lt_of_lt_of_le hg_0 hbn.size
          have hgn_1 := Nat.lt_of_lt_of_le hg_1 hbn.size
          refine hK.out _ _ hSn ?_
          clear hK K hS HBc hg_0 hg_1
          try simp only [zA, zB, zC, Act.put, zD, zE, zF]
          have hS := hSn
          have HBc := HBn
          have hg_0 := hgn_0
          have hg_1 := hgn_1
          clear hSn HBn hbn hgn_0 hgn_1
          obtain ⟨wc, rfl⟩ : ∃ x : World, x = wn := ⟨_, rfl⟩
          refine HT.take (i := 8) (oi := _) (v := ?_) rfl (by kernel_rfl) (by kernel_rfl) (by decide) (fun _ _ _ h => h) (Or.inl ⟨by rfl, ?_⟩) hS ?_
          rotate_left
          · intro wz
            go_simp
            try with_reducible rfl
          simp only [zA, zB, zC, Act.put, zD, zE, zF]
          refine HT.take (i := 9) (oi := _) (v := ?_) rfl (by kernel_rfl) (by kernel_rfl) (by decide) (fun _ _ _ h => h) (Or.inl ⟨by rfl, ?_⟩) hS ?_
          rotate_left
          · intro wz
            go_simp
            try with_reducible rfl
          simp only [zA, zB, zC, Act.put, zD, zE, zF]
          refine HT.take (i := 10) (oi := _) (v := ?_) rfl (by kernel_rfl) (by kernel_rfl) (by decide) (fun _ _ _ h => h) (Or.inl ⟨by rfl, ?_⟩) hS ?_
          rotate_left
          · intro wz
            go_simp
            try with_reducible rfl
          simp only [zA, zB, zC, Act.put, zD, zE, zF]
          refine HT.take (i := 11) (oi := _) (v := ?_) rfl (by kernel_rfl) (by kernel_rfl) (by decide) (fun _ _ _ h => h) (Or.inl ⟨by rfl, ?_⟩) hS ?_
          rotate_left
          · intro wz
            go_simp
            try with_reducible rfl
          simp only [zA, zB, zC, Act.put, zD, zE, zF]
          refine HT.done (by kernel_rfl) ?_
          clear hS
          simp only [List.drop_succ_cons, List.drop_zero]
          obtain ⟨c0, c1, f0, f1⟩ := two_cells OA.out
          go_wp2_with fail
          go_meet
          exact ⟨ga, rc, AB, nB, cB, cntB, fB, rfl, rfl, rfl, heap_set2 OA.out, OR.out.set2 OA.out _ _, set2_below HBc.out HGga.out⟩
          -- OA OR
      · intro K hK
        go_simp
        obtain ⟨wn, ga, hwn, hga9, hOA, hbn0, _⟩ := cell_new0 wc 33 #[.int .i64 0, .slice none 0 0]
        have hbn := hbn0.out
        have HGga : Hid (W7.heap.size ≤ ga) := by show _ ≤ _; rw [hga9]; exact HBc.out.size
        rw [← hwn, ← hga9]
        have OA := hOA
        clear hwn hga9 hbn0 hOA
        replace OC := Lib.hid (OC.out.below hbn)
        have HBn := Lib.hid (HBc.out.trans (hbn.mono HBc.out.size))
        have hSn : wn.cell? ⟨g, 0, none⟩ = some (.int .i64 ra) ∧ wn.cell? ⟨g, 1, none⟩ = some (.int .i64 t1) ∧ wn.cell? ⟨g, 2, none⟩ = some (.slice A n cap) ∧ wn.cell? ⟨g9, 0, none⟩ = some (.int .i64 ra) ∧ wn.cell? ⟨g9, 1, none⟩ = some (.slice AR nR cR) := ⟨(hbn.cell (p := ⟨g, 0, none⟩) hg_0).trans hS.1, (hbn.cell (p := ⟨g, 1, none⟩) hg_0).trans hS.2.1, (hbn.cell (p := ⟨g, 2, none⟩) hg_0).trans hS.2.2.1, (hbn.cell (p := ⟨g9, 0, none⟩) hg_1).trans hS.2.2.2.1, (hbn.cell (p := ⟨g9, 1, none⟩) hg_1).trans hS.2.2.2.2⟩
        have hgn_0 := Nat.lt_of_lt_of_le hg_0 hbn.size
        have hgn_1 := Nat.lt_of_lt_of_le hg_1 hbn.size
        refine hK.out _ _ hSn ?_
        clear hK K hS HBc hg_0 hg_1
        try simp only [zA, zB, zC, Act.put, zD, zE, zF]
        have hS := hSn
        have HBc := HBn
        have hg_0 := hgn_0
        have hg_1 := hgn_1
        clear hSn HBn hbn hgn_0 hgn_1
        obtain ⟨wc, rfl⟩ : ∃ x : World, x = wn := ⟨_, rfl⟩
        refine HT.one (i := 5) (o := _) rfl (by kernel_rfl) (by decide) (by rfl) ?_
        intro K hK
        go_simp
        obtain ⟨wn, gb, hwn, hga9, hOB, hbn0, _⟩ := cell_new0 wc 38 #[.string ⟨#[105, 110, 110, 101, 114]⟩, .int .i64 ra, .slice AR nR cR]
        have hbn := hbn0.out
        have HGgb : Hid (W7.heap.size ≤ gb) := by show _ ≤ _; rw [hga9]; exact HBc.out.size
        have hne_ga_gb : ga ≠ gb := by have := blk_lt OA.out; omega
        rw [← hwn, ← hga9]
        have OB := hOB
        clear hwn hga9 hbn0 hOB
        replace OC := Lib.hid (OC.out.below hbn)
        replace OA := Lib.hid ((hbn.block ga (blk_lt OA.out)).trans OA.out)
        have HBn := Lib.hid (HBc.out.trans (hbn.mono HBc.out.size))
        have hSn : wn.cell? ⟨g, 0, none⟩ = some (.int .i64 ra) ∧ wn.cell? ⟨g, 1, none⟩ = some (.int .i64 t1) ∧ wn.cell? ⟨g, 2, none⟩ = some (.slice A n cap) ∧ wn.cell? ⟨g9, 0, none⟩ = some (.int .i64 ra) ∧ wn.cell? ⟨g9, 1, none⟩ = some (.slice AR nR cR) := ⟨(hbn.cell (p := ⟨g, 0, none⟩) hg_0).trans hS.1, (hbn.cell (p := ⟨g, 1, none⟩) hg_0).trans hS.2.1, (hbn.cell (p := ⟨g, 2, none⟩) hg_0).trans hS.2.2.1, (hbn.cell (p := ⟨g9, 0, none⟩) hg_1).trans hS.2.2.2.1, (hbn.cell (p := ⟨g9, 1, none⟩) hg_1).trans hS.2.2.2.2⟩
        have hgn_0 := Nat.lt_of_lt_of_le hg_0 hbn.size
        have hgn_1 := Nat.lt_of_lt_of_le hg_1 hbn.size
        refine hK.out _ _ hSn ?_
        clear hK K hS HBc hg_0 hg_1
        try simp only [zA, zB, zC, Act.put, zD, zE, zF]
        have hS := hSn
        have HBc := HBn
        have hg_0 := hgn_0
        have hg_1 := hgn_1
        clear hSn HBn hbn hgn_0 hgn_1
        obtain ⟨wc, rfl⟩ : ∃ x : World, x = wn := ⟨_, rfl⟩
        refine HT.one (i := 6) (o := _) rfl (by kernel_rfl) (by decide) (by rfl) ?_
        intro K hK
        refine wp_push_md (.tmp 54) (.tmp 57) rfl W7.heap.size A4 n3 c4 L (m9, AR, nR, cR) gb rfl rfl OC.out (by rw [HMN.out.1, HMN.out.2]; exact OB.out) hn3 HBc.out.size ?_
        intro g8 cap8 wn hown8 hb8 hk8
        have OP := Lib.hid hown8
        replace OA := Lib.hid ((hk8 ga (blk_lt OA.out) (own_ne_blk OC.out.2 OA.out (by decide))).trans OA.out)
        have HBn := Lib.hid (HBc.out.trans hb8)
        have hSn : wn.cell? ⟨g, 0, none⟩ = some (.int .i64 ra) ∧ wn.cell? ⟨g, 1, none⟩ = some (.int .i64 t1) ∧ wn.cell? ⟨g, 2, none⟩ = some (.slice A n cap) ∧ wn.cell? ⟨g9, 0, none⟩ = some (.int .i64 ra) ∧ wn.cell? ⟨g9, 1, none⟩ = some (.slice AR nR cR) := ⟨(hb8.cell (p := ⟨g, 0, none⟩) hg3W).trans hS.1, (hb8.cell (p := ⟨g, 1, none⟩) hg3W).trans hS.2.1, (hb8.cell (p := ⟨g, 2, none⟩) hg3W).trans hS.2.2.1, (hb8.cell (p := ⟨g9, 0, none⟩) hg9W).trans hS.2.2.2.1, (hb8.cell (p := ⟨g9, 1, none⟩) hg9W).trans hS.2.2.2.2⟩
        have hgn_0 := Nat.lt_of_lt_of_le hg3W HBn.out.size
        have hgn_1 := Nat.lt_of_lt_of_le hg9W HBn.out.size
        refine hK.out _ _ hSn ?_
        clear hK K hS HBc hown8 hb8 hk8 OC OB hg_0 hg_1
        try simp only [zA, zB, zC, Act.put, zD, zE, zF]
        have hS := hSn
        have HBc := HBn
        have hg_0 := hgn_0
        have hg_1 := hgn_1
        clear hSn HBn hgn_0 hgn_1
        obtain ⟨wc, rfl⟩ : ∃ x : World, x = wn := ⟨_, rfl⟩
        refine HT.one (i := 7) (o := _) rfl (by kernel_rfl) (by decide) (by rfl) ?_
        intro K hK
        go_simp
        refine (RENDER_uni ra t1 A (some ⟨g8, 0, none⟩) n (n3 + 1) cap cap8 cs (md ++ [m9]) hz HZM9 wc wc.heap.size (Nat.le_refl _) (Lib.hid ((hhC.out.below HBc.out hBW7).mono (Nat.le_trans hBW7 HBc.out.size))) (Lib.hid (md_of OP.out (HMV.out.below HBc.out (Nat.le_refl _)) HBc.out.size HLM.out))).mono ?_
        rintro e wn ⟨hbn, rc, AB, nB, cB, cntB, fB, rfl, hOR⟩
        have OR := Lib.hid hOR
        clear hOR
        clear OP
        replace OA := Lib.hid ((hbn.block ga (blk_lt OA.out)).trans OA.out)
        have HBn := Lib.hid (HBc.out.trans (hbn.mono HBc.out.size))
        have hSn : wn.cell? ⟨g, 0, none⟩ = some (.int .i64 ra) ∧ wn.cell? ⟨g, 1, none⟩ = some (.int .i64 t1) ∧ wn.cell? ⟨g, 2, none⟩ = some (.slice A n cap) ∧ wn.cell? ⟨g9, 0, none⟩ = some (.int .i64 ra) ∧ wn.cell? ⟨g9, 1, none⟩ = some (.slice AR nR cR) := ⟨(hbn.cell (p := ⟨g, 0, none⟩) hg_0).trans hS.1, (hbn.cell (p := ⟨g, 1, none⟩) hg_0).trans hS.2.1, (hbn.cell (p := ⟨g, 2, none⟩) hg_0).trans hS.2.2.1, (hbn.cell (p := ⟨g9, 0, none⟩) hg_1).trans hS.2.2.2.1, (hbn.cell (p := ⟨g9, 1, none⟩) hg_1).trans hS.2.2.2.2⟩
        have hgn_0 := Nat.lt_of_lt_of_le hg_0 hbn.size
        have hgn_1 := Nat.lt_of_lt_of_le hg_1 hbn.size
        refine hK.out _ _ hSn ?_
        clear hK K hS HBc hg_0 hg_1
        try simp only [zA, zB, zC, Act.put, zD, zE, zF]
        have hS := hSn
        have HBc := HBn
        have hg_0 := hgn_0
        have hg_1 := hgn_1
        clear hSn HBn hbn hgn_0 hgn_1
        obtain ⟨wc, rfl⟩ : ∃ x : World, x = wn := ⟨_, rfl⟩
        refine HT.take (i := 8) (oi := _) (v := ?_) rfl (by kernel_rfl) (by kernel_rfl) (by decide) (fun _ _ _ h => h) (Or.inl ⟨by rfl, ?_⟩) hS ?_
        rotate_left
        · intro wz
          go_simp
          try with_reducible rfl
        simp only [zA, zB, zC, Act.put, zD, zE, zF]
        refine HT.take (i := 9) (oi := _) (v := ?_) rfl (by kernel_rfl) (by kernel_rfl) (by decide) (fun _ _ _ h => h) (Or.inl ⟨by rfl, ?_⟩) hS ?_
        rotate_left
        · intro wz
          go_simp
          try with_reducible rfl
        simp only [zA, zB, zC, Act.put, zD, zE, zF]
        refine HT.take (i := 10) (oi := _) (v := ?_) rfl (by kernel_rfl) (by kernel_rfl) (by decide) (fun _ _ _ h => h) (Or.inl ⟨by rfl, ?_⟩) hS ?_
        rotate_left
        · intro wz
          go_simp
          try with_reducible rfl
        simp only [zA, zB, zC, Act.put, zD, zE, zF]
        refine HT.take (i := 11) (oi := _) (v := ?_) rfl (by kernel_rfl) (by kernel_rfl) (by decide) (fun _ _ _ h => h) (Or.inl ⟨by rfl, ?_⟩) hS ?_
        rotate_left
        · intro wz
          go_simp
          try with_reducible rfl
        simp only [zA, zB, zC, Act.put, zD, zE, zF]
        refine HT.done (by kernel_rfl) ?_
        clear hS
        simp only [List.drop_succ_cons, List.drop_zero]
        obtain ⟨c0, c1, f0, f1⟩ := two_cells OA.out
        go_wp2_with fail
        go_meet
        exact ⟨ga, rc, AB, nB, cB, cntB, fB, rfl, rfl, rfl, heap_set2 OA.out, OR.out.set2 OA.out _ _, set2_below HBc.out HGga.out⟩
        -- OA OR
    · intro K hK
      go_simp
      obtain ⟨wn, gb, hwn, hga9, hOB, hbn0, _⟩ := cell_new0 wc 38 #[.string ⟨#[105, 110, 110, 101, 114]⟩, .int .i64 ra, .slice AR nR cR]
      have hbn := hbn0.out
      have HGgb : Hid (W7.heap.size ≤ gb) := by show _ ≤ _; rw [hga9]; exact HBc.out.size
      rw [← hwn, ← hga9]
      have OB := hOB
      clear hwn hga9 hbn0 hOB
      have HBn := Lib.hid (HBc.out.trans (hbn.mono HBc.out.size))
      have hSn : wn.cell? ⟨g, 0, none⟩ = some (.int .i64 ra) ∧ wn.cell? ⟨g, 1, none⟩ = some (.int .i64 t1) ∧ wn.cell? ⟨g, 2, none⟩ = some (.slice A n cap) ∧ wn.cell? ⟨g9, 0, none⟩ = some (.int .i64 ra) ∧ wn.cell? ⟨g9, 1, none⟩ = some (.slice AR nR cR) := ⟨(hbn.cell (p := ⟨g, 0, none⟩) hg_0).trans hS.1, (hbn.cell (p := ⟨g, 1, none⟩) hg_0).trans hS.2.1, (hbn.cell (p := ⟨g, 2, none⟩) hg_0).trans hS.2.2.1, (hbn.cell (p := ⟨g9, 0, none⟩) hg_1).trans hS.2.2.2.1, (hbn.cell (p := ⟨g9, 1, none⟩) hg_1).trans hS.2.2.2.2⟩
      have hgn_0 := Nat.lt_of_lt_of_le hg_0 hbn.size
      have hgn_1 := Nat.lt_of_lt_of_le hg_1 hbn.size
      refine hK.out _ _ hSn ?_
      clear hK K hS HBc hg_0 hg_1
      try simp only [zA, zB, zC, Act.put, zD, zE, zF]
      have hS := hSn
      have HBc := HBn
      have hg_0 := hgn_0
      have hg_1 := hgn_1
      clear hSn HBn hbn hgn_0 hgn_1
      obtain ⟨wc, rfl⟩ : ∃ x : World, x = wn := ⟨_, rfl⟩
      refine HT.two 2 12 (o := _) (o' := _) rfl rfl (by kernel_rfl) (by decide) (by decide) (by rfl) (by rfl) ?_ ?_
      · intro K hK
        go_simp
        refine (CLONEMD_any A3 n3 cap3 L wc B (HRD.out.below (HBc.out.mono hBW7)) HLN.out hn3 (Nat.le_trans hBW7 HBc.out.size)).mono ?_
        rintro e wn ⟨⟨A4, c4, rfl, hOC⟩, hbn⟩
        replace hOC := OwnK.to_base (base' := W7.heap.size) hOC HBc.out.size
        have OC := Lib.hid hOC
        clear hOC
        replace OB := Lib.hid ((hbn.block gb (blk_lt OB.out)).trans OB.out)
        have HBn := Lib.hid (HBc.out.trans (hbn.mono HBc.out.size))
        have hSn : wn.cell? ⟨g, 0, none⟩ = some (.int .i64 ra) ∧ wn.cell? ⟨g, 1, none⟩ = some (.int .i64 t1) ∧ wn.cell? ⟨g, 2, none⟩ = some (.slice A n cap) ∧ wn.cell? ⟨g9, 0, none⟩ = some (.int .i64 ra) ∧ wn.cell? ⟨g9, 1, none⟩ = some (.slice AR nR cR) := ⟨(hbn.cell (p := ⟨g, 0, none⟩) hg_0).trans hS.1, (hbn.cell (p := ⟨g, 1, none⟩) hg_0).trans hS.2.1, (hbn.cell (p := ⟨g, 2, none⟩) hg_0).trans hS.2.2.1, (hbn.cell (p := ⟨g9, 0, none⟩) hg_1).trans hS.2.2.2.1, (hbn.cell (p := ⟨g9, 1, none⟩) hg_1).trans hS.2.2.2.2⟩
        have hgn_0 := Nat.lt_of_lt_of_le hg_0 hbn.size
        have hgn_1 := Nat.lt_of_lt_of_le hg_1 hbn.size
        refine hK.out _ _ hSn ?_
        clear hK K hS HBc hg_0 hg_1
        try simp only [zA, zB, zC, Act.put, zD, zE, zF]
        have hS := hSn
        have HBc := HBn
        have hg_0 := hgn_0
        have hg_1 := hgn_1
        clear hSn HBn hbn hgn_0 hgn_1
        obtain ⟨wc, rfl⟩ : ∃ x : World, x = wn := ⟨_, rfl⟩
        refine HT.two 6 12 (o := _) (o' := _) rfl rfl (by kernel_rfl) (by decide) (by decide) (by rfl) (by rfl) ?_ ?_
        · intro K hK
          refine wp_push_md (.tmp 54) (.tmp 57) rfl W7.heap.size A4 n3 c4 L (m9, AR, nR, cR) gb rfl rfl OC.out (by rw [HMN.out.1, HMN.out.2]; exact OB.out) hn3 HBc.out.size ?_
          intro g8 cap8 wn hown8 hb8 hk8
          have OP := Lib.hid hown8
          have HBn := Lib.hid (HBc.out.trans hb8)
          have hSn : wn.cell? ⟨g, 0, none⟩ = some (.int .i64 ra) ∧ wn.cell? ⟨g, 1, none⟩ = some (.int .i64 t1) ∧ wn.cell? ⟨g, 2, none⟩ = some (.slice A n cap) ∧ wn.cell? ⟨g9, 0, none⟩ = some (.int .i64 ra) ∧ wn.cell? ⟨g9, 1, none⟩ = some (.slice AR nR cR) := ⟨(hb8.cell (p := ⟨g, 0, none⟩) hg3W).trans hS.1, (hb8.cell (p := ⟨g, 1, none⟩) hg3W).trans hS.2.1, (hb8.cell (p := ⟨g, 2, none⟩) hg3W).trans hS.2.2.1, (hb8.cell (p := ⟨g9, 0, none⟩) hg9W).trans hS.2.2.2.1, (hb8.cell (p := ⟨g9, 1, none⟩) hg9W).trans hS.2.2.2.2⟩
          have hgn_0 := Nat.lt_of_lt_of_le hg3W HBn.out.size
          have hgn_1 := Nat.lt_of_lt_of_le hg9W HBn.out.size
          refine hK.out _ _ hSn ?_
          clear hK K hS HBc hown8 hb8 hk8 OC OB hg_0 hg_1
          try simp only [zA, zB, zC, Act.put, zD, zE, zF]
          have hS := hSn
          have HBc := HBn
          have hg_0 := hgn_0
          have hg_1 := hgn_1
          clear hSn HBn hgn_0 hgn_1
          obtain ⟨wc, rfl⟩ : ∃ x : World, x = wn := ⟨_, rfl⟩
          refine HT.two 7 12 (o := _) (o' := _) rfl rfl (by kernel_rfl) (by decide) (by decide) (by rfl) (by rfl) ?_ ?_
          · intro K hK
            go_simp
            refine (RENDER_uni ra t1 A (some ⟨g8, 0, none⟩) n (n3 + 1) cap cap8 cs (md ++ [m9]) hz HZM9 wc wc.heap.size (Nat.le_refl _) (Lib.hid ((hhC.out.below HBc.out hBW7).mono (Nat.le_trans hBW7 HBc.out.size))) (Lib.hid (md_of OP.out (HMV.out.below HBc.out (Nat.le_refl _)) HBc.out.size HLM.out))).mono ?_
            rintro e wn ⟨hbn, rc, AB, nB, cB, cntB, fB, rfl, hOR⟩
            have OR := Lib.hid hOR
            clear hOR
            clear OP
            have HBn := Lib.hid (HBc.out.trans (hbn.mono HBc.out.size))
            have hSn : wn.cell? ⟨g, 0, none⟩ = some (.int .i64 ra) ∧ wn.cell? ⟨g, 1, none⟩ = some (.int .i64 t1) ∧ wn.cell? ⟨g, 2, none⟩ = some (.slice A n cap) ∧ wn.cell? ⟨g9, 0, none⟩ = some (.int .i64 ra) ∧ wn.cell? ⟨g9, 1, none⟩ = some (.slice AR nR cR) := ⟨(hbn.cell (p := ⟨g, 0, none⟩) hg_0).trans hS.1, (hbn.cell (p := ⟨g, 1, none⟩) hg_0).trans hS.2.1, (hbn.cell (p := ⟨g, 2, none⟩) hg_0).trans hS.2.2.1, (hbn.cell (p := ⟨g9, 0, none⟩) hg_1).trans hS.2.2.2.1, (hbn.cell (p := ⟨g9, 1, none⟩) hg_1).trans hS.2.2.2.2⟩
            have hgn_0 := Nat.lt_of_lt_of_le hg_0 hbn.size
            have hgn_1 := Nat.lt_of_lt_of_le hg_1 hbn.size
            refine hK.out _ _ hSn ?_
            clear hK K hS HBc hg_0 hg_1
            try simp only [zA, zB, zC, Act.put, zD, zE, zF]
            have hS := hSn
            have HBc := HBn
            have hg_0 := hgn_0
            have hg_1 := hgn_1
            clear hSn HBn hbn hgn_0 hgn_1
            obtain ⟨wc, rfl⟩ : ∃ x : World, x = wn := ⟨_, rfl⟩
            refine HT.take (i := 8) (oi := _) (v := ?_) rfl (by kernel_rfl) (by kernel_rfl) (by decide) (fun _ _ _ h => h) (Or.inl ⟨by rfl, ?_⟩) hS ?_
            rotate_left
            · intro wz
              go_simp
              try with_reducible rfl
            simp only [zA, zB, zC, Act.put, zD, zE, zF]
            refine HT.take (i := 9) (oi := _) (v := ?_) rfl (by kernel_rfl) (by kernel_rfl) (by decide) (fun _ _ _ h => h) (Or.inl ⟨by rfl, ?_⟩) hS ?_
            rotate_left
            · intro wz
              go_simp
              try with_reducible rfl
            simp only [zA, zB, zC, Act.put, zD, zE, zF]
            refine HT.take (i := 10) (oi := _) (v := ?_) rfl (by kernel_rfl) (by kernel_rfl) (by decide) (fun _ _ _ h => h) (Or.inl ⟨by rfl, ?_⟩) hS ?_
            rotate_left
            · intro wz
              go_simp
              try with_reducible rfl
            simp only [zA, zB, zC, Act.put, zD, zE, zF]
            refine HT.take (i := 11) (oi := _) (v := ?_) rfl (by kernel_rfl) (by kernel_rfl) (by decide) (fun _ _ _ h => h) (Or.inl ⟨by rfl, ?_⟩) hS ?_
            rotate_left
            · intro wz
              go_simp
              try with_reducible rfl
            simp only [zA, zB, zC, Act.put, zD, zE, zF]
            refine HT.one (i := 12) (o := _) rfl (by kernel_rfl) (by decide) (by rfl) ?_
            intro K hK
            go_simp
            obtain ⟨wn, ga, hwn, hga9, hOA, hbn0, _⟩ := cell_new0 wc 33 #[.int .i64 0, .slice none 0 0]
            have hbn := hbn0.out
            have HGga : Hid (W7.heap.size ≤ ga) := by show _ ≤ _; rw [hga9]; exact HBc.out.size
            rw [← hwn, ← hga9]
            have OA := hOA
            clear hwn hga9 hbn0 hOA
            replace OR := Lib.hid (OR.out.below hbn)
            have HBn := Lib.hid (HBc.out.trans (hbn.mono HBc.out.size))
            have hSn : wn.cell? ⟨g, 0, none⟩ = some (.int .i64 ra) ∧ wn.cell? ⟨g, 1, none⟩ = some (.int .i64 t1) ∧ wn.cell? ⟨g, 2, none⟩ = some (.slice A n cap) ∧ wn.cell? ⟨g9, 0, none⟩ = some (.int .i64 ra) ∧ wn.cell? ⟨g9, 1, none⟩ = some (.slice AR nR cR) := ⟨(hbn.cell (p := ⟨g, 0, none⟩) hg_0).trans hS.1, (hbn.cell (p := ⟨g, 1, none⟩) hg_0).trans hS.2.1, (hbn.cell (p := ⟨g, 2, none⟩) hg_0).trans hS.2.2.1, (hbn.cell (p := ⟨g9, 0, none⟩) hg_1).trans hS.2.2.2.1, (hbn.cell (p := ⟨g9, 1, none⟩) hg_1).trans hS.2.2.2.2⟩
            have hgn_0 := Nat.lt_of_lt_of_le hg_0 hbn.size
            have hgn_1 := Nat.lt_of_lt_of_le hg_1 hbn.size
            refine hK.out _ _ hSn ?_
            clear hK K hS HBc hg_0 hg_1
            try simp only [zA, zB, zC, Act.put, zD, zE, zF]
            have hS := hSn
            have HBc := HBn
            have hg_0 := hgn_0
            have hg_1 := hgn_1
            clear hSn HBn hbn hgn_0 hgn_1
            obtain ⟨wc, rfl⟩ : ∃ x : World, x = wn := ⟨_, rfl⟩
            refine HT.done (by kernel_rfl) ?_
            clear hS
            simp only [List.drop_succ_cons, List.drop_zero]
            obtain ⟨c0, c1, f0, f1⟩ := two_cells OA.out
            go_wp2_with fail
            go_meet
            exact ⟨ga, rc, AB, nB, cB, cntB, fB, rfl, rfl, rfl, heap_set2 OA.out, OR.out.set2 OA.out _ _, set2_below HBc.out HGga.out⟩
            -- OA OR
          · intro K hK
            go_simp
            obtain ⟨wn, ga, hwn, hga9, hOA, hbn0, _⟩ := cell_new0 wc 33 #[.int .i64 0, .slice none 0 0]
            have hbn := hbn0.out
            have HGga : Hid (W7.heap.size ≤ ga) := by show _ ≤ _; rw [hga9]; exact HBc.out.size
            rw [← hwn, ← hga9]
            have OA := hOA
            clear hwn hga9 hbn0 hOA
            replace OP := Lib.hid (OP.out.below hbn)
            have HBn := Lib.hid (HBc.out.trans (hbn.mono HBc.out.size))
            have hSn : wn.cell? ⟨g, 0, none⟩ = some (.int .i64 ra) ∧ wn.cell? ⟨g, 1, none⟩ = some (.int .i64 t1) ∧ wn.cell? ⟨g, 2, none⟩ = some (.slice A n cap) ∧ wn.cell? ⟨g9, 0, none⟩ = some (.int .i64 ra) ∧ wn.cell? ⟨g9, 1, none⟩ = some (.slice AR nR cR) := ⟨(hbn.cell (p := ⟨g, 0, none⟩) hg_0).trans hS.1, (hbn.cell (p := ⟨g, 1, none⟩) hg_0).trans hS.2.1, (hbn.cell (p := ⟨g, 2, none⟩) hg_0).trans hS.2.2.1, (hbn.cell (p := ⟨g9, 0, none⟩) hg_1).trans hS.2.2.2.1, (hbn.cell (p := ⟨g9, 1, none⟩) hg_1).trans hS.2.2.2.2⟩
            have hgn_0 := Nat.lt_of_lt_of_le hg_0 hbn.size
            have hgn_1 := Nat.lt_of_lt_of_le hg_1 hbn.size
            refine hK.out _ _ hSn ?_
            clear hK K hS HBc hg_0 hg_1
            try simp only [zA, zB, zC, Act.put, zD, zE, zF]
            have hS := hSn
            have HBc := HBn
            have hg_0 := hgn_0
            have hg_1 := hgn_1
            clear hSn HBn hbn hgn_0 hgn_1
            obtain ⟨wc, rfl⟩ : ∃ x : World, x = wn := ⟨_, rfl⟩
            refine HT.one (i := 7) (o := _) rfl (by kernel_rfl) (by decide) (by rfl) ?_
            intro K hK
            go_simp
            refine (RENDER_uni ra t1 A (some ⟨g8, 0, none⟩) n (n3 + 1) cap cap8 cs (md ++ [m9]) hz HZM9 wc wc.heap.size (Nat.le_refl _) (Lib.hid ((hhC.out.below HBc.out hBW7).mono (Nat.le_trans hBW7 HBc.out.size))) (Lib.hid (md_of OP.out (HMV.out.below HBc.out (Nat.le_refl _)) HBc.out.size HLM.out))).mono ?_
            rintro e wn ⟨hbn, rc, AB, nB, cB, cntB, fB, rfl, hOR⟩
            have OR := Lib.hid hOR
            clear hOR
            clear OP
            replace OA := Lib.hid ((hbn.block ga (blk_lt OA.out)).trans OA.out)
            have HBn := Lib.hid (HBc.out.trans (hbn.mono HBc.out.size))
            have hSn : wn.cell? ⟨g, 0, none⟩ = some (.int .i64 ra) ∧ wn.cell? ⟨g, 1, none⟩ = some (.int .i64 t1) ∧ wn.cell? ⟨g, 2, none⟩ = some (.slice A n cap) ∧ wn.cell? ⟨g9, 0, none⟩ = some (.int .i64 ra) ∧ wn.cell? ⟨g9, 1, none⟩ = some (.slice AR nR cR) := ⟨(hbn.cell (p := ⟨g, 0, none⟩) hg_0).trans hS.1, (hbn.cell (p := ⟨g, 1, none⟩) hg_0).trans hS.2.1, (hbn.cell (p := ⟨g, 2, none⟩) hg_0).trans hS.2.2.1, (hbn.cell (p := ⟨g9, 0, none⟩) hg_1).trans hS.2.2.2.1, (hbn.cell (p := ⟨g9, 1, none⟩) hg_1).trans hS.2.2.2.2⟩
            have hgn_0 := Nat.lt_of_lt_of_le hg_0 hbn.size
            have hgn_1 := Nat.lt_of_lt_of_le hg_1 hbn.size
            refine hK.out _ _ hSn ?_
            clear hK K hS HBc hg_0 hg_1
            try simp only [zA, zB, zC, Act.put, zD, zE, zF]
            have hS := hSn
            have HBc := HBn
            have hg_0 := hgn_0
            have hg_1 := hgn_1
            clear hSn HBn hbn hgn_0 hgn_1
            obtain ⟨wc, rfl⟩ : ∃ x : World, x = wn := ⟨_, rfl⟩
            refine HT.take (i := 8) (oi := _) (v := ?_) rfl (by kernel_rfl) (by kernel_rfl) (by decide) (fun _ _ _ h => h) (Or.inl ⟨by rfl, ?_⟩) hS ?_
            rotate_left
            · intro wz
              go_simp
              try with_reducible rfl
            simp only [zA, zB, zC, Act.put, zD, zE, zF]
            refine HT.take (i := 9) (oi := _) (v := ?_) rfl (by kernel_rfl) (by kernel_rfl) (by decide) (fun _ _ _ h => h) (Or.inl ⟨by rfl, ?_⟩) hS ?_
            rotate_left
            · intro wz
              go_simp
              try with_reducible rfl
            simp only [zA, zB, zC, Act.put, zD, zE, zF]
            refine HT.take (i := 10) (oi := _) (v := ?_) rfl (by kernel_rfl) (by kernel_rfl) (by decide) (fun _ _ _ h => h) (Or.inl ⟨by rfl, ?_⟩) hS ?_
            rotate_left
            · intro wz
              go_simp
              try with_reducible rfl
            simp only [zA, zB, zC, Act.put, zD, zE, zF]
            refine HT.take (i := 11) (oi := _) (v := ?_) rfl (by kernel_rfl) (by kernel_rfl) (by decide) (fun _ _ _ h => h) (Or.inl ⟨by rfl, ?_⟩) hS ?_
            rotate_left
            · intro wz
              go_simp
              try with_reducible rfl
            simp only [zA, zB, zC, Act.put, zD, zE, zF]
            refine HT.done (by kernel_rfl) ?_
            clear hS
            simp only [List.drop_succ_cons, List.drop_zero]
            obtain ⟨c0, c1, f0, f1⟩ := two_cells OA.out
            go_wp2_with fail
            go_meet
            exact ⟨ga, rc, AB, nB, cB, cntB, fB, rfl, rfl, rfl, heap_set2 OA.out, OR.out.set2 OA.out _ _, set2_below HBc.out HGga.out⟩
            -- OA OR
        · intro K hK
          go_simp
          obtain ⟨wn, ga, hwn, hga9, hOA, hbn0, _⟩ := cell_new0 wc 33 #[.int .i64 0, .slice none 0 0]
          have hbn := hbn0.out
          have HGga : Hid (W7.heap.size ≤ ga) := by show _ ≤ _; rw [hga9]; exact HBc.out.size
          have hne_gb_ga : gb ≠ ga := by have := blk_lt OB.out; omega
          rw [← hwn, ← hga9]
          have OA := hOA
          clear hwn hga9 hbn0 hOA
          replace OB := Lib.hid ((hbn.block gb (blk_lt OB.out)).trans OB.out)
          replace OC := Lib.hid (OC.out.below hbn)
          have HBn := Lib.hid (HBc.out.trans (hbn.mono HBc.out.size))
          have hSn : wn.cell? ⟨g, 0, none⟩ = some (.int .i64 ra) ∧ wn.cell? ⟨g, 1, none⟩ = some (.int .i64 t1) ∧ wn.cell? ⟨g, 2, none⟩ = some (.slice A n cap) ∧ wn.cell? ⟨g9, 0, none⟩ = some (.int .i64 ra) ∧ wn.cell? ⟨g9, 1, none⟩ = some (.slice AR nR cR) := ⟨(hbn.cell (p := ⟨g, 0, none⟩) hg_0).trans hS.1, (hbn.cell (p := ⟨g, 1, none⟩) hg_0).trans hS.2.1, (hbn.cell (p := ⟨g, 2, none⟩) hg_0).trans hS.2.2.1, (hbn.cell (p := ⟨g9, 0, none⟩) hg_1).trans hS.2.2.2.1, (hbn.cell (p := ⟨g9, 1, none⟩) hg_1).trans hS.2.2.2.2⟩
          have hgn_0 := Nat.lt_of_lt_of_le hg_0 hbn.size
          have hgn_1 := Nat.lt_of_lt_of_le hg_1 hbn.size
          refine hK.out _ _ hSn ?_
          clear hK K hS HBc hg_0 hg_1
          try simp only [zA, zB, zC, Act.put, zD, zE, zF]
          have hS := hSn
          have HBc := HBn
          have hg_0 := hgn_0
          have hg_1 := hgn_1
          clear hSn HBn hbn hgn_0 hgn_1
          obtain ⟨wc, rfl⟩ : ∃ x : World, x = wn := ⟨_, rfl⟩
          refine HT.one (i := 6) (o := _) rfl (by kernel_rfl) (by decide) (by rfl) ?_
          intro K hK
          refine wp_push_md (.tmp 54) (.tmp 57) rfl W7.heap.size A4 n3 c4 L (m9, AR, nR, cR) gb rfl rfl OC.out (by rw [HMN.out.1, HMN.out.2]; exact OB.out) hn3 HBc.out.size ?_
          intro g8 cap8 wn hown8 hb8 hk8
          have OP := Lib.hid hown8
          replace OA := Lib.hid ((hk8 ga (blk_lt OA.out) (own_ne_blk OC.out.2 OA.out (by decide))).trans OA.out)
          have HBn := Lib.hid (HBc.out.trans hb8)
          have hSn : wn.cell? ⟨g, 0, none⟩ = some (.int .i64 ra) ∧ wn.cell? ⟨g, 1, none⟩ = some (.int .i64 t1) ∧ wn.cell? ⟨g, 2, none⟩ = some (.slice A n cap) ∧ wn.cell? ⟨g9, 0, none⟩ = some (.int .i64 ra) ∧ wn.cell? ⟨g9, 1, none⟩ = some (.slice AR nR cR) := ⟨(hb8.cell (p := ⟨g, 0, none⟩) hg3W).trans hS.1, (hb8.cell (p := ⟨g, 1, none⟩) hg3W).trans hS.2.1, (hb8.cell (p := ⟨g, 2, none⟩) hg3W).trans hS.2.2.1, (hb8.cell (p := ⟨g9, 0, none⟩) hg9W).trans hS.2.2.2.1, (hb8.cell (p := ⟨g9, 1, none⟩) hg9W).trans hS.2.2.2.2⟩
          have hgn_0 := Nat.lt_of_lt_of_le hg3W HBn.out.size
          have hgn_1 := Nat.lt_of_lt_of_le hg9W HBn.out.size
          refine hK.out _ _ hSn ?_
          clear hK K hS HBc hown8 hb8 hk8 OC OB hg_0 hg_1
          try simp only [zA, zB, zC, Act.put, zD, zE, zF]
          have hS := hSn
          have HBc := HBn
          have hg_0 := hgn_0
          have hg_1 := hgn_1
          clear hSn HBn hgn_0 hgn_1
          obtain ⟨wc, rfl⟩ : ∃ x : World, x = wn := ⟨_, rfl⟩
          refine HT.one (i := 7) (o := _) rfl (by kernel_rfl) (by decide) (by rfl) ?_
          intro K hK
          go_simp
          refine (RENDER_uni ra t1 A (some ⟨g8, 0, none⟩) n (n3 + 1) cap cap8 cs (md ++ [m9]) hz HZM9 wc wc.heap.size (Nat.le_refl _) (Lib.hid ((hhC.out.below HBc.out hBW7).mono (Nat.le_trans hBW7 HBc.out.size))) (Lib.hid (md_of OP.out (HMV.out.below HBc.out (Nat.le_refl _)) HBc.out.size HLM.out))).mono ?_
          rintro e wn ⟨hbn, rc, AB, nB, cB, cntB, fB, rfl, hOR⟩
          have OR := Lib.hid hOR
          clear hOR
          clear OP
          replace OA := Lib.hid ((hbn.block ga (blk_lt OA.out)).trans OA.out)
          have HBn := Lib.hid (HBc.out.trans (hbn.mono HBc.out.size))
          have hSn : wn.cell? ⟨g, 0, none⟩ = some (.int .i64 ra) ∧ wn.cell? ⟨g, 1, none⟩ = some (.int .i64 t1) ∧ wn.cell? ⟨g, 2, none⟩ = some (.slice A n cap) ∧ wn.cell? ⟨g9, 0, none⟩ = some (.int .i64 ra) ∧ wn.cell? ⟨g9, 1, none⟩ = some (.slice AR nR cR) := ⟨(hbn.cell (p := ⟨g, 0, none⟩) hg_0).trans hS.1, (hbn.cell (p := ⟨g, 1, none⟩) hg_0).trans hS.2.1, (hbn.cell (p := ⟨g, 2, none⟩) hg_0).trans hS.2.2.1, (hbn.cell (p := ⟨g9, 0, none⟩) hg_1).trans hS.2.2.2.1, (hbn.cell (p := ⟨g9, 1, none⟩) hg_1).trans hS.2.2.2.2⟩
          have hgn_0 := Nat.lt_of_lt_of_le hg_0 hbn.size
          have hgn_1 := Nat.lt_of_lt_of_le hg_1 hbn.size
          refine hK.out _ _ hSn ?_
          clear hK K hS HBc hg_0 hg_1
          try simp only [zA, zB, zC, Act.put, zD, zE, zF]
          have hS := hSn
          have HBc := HBn
          have hg_0 := hgn_0
          have hg_1 := hgn_1
          clear hSn HBn hbn hgn_0 hgn_1
          obtain ⟨wc, rfl⟩ : ∃ x : World, x = wn := ⟨_, rfl⟩
          refine HT.take (i := 8) (oi := _) (v := ?_) rfl (by kernel_rfl) (by kernel_rfl) (by decide) (fun _ _ _ h => h) (Or.inl ⟨by rfl, ?_⟩) hS ?_
          rotate_left
          · intro wz
            go_simp
            try with_reducible rfl
          simp only [zA, zB, zC, Act.put, zD, zE, zF]
          refine HT.take (i := 9) (oi := _) (v := ?_) rfl (by kernel_rfl) (by kernel_rfl) (by decide) (fun _ _ _ h => h) (Or.inl ⟨by rfl, ?_⟩) hS ?_
          rotate_left
          · intro wz
            go_simp
            try with_reducible rfl
          simp only [zA, zB, zC, Act.put, zD, zE, zF]
          refine HT.take (i := 10) (oi := _) (v := ?_) rfl (by kernel_rfl) (by kernel_rfl) (by decide) (fun _ _ _ h => h) (Or.inl ⟨by rfl, ?_⟩) hS ?_
          rotate_left
          · intro wz
            go_simp
            try with_reducible rfl
          simp only [zA, zB, zC, Act.put, zD, zE, zF]
          refine HT.take (i := 11) (oi := _) (v := ?_) rfl (by kernel_rfl) (by kernel_rfl) (by decide) (fun _ _ _ h => h) (Or.inl ⟨by rfl, ?_⟩) hS ?_
          rotate_left
          · intro wz
            go_simp
            try with_reducible rfl
          simp only [zA, zB, zC, Act.put, zD, zE, zF]
          refine HT.done (by kernel_rfl) ?_
          clear hS
          simp only [List.drop_succ_cons, List.drop_zero]
          obtain ⟨c0, c1, f0, f1⟩ := two_cells OA.out
          go_wp2_with fail
          go_meet
          exact ⟨ga, rc, AB, nB, cB, cntB, fB, rfl, rfl, rfl, heap_set2 OA.out, OR.out.set2 OA.out _ _, set2_below HBc.out HGga.out⟩
          -- OA OR
      · intro K hK
        go_simp
        obtain ⟨wn, ga, hwn, hga9, hOA, hbn0, _⟩ := cell_new0 wc 33 #[.int .i64 0, .slice none 0 0]
        have hbn := hbn0.out
        have HGga : Hid (W7.heap.size ≤ ga) := by show _ ≤ _; rw [hga9]; exact HBc.out.size
        have hne_gb_ga : gb ≠ ga := by have := blk_lt OB.out; omega
        rw [← hwn, ← hga9]
        have OA := hOA
        clear hwn hga9 hbn0 hOA
        replace OB := Lib.hid ((hbn.block gb (blk_lt OB.out)).trans OB.out)
        have HBn := Lib.hid (HBc.out.trans (hbn.mono HBc.out.size))
        have hSn : wn.cell? ⟨g, 0, none⟩ = some (.int .i64 ra) ∧ wn.cell? ⟨g, 1, none⟩ = some (.int .i64 t1) ∧ wn.cell? ⟨g, 2, none⟩ = some (.slice A n cap) ∧ wn.cell? ⟨g9, 0, none⟩ = some (.int .i64 ra) ∧ wn.cell? ⟨g9, 1, none⟩ = some (.slice AR nR cR) := ⟨(hbn.cell (p := ⟨g, 0, none⟩) hg_0).trans hS.1, (hbn.cell (p := ⟨g, 1, none⟩) hg_0).trans hS.2.1, (hbn.cell (p := ⟨g, 2, none⟩) hg_0).trans hS.2.2.1, (hbn.cell (p := ⟨g9, 0, none⟩) hg_1).trans hS.2.2.2.1, (hbn.cell (p := ⟨g9, 1, none⟩) hg_1).trans hS.2.2.2.2⟩
        have hgn_0 := Nat.lt_of_lt_of_le hg_0 hbn.size
        have hgn_1 := Nat.lt_of_lt_of_le hg_1 hbn.size
        refine hK.out _ _ hSn ?_
        clear hK K hS HBc hg_0 hg_1
        try simp only [zA, zB, zC, Act.put, zD, zE, zF]
        have hS := hSn
        have HBc := HBn
        have hg_0 := hgn_0
        have hg_1 := hgn_1
        clear hSn HBn hbn hgn_0 hgn_1
        obtain ⟨wc, rfl⟩ : ∃ x : World, x = wn := ⟨_, rfl⟩
        refine HT.one (i := 2) (o := _) rfl (by kernel_rfl) (by decide) (by rfl) ?_
        intro K hK
        go_simp
        refine (CLONEMD_any A3 n3 cap3 L wc B (HRD.out.below (HBc.out.mono hBW7)) HLN.out hn3 (Nat.le_trans hBW7 HBc.out.size)).mono ?_
        rintro e wn ⟨⟨A4, c4, rfl, hOC⟩, hbn⟩
        replace hOC := OwnK.to_base (base' := W7.heap.size) hOC HBc.out.size
        have OC := Lib.hid hOC
        clear hOC
        replace OB := Lib.hid ((hbn.block gb (blk_lt OB.out)).trans OB.out)
        replace OA := Lib.hid ((hbn.block ga (blk_lt OA.out)).trans OA.out)
        have HBn := Lib.hid (HBc.out.trans (hbn.mono HBc.out.size))
        have hSn : wn.cell? ⟨g, 0, none⟩ = some (.int .i64 ra) ∧ wn.cell? ⟨g, 1, none⟩ = some (.int .i64 t1) ∧ wn.cell? ⟨g, 2, none⟩ = some (.slice A n cap) ∧ wn.cell? ⟨g9, 0, none⟩ = some (.int .i64 ra) ∧ wn.cell? ⟨g9, 1, none⟩ = some (.slice AR nR cR) := ⟨(hbn.cell (p := ⟨g, 0, none⟩) hg_0).trans hS.1, (hbn.cell (p := ⟨g, 1, none⟩) hg_0).trans hS.2.1, (hbn.cell (p := ⟨g, 2, none⟩) hg_0).trans hS.2.2.1, (hbn.cell (p := ⟨g9, 0, none⟩) hg_1).trans hS.2.2.2.1, (hbn.cell (p := ⟨g9, 1, none⟩) hg_1).trans hS.2.2.2.2⟩
        have hgn_0 := Nat.lt_of_lt_of_le hg_0 hbn.size
        have hgn_1 := Nat.lt_of_lt_of_le hg_1 hbn.size
        refine hK.out _ _ hSn ?_
        clear hK K hS HBc hg_0 hg_1
        try simp only [zA, zB, zC, Act.put, zD, zE, zF]
        have hS := hSn
        have HBc := HBn
        have hg_0 := hgn_0
        have hg_1 := hgn_1
        clear hSn HBn hbn hgn_0 hgn_1
        obtain ⟨wc, rfl⟩ : ∃ x : World, x = wn := ⟨_, rfl⟩
        refine HT.one (i := 6) (o := _) rfl (by kernel_rfl) (by decide) (by rfl) ?_
        intro K hK
        refine wp_push_md (.tmp 54) (.tmp 57) rfl W7.heap.size A4 n3 c4 L (m9, AR, nR, cR) gb rfl rfl OC.out (by rw [HMN.out.1, HMN.out.2]; exact OB.out) hn3 HBc.out.size ?_
        intro g8 cap8 wn hown8 hb8 hk8
        have OP := Lib.hid hown8
        replace OA := Lib.hid ((hk8 ga (blk_lt OA.out) (own_ne_blk OC.out.2 OA.out (by decide))).trans OA.out)
        have HBn := Lib.hid (HBc.out.trans hb8)
        have hSn : wn.cell? ⟨g, 0, none⟩ = some (.int .i64 ra) ∧ wn.cell? ⟨g, 1, none⟩ = some (.int .i64 t1) ∧ wn.cell? ⟨g, 2, none⟩ = some (.slice A n cap) ∧ wn.cell? ⟨g9, 0, none⟩ = some (.int .i64 ra) ∧ wn.cell? ⟨g9, 1, none⟩ = some (.slice AR nR cR) := ⟨(hb8.cell (p := ⟨g, 0, none⟩) hg3W).trans hS.1, (hb8.cell (p := ⟨g, 1, none⟩) hg3W).trans hS.2.1, (hb8.cell (p := ⟨g, 2, none⟩) hg3W).trans hS.2.2.1, (hb8.cell (p := ⟨g9, 0, none⟩) hg9W).trans hS.2.2.2.1, (hb8.cell (p := ⟨g9, 1, none⟩) hg9W).trans hS.2.2.2.2⟩
        have hgn_0 := Nat.lt_of_lt_of_le hg3W HBn.out.size
        have hgn_1 := Nat.lt_of_lt_of_le hg9W HBn.out.size
        refine hK.out _ _ hSn ?_
        clear hK K hS HBc hown8 hb8 hk8 OC OB hg_0 hg_1
        try simp only [zA, zB, zC, Act.put, zD, zE, zF]
        have hS := hSn
        have HBc := HBn
        have hg_0 := hgn_0
        have hg_1 := hgn_1
        clear hSn HBn hgn_0 hgn_1
        obtain ⟨wc, rfl⟩ : ∃ x : World, x = wn := ⟨_, rfl⟩
        refine HT.one (i := 7) (o := _) rfl (by kernel_rfl) (by decide) (by rfl) ?_
        intro K hK
        go_simp
        refine (RENDER_uni ra t1 A (some ⟨g8, 0, none⟩) n (n3 + 1) cap cap8 cs (md ++ [m9]) hz HZM9 wc wc.heap.size (Nat.le_refl _) (Lib.hid ((hhC.out.below HBc.out hBW7).mono (Nat.le_trans hBW7 HBc.out.size))) (Lib.hid (md_of OP.out (HMV.out.below HBc.out (Nat.le_refl _)) HBc.out.size HLM.out))).mono ?_
        rintro e wn ⟨hbn, rc, AB, nB, cB, cntB, fB, rfl, hOR⟩
        have OR := Lib.hid hOR
        clear hOR
        clear OP
        replace OA := Lib.hid ((hbn.block ga (blk_lt OA.out)).trans OA.out)
        have HBn := Lib.hid (HBc.out.trans (hbn.mono HBc.out.size))
        have hSn : wn.cell? ⟨g, 0, none⟩ = some (.int .i64 ra) ∧ wn.cell? ⟨g, 1, none⟩ = some (.int .i64 t1) ∧ wn.cell? ⟨g, 2, none⟩ = some (.slice A n cap) ∧ wn.cell? ⟨g9, 0, none⟩ = some (.int .i64 ra) ∧ wn.cell? ⟨g9, 1, none⟩ = some (.slice AR nR cR) := ⟨(hbn.cell (p := ⟨g, 0, none⟩) hg_0).trans hS.1, (hbn.cell (p := ⟨g, 1, none⟩) hg_0).trans hS.2.1, (hbn.cell (p := ⟨g, 2, none⟩) hg_0).trans hS.2.2.1, (hbn.cell (p := ⟨g9, 0, none⟩) hg_1).trans hS.2.2.2.1, (hbn.cell (p := ⟨g9, 1, none⟩) hg_1).trans hS.2.2.2.2⟩
        have hgn_0 := Nat.lt_of_lt_of_le hg_0 hbn.size
        have hgn_1 := Nat.lt_of_lt_of_le hg_1 hbn.size
        refine hK.out _ _ hSn ?_
        clear hK K hS HBc hg_0 hg_1
        try simp only [zA, zB, zC, Act.put, zD, zE, zF]
        have hS := hSn
        have HBc := HBn
        have hg_0 := hgn_0
        have hg_1 := hgn_1
        clear hSn HBn hbn hgn_0 hgn_1
        obtain ⟨wc, rfl⟩ : ∃ x : World, x = wn := ⟨_, rfl⟩
        refine HT.take (i := 8) (oi := _) (v := ?_) rfl (by kernel_rfl) (by kernel_rfl) (by decide) (fun _ _ _ h => h) (Or.inl ⟨by rfl, ?_⟩) hS ?_
        rotate_left
        · intro wz
          go_simp
          try with_reducible rfl
        simp only [zA, zB, zC, Act.put, zD, zE, zF]
        refine HT.take (i := 9) (oi := _) (v := ?_) rfl (by kernel_rfl) (by kernel_rfl) (by decide) (fun _ _ _ h => h) (Or.inl ⟨by rfl, ?_⟩) hS ?_
        rotate_left
        · intro wz
          go_simp
          try with_reducible rfl
        simp only [zA, zB, zC, Act.put, zD, zE, zF]
        refine HT.take (i := 10) (oi := _) (v := ?_) rfl (by kernel_rfl) (by kernel_rfl) (by decide) (fun _ _ _ h => h) (Or.inl ⟨by rfl, ?_⟩) hS ?_
        rotate_left
        · intro wz
          go_simp
          try with_reducible rfl
        simp only [zA, zB, zC, Act.put, zD, zE, zF]
        refine HT.take (i := 11) (oi := _) (v := ?_) rfl (by kernel_rfl) (by kernel_rfl) (by decide) (fun _ _ _ h => h) (Or.inl ⟨by rfl, ?_⟩) hS ?_
        rotate_left
        · intro wz
          go_simp
          try with_reducible rfl
        simp only [zA, zB, zC, Act.put, zD, zE, zF]
        refine HT.done (by kernel_rfl) ?_
        clear hS
        simp only [List.drop_succ_cons, List.drop_zero]
        obtain ⟨c0, c1, f0, f1⟩ := two_cells OA.out
        go_wp2_with fail
        go_meet
        exact ⟨ga, rc, AB, nB, cB, cntB, fB, rfl, rfl, rfl, heap_set2 OA.out, OR.out.set2 OA.out _ _, set2_below HBc.out HGga.out⟩
        -- OA OR
    · intro K hK
      go_simp
      obtain ⟨wn, ga, hwn, hga9, hOA, hbn0, _⟩ := cell_new0 wc 33 #[.int .i64 0, .slice none 0 0]
      have hbn := hbn0.out
      have HGga : Hid (W7.heap.size ≤ ga) := by show _ ≤ _; rw [hga9]; exact HBc.out.size
      rw [← hwn, ← hga9]
      have OA := hOA
      clear hwn hga9 hbn0 hOA
      have HBn := Lib.hid (HBc.out.trans (hbn.mono HBc.out.size))
      have hSn : wn.cell? ⟨g, 0, none⟩ = some (.int .i64 ra) ∧ wn.cell? ⟨g, 1, none⟩ = some (.int .i64 t1) ∧ wn.cell? ⟨g, 2, none⟩ = some (.slice A n cap) ∧ wn.cell? ⟨g9, 0, none⟩ = some (.int .i64 ra) ∧ wn.cell? ⟨g9, 1, none⟩ = some (.slice AR nR cR) := ⟨(hbn.cell (p := ⟨g, 0, none⟩) hg_0).trans hS.1, (hbn.cell (p := ⟨g, 1, none⟩) hg_0).trans hS.2.1, (hbn.cell (p := ⟨g, 2, none⟩) hg_0).trans hS.2.2.1, (hbn.cell (p := ⟨g9, 0, none⟩) hg_1).trans hS.2.2.2.1, (hbn.cell (p := ⟨g9, 1, none⟩) hg_1).trans hS.2.2.2.2⟩
      have hgn_0 := Nat.lt_of_lt_of_le hg_0 hbn.size
      have hgn_1 := Nat.lt_of_lt_of_le hg_1 hbn.size
      refine hK.out _ _ hSn ?_
      clear hK K hS HBc hg_0 hg_1
      try simp only [zA, zB, zC, Act.put, zD, zE, zF]
      have hS := hSn
      have HBc := HBn
      have hg_0 := hgn_0
      have hg_1 := hgn_1
      clear hSn HBn hbn hgn_0 hgn_1
      obtain ⟨wc, rfl⟩ : ∃ x : World, x = wn := ⟨_, rfl⟩
      refine HT.two 2 5 (o := _) (o' := _) rfl rfl (by kernel_rfl) (by decide) (by decide) (by rfl) (by rfl) ?_ ?_
      · intro K hK
        go_simp
        refine (CLONEMD_any A3 n3 cap3 L wc B (HRD.out.below (HBc.out.mono hBW7)) HLN.out hn3 (Nat.le_trans hBW7 HBc.out.size)).mono ?_
        rintro e wn ⟨⟨A4, c4, rfl, hOC⟩, hbn⟩
        replace hOC := OwnK.to_base (base' := W7.heap.size) hOC HBc.out.size
        have OC := Lib.hid hOC
        clear hOC
        replace OA := Lib.hid ((hbn.block ga (blk_lt OA.out)).trans OA.out)
        have HBn := Lib.hid (HBc.out.trans (hbn.mono HBc.out.size))
        have hSn : wn.cell? ⟨g, 0, none⟩ = some (.int .i64 ra) ∧ wn.cell? ⟨g, 1, none⟩ = some (.int .i64 t1) ∧ wn.cell? ⟨g, 2, none⟩ = some (.slice A n cap) ∧ wn.cell? ⟨g9, 0, none⟩ = some (.int .i64 ra) ∧ wn.cell? ⟨g9, 1, none⟩ = some (.slice AR nR cR) := ⟨(hbn.cell (p := ⟨g, 0, none⟩) hg_0).trans hS.1, (hbn.cell (p := ⟨g, 1, none⟩) hg_0).trans hS.2.1, (hbn.cell (p := ⟨g, 2, none⟩) hg_0).trans hS.2.2.1, (hbn.cell (p := ⟨g9, 0, none⟩) hg_1).trans hS.2.2.2.1, (hbn.cell (p := ⟨g9, 1, none⟩) hg_1).trans hS.2.2.2.2⟩
        have hgn_0 := Nat.lt_of_lt_of_le hg_0 hbn.size
        have hgn_1 := Nat.lt_of_lt_of_le hg_1 hbn.size
        refine hK.out _ _ hSn ?_
        clear hK K hS HBc hg_0 hg_1
        try simp only [zA, zB, zC, Act.put, zD, zE, zF]
        have hS := hSn
        have HBc := HBn
        have hg_0 := hgn_0
        have hg_1 := hgn_1
        clear hSn HBn hbn hgn_0 hgn_1
        obtain ⟨wc, rfl⟩ : ∃ x : World, x = wn := ⟨_, rfl⟩
        refine HT.one (i := 5) (o := _) rfl (by kernel_rfl) (by decide) (by rfl) ?_
        intro K hK
        go_simp
        obtain ⟨wn, gb, hwn, hga9, hOB, hbn0, _⟩ := cell_new0 wc 38 #[.string ⟨#[105, 110, 110, 101, 114]⟩, .int .i64 ra, .slice AR nR cR]
        have hbn := hbn0.out
        have HGgb : Hid (W7.heap.size ≤ gb) := by show _ ≤ _; rw [hga9]; exact HBc.out.size
        have hne_ga_gb : ga ≠ gb := by have := blk_lt OA.out; omega
        rw [← hwn, ← hga9]
        have OB := hOB
        clear hwn hga9 hbn0 hOB
        replace OA := Lib.hid ((hbn.block ga (blk_lt OA.out)).trans OA.out)
        replace OC := Lib.hid (OC.out.below hbn)
        have HBn := Lib.hid (HBc.out.trans (hbn.mono HBc.out.size))
        have hSn : wn.cell? ⟨g, 0, none⟩ = some (.int .i64 ra) ∧ wn.cell? ⟨g, 1, none⟩ = some (.int .i64 t1) ∧ wn.cell? ⟨g, 2, none⟩ = some (.slice A n cap) ∧ wn.cell? ⟨g9, 0, none⟩ = some (.int .i64 ra) ∧ wn.cell? ⟨g9, 1, none⟩ = some (.slice AR nR cR) := ⟨(hbn.cell (p := ⟨g, 0, none⟩) hg_0).trans hS.1, (hbn.cell (p := ⟨g, 1, none⟩) hg_0).trans hS.2.1, (hbn.cell (p := ⟨g, 2, none⟩) hg_0).trans hS.2.2.1, (hbn.cell (p := ⟨g9, 0, none⟩) hg_1).trans hS.2.2.2.1, (hbn.cell (p := ⟨g9, 1, none⟩) hg_1).trans hS.2.2.2.2⟩
        have hgn_0 := Nat.lt_of_lt_of_le hg_0 hbn.size
        have hgn_1 := Nat.lt_of_lt_of_le hg_1 hbn.size
        refine hK.out _ _ hSn ?_
        clear hK K hS HBc hg_0 hg_1
        try simp only [zA, zB, zC, Act.put, zD, zE, zF]
        have hS := hSn
        have HBc := HBn
        have hg_0 := hgn_0
        have hg_1 := hgn_1
        clear hSn HBn hbn hgn_0 hgn_1
        obtain ⟨wc, rfl⟩ : ∃ x : World, x = wn := ⟨_, rfl⟩
        refine HT.one (i := 6) (o := _) rfl (by kernel_rfl) (by decide) (by rfl) ?_
        intro K hK
        refine wp_push_md (.tmp 54) (.tmp 57) rfl W7.heap.size A4 n3 c4 L (m9, AR, nR, cR) gb rfl rfl OC.out (by rw [HMN.out.1, HMN.out.2]; exact OB.out) hn3 HBc.out.size ?_
        intro g8 cap8 wn hown8 hb8 hk8
        have OP := Lib.hid hown8
        replace OA := Lib.hid ((hk8 ga (blk_lt OA.out) (own_ne_blk OC.out.2 OA.out (by decide))).trans OA.out)
        have HBn := Lib.hid (HBc.out.trans hb8)
        have hSn : wn.cell? ⟨g, 0, none⟩ = some (.int .i64 ra) ∧ wn.cell? ⟨g, 1, none⟩ = some (.int .i64 t1) ∧ wn.cell? ⟨g, 2, none⟩ = some (.slice A n cap) ∧ wn.cell? ⟨g9, 0, none⟩ = some (.int .i64 ra) ∧ wn.cell? ⟨g9, 1, none⟩ = some (.slice AR nR cR) := ⟨(hb8.cell (p := ⟨g, 0, none⟩) hg3W).trans hS.1, (hb8.cell (p := ⟨g, 1, none⟩) hg3W).trans hS.2.1, (hb8.cell (p := ⟨g, 2, none⟩) hg3W).trans hS.2.2.1, (hb8.cell (p := ⟨g9, 0, none⟩) hg9W).trans hS.2.2.2.1, (hb8.cell (p := ⟨g9, 1, none⟩) hg9W).trans hS.2.2.2.2⟩
        have hgn_0 := Nat.lt_of_lt_of_le hg3W HBn.out.size
        have hgn_1 := Nat.lt_of_lt_of_le hg9W HBn.out.size
        refine hK.out _ _ hSn ?_
        clear hK K hS HBc hown8 hb8 hk8 OC OB hg_0 hg_1
        try simp only [zA, zB, zC, Act.put, zD, zE, zF]
        have hS := hSn
        have HBc := HBn
        have hg_0 := hgn_0
        have hg_1 := hgn_1
        clear hSn HBn hgn_0 hgn_1
        obtain ⟨wc, rfl⟩ : ∃ x : World, x = wn := ⟨_, rfl⟩
        refine HT.one (i := 7) (o := _) rfl (by kernel_rfl) (by decide) (by rfl) ?_
        intro K hK
        go_simp
        refine (RENDER_uni ra t1 A (some ⟨g8, 0, none⟩) n (n3 + 1) cap cap8 cs (md ++ [m9]) hz HZM9 wc wc.heap.size (Nat.le_refl _) (Lib.hid ((hhC.out.below HBc.out hBW7).mono (Nat.le_trans hBW7 HBc.out.size))) (Lib.hid (md_of OP.out (HMV.out.below HBc.out (Nat.le_refl _)) HBc.out.size HLM.out))).mono ?_
        rintro e wn ⟨hbn, rc, AB, nB, cB, cntB, fB, rfl, hOR⟩
        have OR := Lib.hid hOR
        clear hOR
        clear OP
        replace OA := Lib.hid ((hbn.block ga (blk_lt OA.out)).trans OA.out)
        have HBn := Lib.hid (HBc.out.trans (hbn.mono HBc.out.size))
        have hSn : wn.cell? ⟨g, 0, none⟩ = some (.int .i64 ra) ∧ wn.cell? ⟨g, 1, none⟩ = some (.int .i64 t1) ∧ wn.cell? ⟨g, 2, none⟩ = some (.slice A n cap) ∧ wn.cell? ⟨g9, 0, none⟩ = some (.int .i64 ra) ∧ wn.cell? ⟨g9, 1, none⟩ = some (.slice AR nR cR) := ⟨(hbn.cell (p := ⟨g, 0, none⟩) hg_0).trans hS.1, (hbn.cell (p := ⟨g, 1, none⟩) hg_0).trans hS.2.1, (hbn.cell (p := ⟨g, 2, none⟩) hg_0).trans hS.2.2.1, (hbn.cell (p := ⟨g9, 0, none⟩) hg_1).trans hS.2.2.2.1, (hbn.cell (p := ⟨g9, 1, none⟩) hg_1).trans hS.2.2.2.2⟩
        have hgn_0 := Nat.lt_of_lt_of_le hg_0 hbn.size
        have hgn_1 := Nat.lt_of_lt_of_le hg_1 hbn.size
        refine hK.out _ _ hSn ?_
        clear hK K hS HBc hg_0 hg_1
        try simp only [zA, zB, zC, Act.put, zD, zE, zF]
        have hS := hSn
        have HBc := HBn
        have hg_0 := hgn_0
        have hg_1 := hgn_1
        clear hSn HBn hbn hgn_0 hgn_1
        obtain ⟨wc, rfl⟩ : ∃ x : World, x = wn := ⟨_, rfl⟩
        refine HT.take (i := 8) (oi := _) (v := ?_) rfl (by kernel_rfl) (by kernel_rfl) (by decide) (fun _ _ _ h => h) (Or.inl ⟨by rfl, ?_⟩) hS ?_
        rotate_left
        · intro wz
          go_simp
          try with_reducible rfl
        simp only [zA, zB, zC, Act.put, zD, zE, zF]
        refine HT.take (i := 9) (oi := _) (v := ?_) rfl (by kernel_rfl) (by kernel_rfl) (by decide) (fun _ _ _ h => h) (Or.inl ⟨by rfl, ?_⟩) hS ?_
        rotate_left
        · intro wz
          go_simp
          try with_reducible rfl
        simp only [zA, zB, zC, Act.put, zD, zE, zF]
        refine HT.take (i := 10) (oi := _) (v := ?_) rfl (by kernel_rfl) (by kernel_rfl) (by decide) (fun _ _ _ h => h) (Or.inl ⟨by rfl, ?_⟩) hS ?_
        rotate_left
        · intro wz
          go_simp
          try with_reducible rfl
        simp only [zA, zB, zC, Act.put, zD, zE, zF]
        refine HT.take (i := 11) (oi := _) (v := ?_) rfl (by kernel_rfl) (by kernel_rfl) (by decide) (fun _ _ _ h => h) (Or.inl ⟨by rfl, ?_⟩) hS ?_
        rotate_left
        · intro wz
          go_simp
          try with_reducible rfl
        simp only [zA, zB, zC, Act.put, zD, zE, zF]
        refine HT.done (by kernel_rfl) ?_
        clear hS
        simp only [List.drop_succ_cons, List.drop_zero]
        obtain ⟨c0, c1, f0, f1⟩ := two_cells OA.out
        go_wp2_with fail
        go_meet
        exact ⟨ga, rc, AB, nB, cB, cntB, fB, rfl, rfl, rfl, heap_set2 OA.out, OR.out.set2 OA.out _ _, set2_below HBc.out HGga.out⟩
        -- OA OR
      · intro K hK
        go_simp
        obtain ⟨wn, gb, hwn, hga9, hOB, hbn0, _⟩ := cell_new0 wc 38 #[.string ⟨#[105, 110, 110, 101, 114]⟩, .int .i64 ra, .slice AR nR cR]
        have hbn := hbn0.out
        have HGgb : Hid (W7.heap.size ≤ gb) := by show _ ≤ _; rw [hga9]; exact HBc.out.size
        have hne_ga_gb : ga ≠ gb := by have := blk_lt OA.out; omega
        rw [← hwn, ← hga9]
        have OB := hOB
        clear hwn hga9 hbn0 hOB
        replace OA := Lib.hid ((hbn.block ga (blk_lt OA.out)).trans OA.out)
        have HBn := Lib.hid (HBc.out.trans (hbn.mono HBc.out.size))
        have hSn : wn.cell? ⟨g, 0, none⟩ = some (.int .i64 ra) ∧ wn.cell? ⟨g, 1, none⟩ = some (.int .i64 t1) ∧ wn.cell? ⟨g, 2, none⟩ = some (.slice A n cap) ∧ wn.cell? ⟨g9, 0, none⟩ = some (.int .i64 ra) ∧ wn.cell? ⟨g9, 1, none⟩ = some (.slice AR nR cR) := ⟨(hbn.cell (p := ⟨g, 0, none⟩) hg_0).trans hS.1, (hbn.cell (p := ⟨g, 1, none⟩) hg_0).trans hS.2.1, (hbn.cell (p := ⟨g, 2, none⟩) hg_0).trans hS.2.2.1, (hbn.cell (p := ⟨g9, 0, none⟩) hg_1).trans hS.2.2.2.1, (hbn.cell (p := ⟨g9, 1, none⟩) hg_1).trans hS.2.2.2.2⟩
        have hgn_0 := Nat.lt_of_lt_of_le hg_0 hbn.size
        have hgn_1 := Nat.lt_of_lt_of_le hg_1 hbn.size
        refine hK.out _ _ hSn ?_
        clear hK K hS HBc hg_0 hg_1
        try simp only [zA, zB, zC, Act.put, zD, zE, zF]
        have hS := hSn
        have HBc := HBn
        have hg_0 := hgn_0
        have hg_1 := hgn_1
        clear hSn HBn hbn hgn_0 hgn_1
        obtain ⟨wc, rfl⟩ : ∃ x : World, x = wn := ⟨_, rfl⟩
        refine HT.one (i := 2) (o := _) rfl (by kernel_rfl) (by decide) (by rfl) ?_
        intro K hK
        go_simp
        refine (CLONEMD_any A3 n3 cap3 L wc B (HRD.out.below (HBc.out.mono hBW7)) HLN.out hn3 (Nat.le_trans hBW7 HBc.out.size)).mono ?_
        rintro e wn ⟨⟨A4, c4, rfl, hOC⟩, hbn⟩
        replace hOC := OwnK.to_base (base' := W7.heap.size) hOC HBc.out.size
        have OC := Lib.hid hOC
        clear hOC
        replace OA := Lib.hid ((hbn.block ga (blk_lt OA.out)).trans OA.out)
        replace OB := Lib.hid ((hbn.block gb (blk_lt OB.out)).trans OB.out)
        have HBn := Lib.hid (HBc.out.trans (hbn.mono HBc.out.size))
        have hSn : wn.cell? ⟨g, 0, none⟩ = some (.int .i64 ra) ∧ wn.cell? ⟨g, 1, none⟩ = some (.int .i64 t1) ∧ wn.cell? ⟨g, 2, none⟩ = some (.slice A n cap) ∧ wn.cell? ⟨g9, 0, none⟩ = some (.int .i64 ra) ∧ wn.cell? ⟨g9, 1, none⟩ = some (.slice AR nR cR) := ⟨(hbn.cell (p := ⟨g, 0, none⟩) hg_0).trans hS.1, (hbn.cell (p := ⟨g, 1, none⟩) hg_0).trans hS.2.1, (hbn.cell (p := ⟨g, 2, none⟩) hg_0).trans hS.2.2.1, (hbn.cell (p := ⟨g9, 0, none⟩) hg_1).trans hS.2.2.2.1, (hbn.cell (p := ⟨g9, 1, none⟩) hg_1).trans hS.2.2.2.2⟩
        have hgn_0 := Nat.lt_of_lt_of_le hg_0 hbn.size
        have hgn_1 := Nat.lt_of_lt_of_le hg_1 hbn.size
        refine hK.out _ _ hSn ?_
        clear hK K hS HBc hg_0 hg_1
        try simp only [zA, zB, zC, Act.put, zD, zE, zF]
        have hS := hSn
        have HBc := HBn
        have hg_0 := hgn_0
        have hg_1 := hgn_1
        clear hSn HBn hbn hgn_0 hgn_1
        obtain ⟨wc, rfl⟩ : ∃ x : World, x = wn := ⟨_, rfl⟩
        refine HT.one (i := 6) (o := _) rfl (by kernel_rfl) (by decide) (by rfl) ?_
        intro K hK
        refine wp_push_md (.tmp 54) (.tmp 57) rfl W7.heap.size A4 n3 c4 L (m9, AR, nR, cR) gb rfl rfl OC.out (by rw [HMN.out.1, HMN.out.2]; exact OB.out) hn3 HBc.out.size ?_
        intro g8 cap8 wn hown8 hb8 hk8
        have OP := Lib.hid hown8
        replace OA := Lib.hid ((hk8 ga (blk_lt OA.out) (own_ne_blk OC.out.2 OA.out (by decide))).trans OA.out)
        have HBn := Lib.hid (HBc.out.trans hb8)
        have hSn : wn.cell? ⟨g, 0, none⟩ = some (.int .i64 ra) ∧ wn.cell? ⟨g, 1, none⟩ = some (.int .i64 t1) ∧ wn.cell? ⟨g, 2, none⟩ = some (.slice A n cap) ∧ wn.cell? ⟨g9, 0, none⟩ = some (.int .i64 ra) ∧ wn.cell? ⟨g9, 1, none⟩ = some (.slice AR nR cR) := ⟨(hb8.cell (p := ⟨g, 0, none⟩) hg3W).trans hS.1, (hb8.cell (p := ⟨g, 1, none⟩) hg3W).trans hS.2.1, (hb8.cell (p := ⟨g, 2, none⟩) hg3W).trans hS.2.2.1, (hb8.cell (p := ⟨g9, 0, none⟩) hg9W).trans hS.2.2.2.1, (hb8.cell (p := ⟨g9, 1, none⟩) hg9W).trans hS.2.2.2.2⟩
        have hgn_0 := Nat.lt_of_lt_of_le hg3W HBn.out.size
        have hgn_1 := Nat.lt_of_lt_of_le hg9W HBn.out.size
        refine hK.out _ _ hSn ?_
        clear hK K hS HBc hown8 hb8 hk8 OC OB hg_0 hg_1
        try simp only [zA, zB, zC, Act.put, zD, zE, zF]
        have hS := hSn
        have HBc := HBn
        have hg_0 := hgn_0
        have hg_1 := hgn_1
        clear hSn HBn hgn_0 hgn_1
        obtain ⟨wc, rfl⟩ : ∃ x : World, x = wn := ⟨_, rfl⟩
        refine HT.one (i := 7) (o := _) rfl (by kernel_rfl) (by decide) (by rfl) ?_
        intro K hK
        go_simp
        refine (RENDER_uni ra t1 A (some ⟨g8, 0, none⟩) n (n3 + 1) cap cap8 cs (md ++ [m9]) hz HZM9 wc wc.heap.size (Nat.le_refl _) (Lib.hid ((hhC.out.below HBc.out hBW7).mono (Nat.le_trans hBW7 HBc.out.size))) (Lib.hid (md_of OP.out (HMV.out.below HBc.out (Nat.le_refl _)) HBc.out.size HLM.out))).mono ?_
        rintro e wn ⟨hbn, rc, AB, nB, cB, cntB, fB, rfl, hOR⟩
        have OR := Lib.hid hOR
        clear hOR
        clear OP
        replace OA := Lib.hid ((hbn.block ga (blk_lt OA.out)).trans OA.out)
        have HBn := Lib.hid (HBc.out.trans (hbn.mono HBc.out.size))
        have hSn : wn.cell? ⟨g, 0, none⟩ = some (.int .i64 ra) ∧ wn.cell? ⟨g, 1, none⟩ = some (.int .i64 t1) ∧ wn.cell? ⟨g, 2, none⟩ = some (.slice A n cap) ∧ wn.cell? ⟨g9, 0, none⟩ = some (.int .i64 ra) ∧ wn.cell? ⟨g9, 1, none⟩ = some (.slice AR nR cR) := ⟨(hbn.cell (p := ⟨g, 0, none⟩) hg_0).trans hS.1, (hbn.cell (p := ⟨g, 1, none⟩) hg_0).trans hS.2.1, (hbn.cell (p := ⟨g, 2, none⟩) hg_0).trans hS.2.2.1, (hbn.cell (p := ⟨g9, 0, none⟩) hg_1).trans hS.2.2.2.1, (hbn.cell (p := ⟨g9, 1, none⟩) hg_1).trans hS.2.2.2.2⟩
        have hgn_0 := Nat.lt_of_lt_of_le hg_0 hbn.size
        have hgn_1 := Nat.lt_of_lt_of_le hg_1 hbn.size
        refine hK.out _ _ hSn ?_
        clear hK K hS HBc hg_0 hg_1
        try simp only [zA, zB, zC, Act.put, zD, zE, zF]
        have hS := hSn
        have HBc := HBn
        have hg_0 := hgn_0
        have hg_1 := hgn_1
        clear hSn HBn hbn hgn_0 hgn_1
        obtain ⟨wc, rfl⟩ : ∃ x : World, x = wn := ⟨_, rfl⟩
        refine HT.take (i := 8) (oi := _) (v := ?_) rfl (by kernel_rfl) (by kernel_rfl) (by decide) (fun _ _ _ h => h) (Or.inl ⟨by rfl, ?_⟩) hS ?_
        rotate_left
        · intro wz
          go_simp
          try with_reducible rfl
        simp only [zA, zB, zC, Act.put, zD, zE, zF]
        refine HT.take (i := 9) (oi := _) (v := ?_) rfl (by kernel_rfl) (by kernel_rfl) (by decide) (fun _ _ _ h => h) (Or.inl ⟨by rfl, ?_⟩) hS ?_
        rotate_left
        · intro wz
          go_simp
          try with_reducible rfl
        simp only [zA, zB, zC, Act.put, zD, zE, zF]
        refine HT.take (i := 10) (oi := _) (v := ?_) rfl (by kernel_rfl) (by kernel_rfl) (by decide) (fun _ _ _ h => h) (Or.inl ⟨by rfl, ?_⟩) hS ?_
        rotate_left
        · intro wz
          go_simp
          try with_reducible rfl
        simp only [zA, zB, zC, Act.put, zD, zE, zF]
        refine HT.take (i := 11) (oi := _) (v := ?_) rfl (by kernel_rfl) (by kernel_rfl) (by decide) (fun _ _ _ h => h) (Or.inl ⟨by rfl, ?_⟩) hS ?_
        rotate_left
        · intro wz
          go_simp
          try with_reducible rfl
        simp only [zA, zB, zC, Act.put, zD, zE, zF]
        refine HT.done (by kernel_rfl) ?_
        clear hS
        simp only [List.drop_succ_cons, List.drop_zero]
        obtain ⟨c0, c1, f0, f1⟩ := two_cells OA.out
        go_wp2_with fail
        go_meet
        exact ⟨ga, rc, AB, nB, cB, cntB, fB, rfl, rfl, rfl, heap_set2 OA.out, OR.out.set2 OA.out _ _, set2_below HBc.out HGga.out⟩
        -- OA OR
  case rest =>
    obtain ⟨g13, rc, AB, nB, cB, cntB, fB, rfl, rfl, rfl, HX13, HRB, HBC⟩ := hcut
    have HX11c := Lib.hid ((HBC.out.block g11 (blk_lt HX11.out)).trans HX11.out)
    have HREN8 : Hid (RenRes wc ra t1 md ls rb (.slice AA nA cA) cntA fA) := HREN7.out.below HBC.out
    have HB8 := Lib.hid (HB7.out.trans (HBC.out.mono HB7.out.size))
    clear x0 x1 x2 y0 y1 HREN7 HBC HX11 HX37 HX97
    by_cases hf : fA = 0
    case neg =>
      have hq : (fA != 0) = true := by simpa using hf
      clear hf
      have HBA := HB8
      go_wp2_with fail
      refine (TALIVEC_any _).mono ?_
      rintro e w9 ⟨rfl, hb9⟩
      go_wp2_with fail
      go_ret
      exact ⟨rfl, HBA.out.trans (hb9.mono HBA.out.size)⟩
    subst hf
    by_cases hf : fB = 0
    case neg =>
      have hq : (fB != 0) = true := by simpa using hf
      clear hf
      have HBA := HB8
      go_wp2_with fail
      refine (TALIVEC_any _).mono ?_
      rintro e w9 ⟨rfl, hb9⟩
      go_wp2_with fail
      go_ret
      exact ⟨rfl, HBA.out.trans (hb9.mono HBA.out.size)⟩
    subst hf
    obtain ⟨e1, e2, hmok1, ho1⟩ := HREN8.out rfl
    obtain ⟨e3, e4, hmok2, ho2⟩ := HRB.out rfl
    have hsame := comp_same HCS.out HDS.out HLS.out (m := m9) (by rw [HM9.out]; exact HPERM.out) HWH.out HN0.out (by rw [HM9.out]) (fun x hx he => by
      obtain ⟨k, hk, rfl⟩ := List.mem_iff_getElem.1 hx
      have h1 := hmok2.apart k md.length hk (by simp)
      refine h1 ?_
      have h2 : mdOf (md ++ [m9]) k = md[k] := by simp [mdOf, List.getD, List.getElem?_append, hk]
      have h3 : mdOf (md ++ [m9]) md.length = m9 := by simp [mdOf, List.getD]
      rw [h2, h3]; exact he) (by rw [HM9.out]; exact HCH.out) t1.toNat
    rw [hsame.1, ← e4] at e2
    have HS := Lib.hid hsame.2
    have HO1 := Lib.hid ho1.rows
    have HO2 := Lib.hid ho2.rows
    have hna : nA = t1.toNat := by rw [← HO1.out.1, renS_len]
    have hnb : nB = t1.toNat := by rw [← HO2.out.1, renS_len]
    have hnn : nA = nB := hna.trans hnb.symm
    subst e1 e2 e3 hnn
    clear hsame ho1 ho2 hmok1 hmok2 hna hnb e4 HREN8 HRB
    obtain ⟨z0, z1, _, _⟩ := two_cells HX11c.out
    obtain ⟨q0, q1, _, _⟩ := two_cells HX13.out
    have hqq : (cntA == cntA) = true := by simp
    go_wp2_with fail
    refine (SAMEBUT_eq _ AA AB nA cA cB _ _ wc wc.heap.size (Nat.le_refl _) HO1 HO2 HS).mono ?_
    rintro e w8 ⟨rfl, hb8⟩
    have HBA := Lib.hid (HB8.out.trans (hb8.mono HB8.out.size))
    go_wp2_with fail
    refine (TALIVEC_any _).mono ?_
    rintro e w9 ⟨rfl, hb9⟩
    go_wp2_with fail
    go_ret
    exact ⟨rfl, HBA.out.trans (hb9.mono HBA.out.size)⟩
end Go.Proofs.YtkmcohnhanphdaaGreatDoor
