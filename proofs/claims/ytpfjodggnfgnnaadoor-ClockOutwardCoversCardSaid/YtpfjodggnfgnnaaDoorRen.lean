/- The ends of spans, merged (the document's). -/
import Derived.Test.YtpfjodggnfgnnaaDoorZc
set_option linter.unusedSimpArgs false
set_option linter.unusedVariables false
namespace Go.Proofs.YtpfjodggnfgnnaaDoor
open Go.RowKit Go.Dw
set_option maxRecDepth 100000 in
set_option maxHeartbeats 8000000 in
theorem RENDS_any (A A' : Option Addr) (n c m d : Nat) (a b : List Pr) (w : World) (B : Nat) (hB : B ≤ w.heap.size) (hn : n ≤ 1000) (hm : m ≤ 1000) (HCA : Hid (Canon a)) (HCB : Hid (Canon b)) (ha : Hid (PrsAt w B A n a)) (hb : Hid (PrsAt w B A' m b)) :
    Calls Tryd.prog 73 #[.slice A n c, .slice A' m d] w fun e w' => ∃ v, e = .returned v ∧ OwnI w' w.heap.size v (endsS a b) ∧ Below w.heap.size w w' := by
  have hfa : Hid ((flatE a).length = 2 * n) := by show _ = _; rw [flatE_len, ha.out.1]
  have hfb : Hid ((flatE b).length = 2 * m) := by show _ = _; rw [flatE_len, hb.out.1]
  go_enter Tryd.func73, Tryd.ntmps73
  go_wp2
  go_loopw [5, 6, 7] (fun v s6 s7 wr => ∃ (i k : Nat) (acc : List Int), i ≤ 2 * n ∧ k ≤ 2 * m ∧ s6 = .int .i64 i ∧ s7 = .int .i64 k ∧ Hid (Mrg (flatE a) (flatE b) i k acc) ∧ Hid (OwnI wr w.heap.size v acc) ∧ Hid (Below w.heap.size w wr)) (fun _ s6 s7 _ => 2 * n + 2 * m - (intOf s6).toNat - (intOf s7).toNat)
  case atStart => exact ⟨0, 0, [], by omega, by omega, rfl, rfl, Mrg.start _ _, OwnI.nil _ _, Below.refl _ _⟩
  case round =>
    obtain ⟨i, k, acc, hi, hk, rfl, rfl, HM, hO, hbw⟩ := hrel
    have hsz : w.heap.size ≤ wr.heap.size := hbw.out.size
    have hal := HM.out.len (by rw [hfa.out]; exact hi) (by rw [hfb.out]; exact hk)
    obtain ⟨A5, c5, rfl, hc5, hc6⟩ := hO.out.len
    have ha9 : Hid (PrsAt wr B A n a) := ha.out.below (hbw.out.mono hB) (Nat.le_refl _)
    have hb9 : Hid (PrsAt wr B A' m b) := hb.out.below (hbw.out.mono hB) (Nat.le_refl _)
    obtain ⟨q, hq⟩ : ∃ q, acc.length = q := ⟨_, rfl⟩
    rw [hq] at hO hc5 hal ⊢
    have HQ := Lib.hid hq
    have hq9 : q ≤ 5864062014634 := by omega
    have hi0 : (0 : Int) ≤ (i : Int) := by omega
    have hk0 : (0 : Int) ≤ (k : Int) := by omega
    have hin : (i : Int) ≤ 2 * (n : Int) := by omega
    have hkm9 : (k : Int) ≤ 2 * (m : Int) := by omega
    clear hq
    obtain ⟨x, hx⟩ : ∃ x, intAt (flatE a) i = x := ⟨_, rfl⟩
    obtain ⟨y, hy⟩ : ∃ y, intAt (flatE b) k = y := ⟨_, rfl⟩
    have HX := Lib.hid hx
    have HY := Lib.hid hy
    clear hx hy
    by_cases hik : i < 2 * n
    · have d1 : decide ((i : Int) < 2 * (n : Int)) = true := by simp; omega
      have HPA := Lib.hid (fun (hn9 : ∀ f ∈ (flatE b).drop k, x ≤ f) (h : ∀ m9, acc.length = m9 + 1 → intAt acc m9 ≠ x) => HX.out ▸ HM.out.push HCA.out HCB.out (by rw [hfa.out]; exact hik) (fun f hf => by rw [HX.out]; exact hn9 f hf) (by rw [HX.out]; exact h))
      have HSK := Lib.hid (fun (m9 : Nat) (h1 : acc.length = m9 + 1) (h : intAt acc m9 = x) => HM.out.skip (i := i) (by rw [hfa.out]; exact hik) h1 (by rw [HX.out]; exact h))
      by_cases hkm : k < 2 * m
      · have d2 : ((k : Int) == 2 * (m : Int)) = false := by simp; omega
        by_cases hxy : x ≤ y
        · have HPU := Lib.hid (HPA.out (fun f hf => by have := inc_drop_ge HCB.out (by rw [hfb.out]; exact hkm) f hf; rw [HY.out] at this; omega))
          obtain ⟨u, rfl⟩ : ∃ u, u = x := ⟨_, rfl⟩
          clear HPA
          rcases Nat.eq_zero_or_pos q with h0 | hpos
          · subst h0
            have HM2 := Lib.hid (HPU.out (fun m hm => by have := HQ.out; omega))
            have hq9 : 0 ≤ 5864062014634 := by omega
            clear HPU HSK
            go_wp2_with (first
              | (go_at_call 100; (with_reducible refine (REND_any A n c a i _ B (by omega) hik ha9).mono ?_); rintro e w2 ⟨rfl, rfl⟩; rw [HX.out])
              | (go_at_call 100; (with_reducible refine (REND_any A' m d b k _ B (by omega) hkm hb9).mono ?_); rintro e w2 ⟨rfl, rfl⟩; rw [HY.out])
              | (with_reducible refine wpList_push_one rfl (.tmp 65) (.tmp 67) rfl w.heap.size A5 0 c5 acc u wr.heap.size rfl rfl rfl hO.out hq9 hsz ?_; intro g5 cap5 w5 hown5 hb5))
            have HB5 := Lib.hid (hbw.out.trans hb5)
            have HO5 := Lib.hid hown5
            clear hown5 hb5
            go_roundw
            case rel => exact ⟨i + 1, k, acc ++ [u], by omega, by omega, by first | rfl | go_num, by first | rfl | go_num, HM2, HO5, HB5⟩
            case measure => simp [intOf]; omega
          · obtain ⟨r, rfl⟩ : ∃ r, q = r + 1 := ⟨q - 1, by omega⟩
            obtain ⟨g, cap, hv, hg1, hg2, _, _, hcl⟩ := hO.out.slot (by have := HQ.out; omega)
            injection hv with e1 e2 e3
            subst e1 e3
            obtain ⟨s1, f1⟩ := hcl r (by have := HQ.out; omega)
            have HPU2 := Lib.hid (fun (h : intAt acc r ≠ u) => HPU.out (fun m hm => by
              obtain rfl : m = r := by have := HQ.out; omega
              exact h))
            have HSK2 := Lib.hid (HSK.out r HQ.out)
            obtain ⟨z, hz⟩ : ∃ z, intAt acc r = z := ⟨_, rfl⟩
            rw [hz] at s1 HPU2 HSK2
            have hm0 : (0 : Int) ≤ (r : Int) := by omega
            have hmn : (r : Int) < (r : Int) + 1 := by omega
            have hmw : IntKind.i64.wrap (r : Int) = (r : Int) := IntWalk.i64_in _ (by omega)
            have hq9 : r + 1 ≤ 5864062014634 := by omega
            clear hcl hz HPU HSK hpos e2
            by_cases hzu : z = u
            · subst hzu
              have HM2 := Lib.hid (HSK2.out rfl)
              clear HPU2 HSK2
              go_wp2_with (first
                | (go_at_call 100; (with_reducible refine (REND_any A n c a i _ B (by omega) hik ha9).mono ?_); rintro e w2 ⟨rfl, rfl⟩; rw [HX.out])
                | (go_at_call 100; (with_reducible refine (REND_any A' m d b k _ B (by omega) hkm hb9).mono ?_); rintro e w2 ⟨rfl, rfl⟩; rw [HY.out])
                | (with_reducible refine wpList_push_one rfl (.tmp 65) (.tmp 67) rfl w.heap.size A5 (r + 1) c5 acc u wr.heap.size rfl rfl rfl hO.out hq9 hsz ?_; intro g5 cap5 w5 hown5 hb5))
              go_roundw
              case rel => exact ⟨i + 1, k, acc, by omega, by omega, by first | rfl | go_num, by first | rfl | go_num, HM2, (by have h := hO.out; exact h), hbw⟩
              case measure => simp [intOf]; omega
            · have HM2 := Lib.hid (HPU2.out hzu)
              have hd1 : (z == u) = false := by simpa using hzu
              have hd2 : (z != u) = true := by simpa using hzu
              obtain ⟨A5, hA⟩ : ∃ A : Option Addr, A = some ⟨g, 0, none⟩ := ⟨_, rfl⟩
              clear HPU2 HSK2 hzu
              go_wp2_with (first
                | (go_at_call 100; (with_reducible refine (REND_any A n c a i _ B (by omega) hik ha9).mono ?_); rintro e w2 ⟨rfl, rfl⟩; rw [HX.out])
                | (go_at_call 100; (with_reducible refine (REND_any A' m d b k _ B (by omega) hkm hb9).mono ?_); rintro e w2 ⟨rfl, rfl⟩; rw [HY.out])
                | (with_reducible refine wpList_push_one rfl (.tmp 65) (.tmp 67) rfl w.heap.size (some ⟨g, 0, none⟩) (r + 1) c5 acc u wr.heap.size rfl rfl rfl hO.out hq9 hsz ?_; intro g5 cap5 w5 hown5 hb5))
              have HB5 := Lib.hid (hbw.out.trans hb5)
              have HO5 := Lib.hid hown5
              clear hown5 hb5
              go_roundw
              case rel => exact ⟨i + 1, k, acc ++ [u], by omega, by omega, by first | rfl | go_num, by first | rfl | go_num, HM2, HO5, HB5⟩
              case measure => simp [intOf]; omega
        · have HPU := Lib.hid (fun (h : ∀ m9, acc.length = m9 + 1 → intAt acc m9 ≠ y) => (HY.out ▸ HM.out.symm.push HCB.out HCA.out (by rw [hfb.out]; exact hkm) (fun f hf => by have := inc_drop_ge HCA.out (by rw [hfa.out]; exact hik) f hf; rw [HX.out] at this; rw [HY.out]; omega) (by rw [HY.out]; exact h)).symm)
          clear HPA HSK
          have HSK := Lib.hid (fun (m9 : Nat) (h1 : acc.length = m9 + 1) (h : intAt acc m9 = y) => (HM.out.symm.skip (i := k) (by rw [hfb.out]; exact hkm) h1 (by rw [HY.out]; exact h)).symm)
          obtain ⟨u, rfl⟩ : ∃ u, u = y := ⟨_, rfl⟩
          rcases Nat.eq_zero_or_pos q with h0 | hpos
          · subst h0
            have HM2 := Lib.hid (HPU.out (fun m hm => by have := HQ.out; omega))
            have hq9 : 0 ≤ 5864062014634 := by omega
            clear HPU HSK
            go_wp2_with (first
              | (go_at_call 100; (with_reducible refine (REND_any A n c a i _ B (by omega) hik ha9).mono ?_); rintro e w2 ⟨rfl, rfl⟩; rw [HX.out])
              | (go_at_call 100; (with_reducible refine (REND_any A' m d b k _ B (by omega) hkm hb9).mono ?_); rintro e w2 ⟨rfl, rfl⟩; rw [HY.out])
              | (with_reducible refine wpList_push_one rfl (.tmp 65) (.tmp 67) rfl w.heap.size A5 0 c5 acc u wr.heap.size rfl rfl rfl hO.out hq9 hsz ?_; intro g5 cap5 w5 hown5 hb5))
            have HB5 := Lib.hid (hbw.out.trans hb5)
            have HO5 := Lib.hid hown5
            clear hown5 hb5
            go_roundw
            case rel => exact ⟨i, k + 1, acc ++ [u], by omega, by omega, by first | rfl | go_num, by first | rfl | go_num, HM2, HO5, HB5⟩
            case measure => simp [intOf]; omega
          · obtain ⟨r, rfl⟩ : ∃ r, q = r + 1 := ⟨q - 1, by omega⟩
            obtain ⟨g, cap, hv, hg1, hg2, _, _, hcl⟩ := hO.out.slot (by have := HQ.out; omega)
            injection hv with e1 e2 e3
            subst e1 e3
            obtain ⟨s1, f1⟩ := hcl r (by have := HQ.out; omega)
            have HPU2 := Lib.hid (fun (h : intAt acc r ≠ u) => HPU.out (fun m hm => by
              obtain rfl : m = r := by have := HQ.out; omega
              exact h))
            have HSK2 := Lib.hid (HSK.out r HQ.out)
            obtain ⟨z, hz⟩ : ∃ z, intAt acc r = z := ⟨_, rfl⟩
            rw [hz] at s1 HPU2 HSK2
            have hm0 : (0 : Int) ≤ (r : Int) := by omega
            have hmn : (r : Int) < (r : Int) + 1 := by omega
            have hmw : IntKind.i64.wrap (r : Int) = (r : Int) := IntWalk.i64_in _ (by omega)
            have hq9 : r + 1 ≤ 5864062014634 := by omega
            clear hcl hz HPU HSK hpos e2
            by_cases hzu : z = u
            · subst hzu
              have HM2 := Lib.hid (HSK2.out rfl)
              clear HPU2 HSK2
              go_wp2_with (first
                | (go_at_call 100; (with_reducible refine (REND_any A n c a i _ B (by omega) hik ha9).mono ?_); rintro e w2 ⟨rfl, rfl⟩; rw [HX.out])
                | (go_at_call 100; (with_reducible refine (REND_any A' m d b k _ B (by omega) hkm hb9).mono ?_); rintro e w2 ⟨rfl, rfl⟩; rw [HY.out])
                | (with_reducible refine wpList_push_one rfl (.tmp 65) (.tmp 67) rfl w.heap.size A5 (r + 1) c5 acc u wr.heap.size rfl rfl rfl hO.out hq9 hsz ?_; intro g5 cap5 w5 hown5 hb5))
              go_roundw
              case rel => exact ⟨i, k + 1, acc, by omega, by omega, by first | rfl | go_num, by first | rfl | go_num, HM2, (by have h := hO.out; exact h), hbw⟩
              case measure => simp [intOf]; omega
            · have HM2 := Lib.hid (HPU2.out hzu)
              have hd1 : (z == u) = false := by simpa using hzu
              have hd2 : (z != u) = true := by simpa using hzu
              obtain ⟨A5, hA⟩ : ∃ A : Option Addr, A = some ⟨g, 0, none⟩ := ⟨_, rfl⟩
              clear HPU2 HSK2 hzu
              go_wp2_with (first
                | (go_at_call 100; (with_reducible refine (REND_any A n c a i _ B (by omega) hik ha9).mono ?_); rintro e w2 ⟨rfl, rfl⟩; rw [HX.out])
                | (go_at_call 100; (with_reducible refine (REND_any A' m d b k _ B (by omega) hkm hb9).mono ?_); rintro e w2 ⟨rfl, rfl⟩; rw [HY.out])
                | (with_reducible refine wpList_push_one rfl (.tmp 65) (.tmp 67) rfl w.heap.size (some ⟨g, 0, none⟩) (r + 1) c5 acc u wr.heap.size rfl rfl rfl hO.out hq9 hsz ?_; intro g5 cap5 w5 hown5 hb5))
              have HB5 := Lib.hid (hbw.out.trans hb5)
              have HO5 := Lib.hid hown5
              clear hown5 hb5
              go_roundw
              case rel => exact ⟨i, k + 1, acc ++ [u], by omega, by omega, by first | rfl | go_num, by first | rfl | go_num, HM2, HO5, HB5⟩
              case measure => simp [intOf]; omega
      · have d2 : ((k : Int) == 2 * (m : Int)) = true := by simp; omega
        have HPU := Lib.hid (HPA.out (fun f hf => by rw [List.drop_eq_nil_of_le (by rw [hfb.out]; omega)] at hf; cases hf))
        obtain ⟨u, rfl⟩ : ∃ u, u = x := ⟨_, rfl⟩
        clear HPA
        rcases Nat.eq_zero_or_pos q with h0 | hpos
        · subst h0
          have HM2 := Lib.hid (HPU.out (fun m hm => by have := HQ.out; omega))
          have hq9 : 0 ≤ 5864062014634 := by omega
          clear HPU HSK
          go_wp2_with (first
            | (go_at_call 100; (with_reducible refine (REND_any A n c a i _ B (by omega) hik ha9).mono ?_); rintro e w2 ⟨rfl, rfl⟩; rw [HX.out])
            | (go_at_call 100; (with_reducible refine (REND_any A' m d b k _ B (by omega) hkm hb9).mono ?_); rintro e w2 ⟨rfl, rfl⟩; rw [HY.out])
            | (with_reducible refine wpList_push_one rfl (.tmp 65) (.tmp 67) rfl w.heap.size A5 0 c5 acc u wr.heap.size rfl rfl rfl hO.out hq9 hsz ?_; intro g5 cap5 w5 hown5 hb5))
          have HB5 := Lib.hid (hbw.out.trans hb5)
          have HO5 := Lib.hid hown5
          clear hown5 hb5
          go_roundw
          case rel => exact ⟨i + 1, k, acc ++ [u], by omega, by omega, by first | rfl | go_num, by first | rfl | go_num, HM2, HO5, HB5⟩
          case measure => simp [intOf]; omega
        · obtain ⟨r, rfl⟩ : ∃ r, q = r + 1 := ⟨q - 1, by omega⟩
          obtain ⟨g, cap, hv, hg1, hg2, _, _, hcl⟩ := hO.out.slot (by have := HQ.out; omega)
          injection hv with e1 e2 e3
          subst e1 e3
          obtain ⟨s1, f1⟩ := hcl r (by have := HQ.out; omega)
          have HPU2 := Lib.hid (fun (h : intAt acc r ≠ u) => HPU.out (fun m hm => by
            obtain rfl : m = r := by have := HQ.out; omega
            exact h))
          have HSK2 := Lib.hid (HSK.out r HQ.out)
          obtain ⟨z, hz⟩ : ∃ z, intAt acc r = z := ⟨_, rfl⟩
          rw [hz] at s1 HPU2 HSK2
          have hm0 : (0 : Int) ≤ (r : Int) := by omega
          have hmn : (r : Int) < (r : Int) + 1 := by omega
          have hmw : IntKind.i64.wrap (r : Int) = (r : Int) := IntWalk.i64_in _ (by omega)
          have hq9 : r + 1 ≤ 5864062014634 := by omega
          clear hcl hz HPU HSK hpos e2
          by_cases hzu : z = u
          · subst hzu
            have HM2 := Lib.hid (HSK2.out rfl)
            clear HPU2 HSK2
            go_wp2_with (first
              | (go_at_call 100; (with_reducible refine (REND_any A n c a i _ B (by omega) hik ha9).mono ?_); rintro e w2 ⟨rfl, rfl⟩; rw [HX.out])
              | (go_at_call 100; (with_reducible refine (REND_any A' m d b k _ B (by omega) hkm hb9).mono ?_); rintro e w2 ⟨rfl, rfl⟩; rw [HY.out])
              | (with_reducible refine wpList_push_one rfl (.tmp 65) (.tmp 67) rfl w.heap.size A5 (r + 1) c5 acc u wr.heap.size rfl rfl rfl hO.out hq9 hsz ?_; intro g5 cap5 w5 hown5 hb5))
            go_roundw
            case rel => exact ⟨i + 1, k, acc, by omega, by omega, by first | rfl | go_num, by first | rfl | go_num, HM2, (by have h := hO.out; exact h), hbw⟩
            case measure => simp [intOf]; omega
          · have HM2 := Lib.hid (HPU2.out hzu)
            have hd1 : (z == u) = false := by simpa using hzu
            have hd2 : (z != u) = true := by simpa using hzu
            obtain ⟨A5, hA⟩ : ∃ A : Option Addr, A = some ⟨g, 0, none⟩ := ⟨_, rfl⟩
            clear HPU2 HSK2 hzu
            go_wp2_with (first
              | (go_at_call 100; (with_reducible refine (REND_any A n c a i _ B (by omega) hik ha9).mono ?_); rintro e w2 ⟨rfl, rfl⟩; rw [HX.out])
              | (go_at_call 100; (with_reducible refine (REND_any A' m d b k _ B (by omega) hkm hb9).mono ?_); rintro e w2 ⟨rfl, rfl⟩; rw [HY.out])
              | (with_reducible refine wpList_push_one rfl (.tmp 65) (.tmp 67) rfl w.heap.size (some ⟨g, 0, none⟩) (r + 1) c5 acc u wr.heap.size rfl rfl rfl hO.out hq9 hsz ?_; intro g5 cap5 w5 hown5 hb5))
            have HB5 := Lib.hid (hbw.out.trans hb5)
            have HO5 := Lib.hid hown5
            clear hown5 hb5
            go_roundw
            case rel => exact ⟨i + 1, k, acc ++ [u], by omega, by omega, by first | rfl | go_num, by first | rfl | go_num, HM2, HO5, HB5⟩
            case measure => simp [intOf]; omega
    · have d1 : decide ((i : Int) < 2 * (n : Int)) = false := by simp; omega
      by_cases hkm : k < 2 * m
      · have d2 : ((k : Int) == 2 * (m : Int)) = false := by simp; omega
        have d3 : decide ((k : Int) < 2 * (m : Int)) = true := by simp; omega
        have HPU := Lib.hid (fun (h : ∀ m9, acc.length = m9 + 1 → intAt acc m9 ≠ y) => (HY.out ▸ HM.out.symm.push HCB.out HCA.out (by rw [hfb.out]; exact hkm) (fun f hf => by rw [List.drop_eq_nil_of_le (by rw [hfa.out]; omega)] at hf; cases hf) (by rw [HY.out]; exact h)).symm)
        have HSK := Lib.hid (fun (m9 : Nat) (h1 : acc.length = m9 + 1) (h : intAt acc m9 = y) => (HM.out.symm.skip (i := k) (by rw [hfb.out]; exact hkm) h1 (by rw [HY.out]; exact h)).symm)
        obtain ⟨u, rfl⟩ : ∃ u, u = y := ⟨_, rfl⟩
        rcases Nat.eq_zero_or_pos q with h0 | hpos
        · subst h0
          have HM2 := Lib.hid (HPU.out (fun m hm => by have := HQ.out; omega))
          have hq9 : 0 ≤ 5864062014634 := by omega
          clear HPU HSK
          go_wp2_with (first
            | (go_at_call 100; (with_reducible refine (REND_any A n c a i _ B (by omega) hik ha9).mono ?_); rintro e w2 ⟨rfl, rfl⟩; rw [HX.out])
            | (go_at_call 100; (with_reducible refine (REND_any A' m d b k _ B (by omega) hkm hb9).mono ?_); rintro e w2 ⟨rfl, rfl⟩; rw [HY.out])
            | (with_reducible refine wpList_push_one rfl (.tmp 65) (.tmp 67) rfl w.heap.size A5 0 c5 acc u wr.heap.size rfl rfl rfl hO.out hq9 hsz ?_; intro g5 cap5 w5 hown5 hb5))
          have HB5 := Lib.hid (hbw.out.trans hb5)
          have HO5 := Lib.hid hown5
          clear hown5 hb5
          go_roundw
          case rel => exact ⟨i, k + 1, acc ++ [u], by omega, by omega, by first | rfl | go_num, by first | rfl | go_num, HM2, HO5, HB5⟩
          case measure => simp [intOf]; omega
        · obtain ⟨r, rfl⟩ : ∃ r, q = r + 1 := ⟨q - 1, by omega⟩
          obtain ⟨g, cap, hv, hg1, hg2, _, _, hcl⟩ := hO.out.slot (by have := HQ.out; omega)
          injection hv with e1 e2 e3
          subst e1 e3
          obtain ⟨s1, f1⟩ := hcl r (by have := HQ.out; omega)
          have HPU2 := Lib.hid (fun (h : intAt acc r ≠ u) => HPU.out (fun m hm => by
            obtain rfl : m = r := by have := HQ.out; omega
            exact h))
          have HSK2 := Lib.hid (HSK.out r HQ.out)
          obtain ⟨z, hz⟩ : ∃ z, intAt acc r = z := ⟨_, rfl⟩
          rw [hz] at s1 HPU2 HSK2
          have hm0 : (0 : Int) ≤ (r : Int) := by omega
          have hmn : (r : Int) < (r : Int) + 1 := by omega
          have hmw : IntKind.i64.wrap (r : Int) = (r : Int) := IntWalk.i64_in _ (by omega)
          have hq9 : r + 1 ≤ 5864062014634 := by omega
          clear hcl hz HPU HSK hpos e2
          by_cases hzu : z = u
          · subst hzu
            have HM2 := Lib.hid (HSK2.out rfl)
            clear HPU2 HSK2
            go_wp2_with (first
              | (go_at_call 100; (with_reducible refine (REND_any A n c a i _ B (by omega) hik ha9).mono ?_); rintro e w2 ⟨rfl, rfl⟩; rw [HX.out])
              | (go_at_call 100; (with_reducible refine (REND_any A' m d b k _ B (by omega) hkm hb9).mono ?_); rintro e w2 ⟨rfl, rfl⟩; rw [HY.out])
              | (with_reducible refine wpList_push_one rfl (.tmp 65) (.tmp 67) rfl w.heap.size A5 (r + 1) c5 acc u wr.heap.size rfl rfl rfl hO.out hq9 hsz ?_; intro g5 cap5 w5 hown5 hb5))
            go_roundw
            case rel => exact ⟨i, k + 1, acc, by omega, by omega, by first | rfl | go_num, by first | rfl | go_num, HM2, (by have h := hO.out; exact h), hbw⟩
            case measure => simp [intOf]; omega
          · have HM2 := Lib.hid (HPU2.out hzu)
            have hd1 : (z == u) = false := by simpa using hzu
            have hd2 : (z != u) = true := by simpa using hzu
            obtain ⟨A5, hA⟩ : ∃ A : Option Addr, A = some ⟨g, 0, none⟩ := ⟨_, rfl⟩
            clear HPU2 HSK2 hzu
            go_wp2_with (first
              | (go_at_call 100; (with_reducible refine (REND_any A n c a i _ B (by omega) hik ha9).mono ?_); rintro e w2 ⟨rfl, rfl⟩; rw [HX.out])
              | (go_at_call 100; (with_reducible refine (REND_any A' m d b k _ B (by omega) hkm hb9).mono ?_); rintro e w2 ⟨rfl, rfl⟩; rw [HY.out])
              | (with_reducible refine wpList_push_one rfl (.tmp 65) (.tmp 67) rfl w.heap.size (some ⟨g, 0, none⟩) (r + 1) c5 acc u wr.heap.size rfl rfl rfl hO.out hq9 hsz ?_; intro g5 cap5 w5 hown5 hb5))
            have HB5 := Lib.hid (hbw.out.trans hb5)
            have HO5 := Lib.hid hown5
            clear hown5 hb5
            go_roundw
            case rel => exact ⟨i, k + 1, acc ++ [u], by omega, by omega, by first | rfl | go_num, by first | rfl | go_num, HM2, HO5, HB5⟩
            case measure => simp [intOf]; omega
      · have d3 : decide ((k : Int) < 2 * (m : Int)) = false := by simp; omega
        have HE := HM.out.done (by rw [hfa.out]; omega) (by rw [hfb.out]; omega)
        have HO9 : Hid (OwnI wr w.heap.size (.slice A5 q c5) (endsS a b)) := by rw [HE] at hO; exact hO
        clear HE
        go_wp2
        go_ret
        exact ⟨_, rfl, HO9.out, hbw.out⟩
end Go.Proofs.YtpfjodggnfgnnaaDoor
