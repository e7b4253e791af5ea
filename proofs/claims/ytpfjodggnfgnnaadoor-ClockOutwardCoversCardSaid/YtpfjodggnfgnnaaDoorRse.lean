/- Join, Meet and Without (the document's). -/
import Derived.Test.YtpfjodggnfgnnaaDoorRen
import Derived.Deep.QuietTactic
import Derived.BigQuiet
set_option linter.unusedSimpArgs false
set_option linter.unusedVariables false
namespace Go.Proofs.YtpfjodggnfgnnaaDoor
open Go.RowKit Go.Dw
theorem OwnPrs.base {E : TypeId} {w : World} {base base' : Nat} {v : Value} {bs : List Pr} (h : OwnPrs E w base v bs) (hb : base' ≤ base) : OwnPrs E w base' v bs := own_base h hb
theorem OwnI.base {w : World} {base base' : Nat} {v : Value} {l : List Int} (h : OwnI w base v l) (hb : base' ≤ base) : OwnI w base' v l := own_base h hb
/-- what the sweep holds -/
def swF (keep : Bool → Bool → Bool) (a b : List Pr) (z : Int) : Bool := keep (inS a z) (inS b z)
theorem swF_at {keep : Bool → Bool → Bool} {a b : List Pr} {z : Int} {p q : Bool} (h1 : inS a z = p) (h2 : inS b z = q) : swF keep a b z = keep p q := by unfold swF; rw [h1, h2]
theorem sweep_def (keep : Bool → Bool → Bool) (a b : List Pr) : swp (swF keep a b) ((endsS a b).drop 0) [] = sweepS keep a b := rfl
theorem swp_kept {f : Int → Bool} {E : List Int} {k : Nat} {acc r : List Pr} {x y : Int} (hk : k + 1 < E.length) (h : swp f (E.drop k) acc = r) (hx : intAt E k = x) (hy : intAt E (k + 1) = y) (hf : f x = true) : swp f (E.drop (k + 1)) (appS acc (x, y)) = r := by
  rw [← h, swp_step f hk, hx, hy, if_pos hf]
theorem swp_left {f : Int → Bool} {E : List Int} {k : Nat} {acc r : List Pr} {x : Int} (hk : k + 1 < E.length) (h : swp f (E.drop k) acc = r) (hx : intAt E k = x) (hf : f x = false) : swp f (E.drop (k + 1)) acc = r := by
  rw [← h, swp_step f hk, hx, if_neg (by rw [hf]; simp)]
def LowE (E : List Int) (k : Nat) (acc : List Pr) : Prop := k < E.length → ∀ e ∈ flatE acc, e ≤ intAt E k
theorem low_left {E : List Int} {k : Nat} {acc : List Pr} (hE : E.Pairwise (· < ·)) (h : LowE E k acc) : LowE E (k + 1) acc := fun hk e he => by
  have := h (by omega) e he
  have := int_lt hE (show k < k + 1 by omega) hk
  omega
theorem low_kept {E : List Int} {k : Nat} {acc : List Pr} {x y : Int} (hE : E.Pairwise (· < ·)) (h : LowE E k acc) (hk : k + 1 < E.length) (hx : intAt E k = x) (hy : intAt E (k + 1) = y) : LowE E (k + 1) (appS acc (x, y)) := fun hk e he => by
  have h1 := int_lt hE (show k < k + 1 by omega) hk
  rw [hy]
  rw [hx, hy] at h1
  exact app_low (by rw [← hx]; exact h (by omega)) h1 e he
set_option maxRecDepth 100000 in
set_option maxHeartbeats 8000000 in
theorem RSET_or (A A' : Option Addr) (n c m0 d : Nat) (a b : List Pr) (w : World) (B : Nat) (hB : B ≤ w.heap.size) (ha : Hid (PrsAt w B A n a)) (hb : Hid (PrsAt w B A' m0 b)) :
    Calls Tryd.prog 36 #[.slice A n c, .slice A' m0 d, .int .i64 1] w (OutT2 29 w (setS (fun x y => or x y) a b)) := by
  have hla := Lib.hid ha.out.1
  have hlb := Lib.hid hb.out.1
  obtain ⟨x1, hx1⟩ : ∃ x, chkSp a = x := ⟨_, rfl⟩
  obtain ⟨x2, hx2⟩ : ∃ x, chkSp b = x := ⟨_, rfl⟩
  have HX1 := Lib.hid hx1
  have HX2 := Lib.hid hx2
  clear hx1 hx2
  by_cases h1 : x1 = 0
  rotate_left
  · have hq : ((x1 : Int) != 0) = true := by simpa using h1
    have HV : Hid (setS (fun x y => or x y) a b = ([], x1)) := by show _ = _; unfold setS; rw [HX1.out, if_pos h1]
    go_enter Tryd.func36, Tryd.ntmps36
    go_wp2_with (go_at_call 12; refine (RCHECKSPANS_any A n c a _ B hB ha).mono ?_; rintro e w1 ⟨rfl, hb1⟩; rw [HX1.out])
    refine bodyPost_ret (v := .tuple #[.slice none 0 0, .int .i64 x1]) (by simp [results, Tryd.results36, go_sem]) rfl ?_
    unfold OutT2
    rw [HV.out]
    exact ⟨_, rfl, OwnPrs.nil _ _ _, hb1⟩
  subst h1
  go_enter Tryd.func36, Tryd.ntmps36
  go_upto_region 4 with (go_at_call 12; refine (RCHECKSPANS_any A n c a _ B hB ha).mono ?_; rintro e w1 ⟨rfl, hb1⟩; rw [HX1.out])
  have hb1s := hb1.size
  have HB1 := Lib.hid hb1
  have hbw1 : Hid (PrsAt w1 B A' m0 b) := hb.out.below hb1 hB
  have haw1 : Hid (PrsAt w1 B A n a) := ha.out.below hb1 hB
  have hBw1 : B ≤ w1.heap.size := by omega
  clear hb1
  by_cases h2 : x2 = 0
  rotate_left
  · have hq : ((x2 : Int) != 0) = true := by simpa using h2
    have HV : Hid (setS (fun x y => or x y) a b = ([], x2)) := by show _ = _; unfold setS; rw [HX1.out, HX2.out, if_neg (by simp), if_pos h2]
    go_wp2_with (go_at_call 12; refine (RCHECKSPANS_any A' m0 d b _ B hBw1 hbw1).mono ?_; rintro e w2 ⟨rfl, hb2⟩; rw [HX2.out])
    refine bodyPost_ret (v := .tuple #[.slice none 0 0, .int .i64 x2]) (by simp [results, Tryd.results36, go_sem]) rfl ?_
    unfold OutT2
    rw [HV.out]
    exact ⟨_, rfl, OwnPrs.nil _ _ _, HB1.out.trans (hb2.mono hb1s)⟩
  subst h2
  go_upto_region 8 with (go_at_call 12; refine (RCHECKSPANS_any A' m0 d b _ B hBw1 hbw1).mono ?_; rintro e w2 ⟨rfl, hb2⟩; rw [HX2.out])
  have hb2s := hb2.size
  have HB2 := Lib.hid (HB1.out.trans (hb2.mono hb1s))
  have hbw2 : Hid (PrsAt w2 B A' m0 b) := hbw1.out.below hb2 hBw1
  have haw2 : Hid (PrsAt w2 B A n a) := haw1.out.below hb2 hBw1
  have hBw2 : B ≤ w2.heap.size := by omega
  obtain ⟨ca, na, _⟩ := chkSp_canon HX1.out
  obtain ⟨cb, nb, _⟩ := chkSp_canon HX2.out
  have HCA := Lib.hid ca
  have HCB := Lib.hid cb
  have hna : n ≤ 1000 := by rw [← hla.out]; exact na
  have hnb : m0 ≤ 1000 := by rw [← hlb.out]; exact nb
  clear hb2 ca cb na nb haw1 hbw1 hBw1
  go_upto_region 9 with (go_at_call 73; refine (RENDS_any A A' n c m0 d a b _ B hBw2 hna hnb HCA HCB haw2 hbw2).mono ?_; rintro e w3 ⟨vE, rfl, hE, hb3⟩)
  obtain ⟨W, rfl⟩ : ∃ x : World, x = w3 := ⟨_, rfl⟩
  have hb3s := hb3.size
  have HB3 := Lib.hid (HB2.out.trans (hb3.mono (by omega)))
  have haW : Hid (PrsAt W B A n a) := haw2.out.below hb3 hBw2
  have hbW : Hid (PrsAt W B A' m0 b) := hbw2.out.below hb3 hBw2
  have hBW : B ≤ W.heap.size := by omega
  have HEI0 := Lib.hid (endsL_lt (flatE a ++ flatE b))
  have HSW0 := Lib.hid (sweep_def (fun x y => or x y) a b)
  have hEl := ends_len a b
  rw [hla.out, hlb.out] at hEl
  have HE0 : Hid (OwnI W w.heap.size vE (endsS a b)) := hE.base (by omega)
  obtain ⟨E, HEE⟩ : ∃ E, Hid (E = endsS a b) := ⟨_, rfl⟩
  rw [← HEE.out] at hEl HE0 HSW0
  have HEI : Hid (E.Pairwise (· < ·)) := by show E.Pairwise _; rw [HEE.out]; exact HEI0.out
  clear HEI0 hE hb3 haw2 hbw2 hBw2
  obtain ⟨AE, cE, rfl, hcE, hcE2⟩ := HE0.out.len
  obtain ⟨q9, hq9⟩ : ∃ q, E.length = q := ⟨_, rfl⟩
  rw [hq9] at HE0 hcE hEl ⊢
  have HQ9 := Lib.hid hq9
  clear hq9
  go_wp2_with fail
  go_loopw [10, 12] (fun v s12 wr => ∃ (k : Nat) (acc : List Pr), k ≤ q9 ∧ s12 = .int .i64 k ∧ Hid (swp (swF (fun x y => or x y) a b) (E.drop k) acc = sweepS (fun x y => or x y) a b) ∧ Hid (LowE E k acc) ∧ Hid (acc.length ≤ k) ∧ Hid (OwnPrs 29 wr W.heap.size v acc) ∧ Hid (Below W.heap.size W wr)) (fun _ s12 _ => q9 - (intOf s12).toNat)
  case atStart => exact ⟨0, [], by omega, rfl, HSW0, (fun h e he => by cases he), Nat.le_refl _, OwnPrs.nil _ _ _, Below.refl _ _⟩
  case round =>
    obtain ⟨k, acc, hk, rfl, HK, HL, HN, hO, hbw⟩ := hrel
    have hsz : W.heap.size ≤ wr.heap.size := hbw.out.size
    obtain ⟨A5, c5, rfl, hc5, hc6⟩ := hO.out.len
    obtain ⟨qa, hqa⟩ : ∃ q, acc.length = q := ⟨_, rfl⟩
    have HQA := Lib.hid hqa
    have hqk : qa ≤ k := by rw [← hqa]; exact HN.out
    rw [hqa] at hO hc5 ⊢
    clear hqa
    have hk0 : (0 : Int) ≤ (k : Int) := by omega
    have haw9 : Hid (PrsAt wr B A n a) := haW.out.below (hbw.out.mono hBW) (Nat.le_refl _)
    have hbw9 : Hid (PrsAt wr B A' m0 b) := hbW.out.below (hbw.out.mono hBW) (Nat.le_refl _)
    by_cases hkq : k + 1 < q9
    · obtain ⟨gE, capE, hv, _, hgE, _, _, hcl⟩ := HE0.out.slot (by have := HQ9.out; omega)
      injection hv with e1 e2 e3
      subst e1 e3
      obtain ⟨s1, _⟩ := hcl k (by have := HQ9.out; omega)
      obtain ⟨s2, _⟩ := hcl (k + 1) (by have := HQ9.out; omega)
      have HGE := Lib.hid hgE
      replace s1 := (hbw.out.cell (p := ⟨gE, k, none⟩) hgE).trans s1
      replace s2 := (hbw.out.cell (p := ⟨gE, k + 1, none⟩) hgE).trans s2
      have hxy := int_lt HEI.out (show k < k + 1 by omega) (by have := HQ9.out; omega)
      have hkE : k + 1 < E.length := by have := HQ9.out; omega
      obtain ⟨x, hx⟩ : ∃ x, intAt E k = x := ⟨_, rfl⟩
      obtain ⟨y, hy⟩ : ∃ y, intAt E (k + 1) = y := ⟨_, rfl⟩
      rw [hx] at s1 hxy
      rw [hy] at s2 hxy
      have HX := Lib.hid hx
      have HY := Lib.hid hy
      have HKE := Lib.hid hkE
      obtain ⟨p, hp⟩ : ∃ p, inS a x = p := ⟨_, rfl⟩
      obtain ⟨q, hq⟩ : ∃ q, inS b x = q := ⟨_, rfl⟩
      have HP := Lib.hid hp
      have HQ := Lib.hid hq
      have hkn : (k : Int) + 1 < (q9 : Int) := by omega
      have hkn2 : (k : Int) < (q9 : Int) := by omega
      clear hx hy hp hq hcl hkE e2
      go_upto_region 12 with (fail)
      have HRA : Hid (∀ z : Nat, Calls Tryd.prog 74 #[.slice A n c, .int .i64 x] (wr.drewN z) fun e w' => e = .returned (.bool p) ∧ ∃ m, w' = (wr.drewN z).drewN m) := fun z => (RIN_any A n c a x _ B (by omega) (Lib.hid (haw9.out.below (belowN (Below.refl _ _) _) (Nat.le_refl _)))).mono fun e w' h => ⟨h.1.trans (by rw [HP.out]), 0, h.2.symm⟩
      have HRB : Hid (∀ z : Nat, Calls Tryd.prog 74 #[.slice A' m0 d, .int .i64 x] (wr.drewN z) fun e w' => e = .returned (.bool q) ∧ ∃ m, w' = (wr.drewN z).drewN m) := fun z => (RIN_any A' m0 d b x _ B (by omega) (Lib.hid (hbw9.out.below (belowN (Below.refl _ _) _) (Nat.le_refl _)))).mono fun e w' h => ⟨h.1.trans (by rw [HQ.out]), 0, h.2.symm⟩
      go_quiet ((first
        | (go_at_call 74; (with_reducible refine Calls.quiet_of (HRA.out _)))
        | (go_at_call 74; (with_reducible refine Calls.quiet_of (HRB.out _)))))
      obtain ⟨X1, hX⟩ : ∃ X : World, X = wr.drewN nq := ⟨_, rfl⟩
      rw [← hX]
      replace s1 : X1.cell? ⟨gE, k, none⟩ = some (.int .i64 x) := by rw [hX]; exact s1
      replace s2 : X1.cell? ⟨gE, k + 1, none⟩ = some (.int .i64 y) := by rw [hX]; exact s2
      replace hbw : Hid (Below W.heap.size W X1) := by show Below _ _ _; rw [hX]; exact belowN hbw.out nq
      replace hO : Hid (OwnPrs 29 X1 W.heap.size (.slice A5 qa c5) acc) := by show OwnPrs _ _ _ _ _; rw [hX]; exact hO.out.below (belowN (Below.refl _ wr) nq)
      clear hX
      clear HRA HRB haw9 hbw9
      cases p with
      | true =>
        cases q with
        | true =>
          have HK2 := Lib.hid (swp_kept HKE.out HK.out HX.out HY.out ((swF_at HP.out HQ.out).trans rfl))
          have HL2 := Lib.hid (low_kept HEI.out HL.out HKE.out HX.out HY.out)
          have HN2 : Hid ((appS acc (x, y)).length ≤ k + 1) := by show _ ≤ _; have := appS_len acc (x, y); have := HN.out; omega
          rcases Nat.eq_zero_or_pos qa with h0 | hpos
          · have HST : Hid (appS acc (x, y) = acc ++ [(x, y)]) := appS_new (fun m hm => by have := HQA.out; omega)
            subst h0
            go_upto_region 15 with (fail)
            go_quiet (fail)
            obtain ⟨X, hX⟩ : ∃ X : World, X = X1.drewN nq := ⟨_, rfl⟩
            rw [← hX]
            replace s1 : X.cell? ⟨gE, k, none⟩ = some (.int .i64 x) := by rw [hX]; exact s1
            replace s2 : X.cell? ⟨gE, k + 1, none⟩ = some (.int .i64 y) := by rw [hX]; exact s2
            replace hbw : Hid (Below W.heap.size W X) := by show Below _ _ _; rw [hX]; exact belowN hbw.out nq
            replace hO : Hid (OwnPrs 29 X W.heap.size (.slice A5 0 c5) acc) := by show OwnPrs _ _ _ _ _; rw [hX]; exact hO.out.below (belowN (Below.refl _ X1) nq)
            clear hX
            go_upto_region 17 with (fail)
            refine wp_region_text 13 (fun x9 => x9.cell? ⟨gE, k, none⟩ = some (.int .i64 x) ∧ x9.cell? ⟨gE, k + 1, none⟩ = some (.int .i64 y)) (by kernel_rfl) (by kernel_rfl) ?_
            obtain ⟨Z, hZ⟩ : ∃ Z : World, Z = X.drew := ⟨_, rfl⟩
            rw [← hZ]
            have hS : Z.cell? ⟨gE, k, none⟩ = some (.int .i64 x) ∧ Z.cell? ⟨gE, k + 1, none⟩ = some (.int .i64 y) := by rw [hZ]; exact ⟨s1, s2⟩
            have hOd : Hid (OwnPrs 29 Z W.heap.size (.slice A5 0 c5) acc) := by show OwnPrs _ _ _ _ _; rw [hZ]; exact hO.out.below ((Below.refl _ X).drew)
            have hbd : Hid (Below W.heap.size W Z) := by show Below _ _ _; rw [hZ]; exact hbw.out.drew
            have hsz9 := hbd.out.size
            have hgZ : gE < Z.heap.size := by omega
            clear hZ s1 s2
            have kw1 : IntKind.i64.wrap ((k : Int) + 1) = (k : Int) + 1 := IntWalk.i64_in _ (by omega)
            have kw2 : (0 : Int) ≤ (k : Int) + 1 := by omega
            have kw3 : ((k : Int) + 1).toNat = k + 1 := by omega
            refine HT.take (i := 0) (oi := _) (v := ?_) rfl (by kernel_rfl) (by kernel_rfl) (by decide) (fun _ _ _ h => h) (Or.inl ⟨by rfl, ?_⟩) hS ?_
            rotate_left
            · intro wz
              go_simp
              try with_reducible rfl
            simp only [List.getElem_toArray, List.getElem_cons_succ, List.getElem_cons_zero, Act.put, List.setIfInBounds_toArray, List.set_cons_zero, List.set_cons_succ]
            refine HT.take (i := 1) (oi := _) (v := ?_) rfl (by kernel_rfl) (by kernel_rfl) (by decide) (fun _ _ _ h => h) (Or.inl ⟨by rfl, ?_⟩) hS ?_
            rotate_left
            · intro wz
              go_simp
              try with_reducible rfl
            simp only [List.getElem_toArray, List.getElem_cons_succ, List.getElem_cons_zero, Act.put, List.setIfInBounds_toArray, List.set_cons_zero, List.set_cons_succ]
            refine HT.take (i := 2) (oi := _) (v := ?_) rfl (by kernel_rfl) (by kernel_rfl) (by decide) (fun _ _ _ h => h) (Or.inl ⟨by rfl, ?_⟩) hS ?_
            rotate_left
            · intro wz
              go_simp
              try with_reducible rfl
            simp only [List.getElem_toArray, List.getElem_cons_succ, List.getElem_cons_zero, Act.put, List.setIfInBounds_toArray, List.set_cons_zero, List.set_cons_succ]
            refine HT.take (i := 3) (oi := _) (v := ?_) rfl (by kernel_rfl) (by kernel_rfl) (by decide) (fun _ _ _ h => h) (Or.inl ⟨by rfl, ?_⟩) hS ?_
            rotate_left
            · intro wz
              go_simp
              try with_reducible rfl
            simp only [List.getElem_toArray, List.getElem_cons_succ, List.getElem_cons_zero, Act.put, List.setIfInBounds_toArray, List.set_cons_zero, List.set_cons_succ]
            refine HT.load (i := 4) (oi := _) (v := ?_) rfl (by kernel_rfl) (by kernel_rfl) (by decide) (fun _ _ _ h => h) (by kernel_rfl) (Or.inl ⟨by rfl, ?_⟩) hS ?_
            rotate_left
            · intro wz hwz
              try dsimp only at hwz
              go_simp
              try with_reducible rfl
            simp only [List.getElem_toArray, List.getElem_cons_succ, List.getElem_cons_zero, Act.put, List.setIfInBounds_toArray, List.set_cons_zero, List.set_cons_succ]
            refine HT.take (i := 5) (oi := _) (v := ?_) rfl (by kernel_rfl) (by kernel_rfl) (by decide) (fun _ _ _ h => h) (Or.inl ⟨by rfl, ?_⟩) hS ?_
            rotate_left
            · intro wz
              go_simp
              try with_reducible rfl
            simp only [List.getElem_toArray, List.getElem_cons_succ, List.getElem_cons_zero, Act.put, List.setIfInBounds_toArray, List.set_cons_zero, List.set_cons_succ]
            refine HT.take (i := 6) (oi := _) (v := ?_) rfl (by kernel_rfl) (by kernel_rfl) (by decide) (fun _ _ _ h => h) (Or.inl ⟨by rfl, ?_⟩) hS ?_
            rotate_left
            · intro wz
              go_simp
              try with_reducible rfl
            simp only [List.getElem_toArray, List.getElem_cons_succ, List.getElem_cons_zero, Act.put, List.setIfInBounds_toArray, List.set_cons_zero, List.set_cons_succ]
            refine HT.take (i := 7) (oi := _) (v := ?_) rfl (by kernel_rfl) (by kernel_rfl) (by decide) (fun _ _ _ h => h) (Or.inl ⟨by rfl, ?_⟩) hS ?_
            rotate_left
            · intro wz
              go_simp
              try with_reducible rfl
            simp only [List.getElem_toArray, List.getElem_cons_succ, List.getElem_cons_zero, Act.put, List.setIfInBounds_toArray, List.set_cons_zero, List.set_cons_succ]
            refine HT.take (i := 8) (oi := _) (v := ?_) rfl (by kernel_rfl) (by kernel_rfl) (by decide) (fun _ _ _ h => h) (Or.inl ⟨by rfl, ?_⟩) hS ?_
            rotate_left
            · intro wz
              go_simp
              try with_reducible rfl
            simp only [List.getElem_toArray, List.getElem_cons_succ, List.getElem_cons_zero, Act.put, List.setIfInBounds_toArray, List.set_cons_zero, List.set_cons_succ]
            refine HT.load (i := 9) (oi := _) (v := ?_) rfl (by kernel_rfl) (by kernel_rfl) (by decide) (fun _ _ _ h => h) (by kernel_rfl) (Or.inl ⟨by rfl, ?_⟩) hS ?_
            rotate_left
            · intro wz hwz
              try dsimp only at hwz
              go_simp
              try with_reducible rfl
            simp only [List.getElem_toArray, List.getElem_cons_succ, List.getElem_cons_zero, Act.put, List.setIfInBounds_toArray, List.set_cons_zero, List.set_cons_succ]
            clear kw1 kw2 kw3
            refine HT.take (i := 10) (oi := _) (v := ?_) rfl (by kernel_rfl) (by kernel_rfl) (by decide) (fun _ _ _ h => h) (Or.inl ⟨by rfl, ?_⟩) hS ?_
            rotate_left
            · intro wz
              go_simp
              try with_reducible rfl
            simp only [List.getElem_toArray, List.getElem_cons_succ, List.getElem_cons_zero, Act.put, List.setIfInBounds_toArray, List.set_cons_zero, List.set_cons_succ]
            have hSZ := hS
            refine HT.one (i := 11) (o := _) rfl (by kernel_rfl) (by decide) (by rfl) ?_
            intro K hK
            go_simp
            have hS2 : (Z.alloc (.cells #[.int .i64 x, .int .i64 y] 29)).cell? ⟨gE, k, none⟩ = some (.int .i64 x) ∧ (Z.alloc (.cells #[.int .i64 x, .int .i64 y] 29)).cell? ⟨gE, k + 1, none⟩ = some (.int .i64 y) := ⟨(World.cell?_alloc_lt Z _ _ hgZ).trans hS.1, (World.cell?_alloc_lt Z _ _ hgZ).trans hS.2⟩
            refine hK.out _ _ hS2 ?_
            clear hK K hS
            have hS := hS2
            clear hS2
            try simp only [List.getElem_toArray, List.getElem_cons_succ, List.getElem_cons_zero, Act.put, List.setIfInBounds_toArray, List.set_cons_zero, List.set_cons_succ]
            refine HT.one (i := 12) (o := _) rfl (by kernel_rfl) (by decide) (by rfl) ?_
            intro K hK
            refine wp_push_span (.tmp 108) (.tmp 119) (by rfl) W.heap.size A5 0 c5 acc x y Z.heap.size rfl (by rfl) (by rfl) hOd.out (by omega) hsz9 ?_
            intro g5 cap5 w5 hown5 hb5
            have hS2 : w5.cell? ⟨gE, k, none⟩ = some (.int .i64 x) ∧ w5.cell? ⟨gE, k + 1, none⟩ = some (.int .i64 y) := ⟨(hb5.cell (p := ⟨gE, k, none⟩) HGE.out).trans hSZ.1, (hb5.cell (p := ⟨gE, k + 1, none⟩) HGE.out).trans hSZ.2⟩
            refine hK.out _ _ hS2 ?_
            clear hK K hS hSZ
            have hS := hS2
            clear hS2
            try simp only [List.getElem_toArray, List.getElem_cons_succ, List.getElem_cons_zero, Act.put, List.setIfInBounds_toArray, List.set_cons_zero, List.set_cons_succ]
            refine HT.done (by kernel_rfl) ?_
            clear hS
            simp only [List.drop_succ_cons, List.drop_zero]
            go_wp2_with (fail)
            have HB5 := Lib.hid (hbd.out.trans hb5)
            rw [← HST.out] at hown5
            have HO5 := Lib.hid hown5
            clear hown5 hb5
            go_roundw
            case rel => exact ⟨k + 1, _, by omega, by go_num, HK2, HL2, HN2, HO5, HB5⟩
            case measure => simp [intOf]; omega
          · obtain ⟨m, rfl⟩ : ∃ m, qa = m + 1 := ⟨qa - 1, by omega⟩
            obtain ⟨g, cap, hv, hg1, hg2, _, _, hcl⟩ := hO.out.slot (by have := HQA.out; omega)
            injection hv with e1 e2 e3
            obtain ⟨⟨t1, t2⟩, f1, f2⟩ := hcl m (by have := HQA.out; omega)
            obtain ⟨z, hz⟩ : ∃ z, prOf acc m = z := ⟨_, rfl⟩
            obtain ⟨z1, z2⟩ := z
            have HZ := Lib.hid hz
            rw [hz] at t1 t2
            dsimp only at t1 t2
            have hzl : z2 ≤ x := last_low HQA.out HZ.out (by rw [← HX.out]; exact HL.out (by have := HKE.out; omega))
            have hm0 : (0 : Int) ≤ (m : Int) := by omega
            have hmn : (m : Int) < (m : Int) + 1 := by omega
            have hmw : IntKind.i64.wrap (m : Int) = (m : Int) := IntWalk.i64_in _ (by omega)
            have hne : gE ≠ g := by have := HGE.out; omega
            subst e3
            clear hcl hz hpos e2
            by_cases hzx : z2 = x
            · have HST : Hid (appS acc (x, y) = acc.set m ((prOf acc m).1, y)) := by
                have h := HZ.out
                rw [hzx] at h
                exact appS_touch HQA.out h hxy
              have hd1 : (z2 == x) = true := by simpa using hzx
              subst e1
              clear hzx
              go_upto_region 15 with (fail)
              go_quiet (fail)
              obtain ⟨X, hX⟩ : ∃ X : World, X = X1.drewN nq := ⟨_, rfl⟩
              rw [← hX]
              replace s1 : X.cell? ⟨gE, k, none⟩ = some (.int .i64 x) := by rw [hX]; exact s1
              replace s2 : X.cell? ⟨gE, k + 1, none⟩ = some (.int .i64 y) := by rw [hX]; exact s2
              replace hbw : Hid (Below W.heap.size W X) := by show Below _ _ _; rw [hX]; exact belowN hbw.out nq
              replace f2 : X.frozen? ⟨g, m * 2 + 1, none⟩ = false := by rw [hX]; exact f2
              replace t2 : X.cell? ⟨g, m * 2 + 1, none⟩ = some (.int .i64 z2) := by rw [hX]; exact t2
              replace hO : Hid (OwnPrs 29 X W.heap.size (.slice (some ⟨g, 0, none⟩) (m + 1) c5) acc) := by show OwnPrs _ _ _ _ _; rw [hX]; exact hO.out.below (belowN (Below.refl _ X1) nq)
              clear hX
              have HO5 := Lib.hid (hO.out.set1 (k := m) (by rw [HQA.out]; omega) y)
              rw [← HST.out] at HO5
              have HB5 := Lib.hid (hbw.out.setCell (p := ⟨g, m * 2 + 1, none⟩) hg1 (.int .i64 y))
              go_wp2_with fail
              go_roundw
              case rel => exact ⟨k + 1, _, by omega, by go_num, HK2, HL2, HN2, HO5, HB5⟩
              case measure => simp [intOf]; omega
            · have HST : Hid (appS acc (x, y) = acc ++ [(x, y)]) := appS_new (fun m' hm' => by
                obtain rfl : m' = m := by have := HQA.out; omega
                rw [HZ.out]; dsimp only; omega)
              have hd1 : (z2 == x) = false := by simpa using hzx
              subst e1
              clear hzx
              go_upto_region 15 with (fail)
              go_quiet (fail)
              obtain ⟨A5, hA5⟩ : ∃ A : Option Addr, A = some ⟨g, 0, none⟩ := ⟨_, rfl⟩
              rw [← hA5] at hO ⊢
              obtain ⟨X, hX⟩ : ∃ X : World, X = X1.drewN nq := ⟨_, rfl⟩
              rw [← hX]
              replace s1 : X.cell? ⟨gE, k, none⟩ = some (.int .i64 x) := by rw [hX]; exact s1
              replace s2 : X.cell? ⟨gE, k + 1, none⟩ = some (.int .i64 y) := by rw [hX]; exact s2
              replace hbw : Hid (Below W.heap.size W X) := by show Below _ _ _; rw [hX]; exact belowN hbw.out nq
              replace hO : Hid (OwnPrs 29 X W.heap.size (.slice A5 (m + 1) c5) acc) := by show OwnPrs _ _ _ _ _; rw [hX]; exact hO.out.below (belowN (Below.refl _ X1) nq)
              clear hX
              clear hA5 t1 t2 f1 f2
              go_upto_region 17 with (fail)
              refine wp_region_text 13 (fun x9 => x9.cell? ⟨gE, k, none⟩ = some (.int .i64 x) ∧ x9.cell? ⟨gE, k + 1, none⟩ = some (.int .i64 y)) (by kernel_rfl) (by kernel_rfl) ?_
              obtain ⟨Z, hZ⟩ : ∃ Z : World, Z = X.drew := ⟨_, rfl⟩
              rw [← hZ]
              have hS : Z.cell? ⟨gE, k, none⟩ = some (.int .i64 x) ∧ Z.cell? ⟨gE, k + 1, none⟩ = some (.int .i64 y) := by rw [hZ]; exact ⟨s1, s2⟩
              have hOd : Hid (OwnPrs 29 Z W.heap.size (.slice A5 (m + 1) c5) acc) := by show OwnPrs _ _ _ _ _; rw [hZ]; exact hO.out.below ((Below.refl _ X).drew)
              have hbd : Hid (Below W.heap.size W Z) := by show Below _ _ _; rw [hZ]; exact hbw.out.drew
              have hsz9 := hbd.out.size
              have hgZ : gE < Z.heap.size := by omega
              clear hZ s1 s2
              have kw1 : IntKind.i64.wrap ((k : Int) + 1) = (k : Int) + 1 := IntWalk.i64_in _ (by omega)
              have kw2 : (0 : Int) ≤ (k : Int) + 1 := by omega
              have kw3 : ((k : Int) + 1).toNat = k + 1 := by omega
              refine HT.take (i := 0) (oi := _) (v := ?_) rfl (by kernel_rfl) (by kernel_rfl) (by decide) (fun _ _ _ h => h) (Or.inl ⟨by rfl, ?_⟩) hS ?_
              rotate_left
              · intro wz
                go_simp
                try with_reducible rfl
              simp only [List.getElem_toArray, List.getElem_cons_succ, List.getElem_cons_zero, Act.put, List.setIfInBounds_toArray, List.set_cons_zero, List.set_cons_succ]
              refine HT.take (i := 1) (oi := _) (v := ?_) rfl (by kernel_rfl) (by kernel_rfl) (by decide) (fun _ _ _ h => h) (Or.inl ⟨by rfl, ?_⟩) hS ?_
              rotate_left
              · intro wz
                go_simp
                try with_reducible rfl
              simp only [List.getElem_toArray, List.getElem_cons_succ, List.getElem_cons_zero, Act.put, List.setIfInBounds_toArray, List.set_cons_zero, List.set_cons_succ]
              refine HT.take (i := 2) (oi := _) (v := ?_) rfl (by kernel_rfl) (by kernel_rfl) (by decide) (fun _ _ _ h => h) (Or.inl ⟨by rfl, ?_⟩) hS ?_
              rotate_left
              · intro wz
                go_simp
                try with_reducible rfl
              simp only [List.getElem_toArray, List.getElem_cons_succ, List.getElem_cons_zero, Act.put, List.setIfInBounds_toArray, List.set_cons_zero, List.set_cons_succ]
              refine HT.take (i := 3) (oi := _) (v := ?_) rfl (by kernel_rfl) (by kernel_rfl) (by decide) (fun _ _ _ h => h) (Or.inl ⟨by rfl, ?_⟩) hS ?_
              rotate_left
              · intro wz
                go_simp
                try with_reducible rfl
              simp only [List.getElem_toArray, List.getElem_cons_succ, List.getElem_cons_zero, Act.put, List.setIfInBounds_toArray, List.set_cons_zero, List.set_cons_succ]
              refine HT.load (i := 4) (oi := _) (v := ?_) rfl (by kernel_rfl) (by kernel_rfl) (by decide) (fun _ _ _ h => h) (by kernel_rfl) (Or.inl ⟨by rfl, ?_⟩) hS ?_
              rotate_left
              · intro wz hwz
                try dsimp only at hwz
                go_simp
                try with_reducible rfl
              simp only [List.getElem_toArray, List.getElem_cons_succ, List.getElem_cons_zero, Act.put, List.setIfInBounds_toArray, List.set_cons_zero, List.set_cons_succ]
              refine HT.take (i := 5) (oi := _) (v := ?_) rfl (by kernel_rfl) (by kernel_rfl) (by decide) (fun _ _ _ h => h) (Or.inl ⟨by rfl, ?_⟩) hS ?_
              rotate_left
              · intro wz
                go_simp
                try with_reducible rfl
              simp only [List.getElem_toArray, List.getElem_cons_succ, List.getElem_cons_zero, Act.put, List.setIfInBounds_toArray, List.set_cons_zero, List.set_cons_succ]
              refine HT.take (i := 6) (oi := _) (v := ?_) rfl (by kernel_rfl) (by kernel_rfl) (by decide) (fun _ _ _ h => h) (Or.inl ⟨by rfl, ?_⟩) hS ?_
              rotate_left
              · intro wz
                go_simp
                try with_reducible rfl
              simp only [List.getElem_toArray, List.getElem_cons_succ, List.getElem_cons_zero, Act.put, List.setIfInBounds_toArray, List.set_cons_zero, List.set_cons_succ]
              refine HT.take (i := 7) (oi := _) (v := ?_) rfl (by kernel_rfl) (by kernel_rfl) (by decide) (fun _ _ _ h => h) (Or.inl ⟨by rfl, ?_⟩) hS ?_
              rotate_left
              · intro wz
                go_simp
                try with_reducible rfl
              simp only [List.getElem_toArray, List.getElem_cons_succ, List.getElem_cons_zero, Act.put, List.setIfInBounds_toArray, List.set_cons_zero, List.set_cons_succ]
              refine HT.take (i := 8) (oi := _) (v := ?_) rfl (by kernel_rfl) (by kernel_rfl) (by decide) (fun _ _ _ h => h) (Or.inl ⟨by rfl, ?_⟩) hS ?_
              rotate_left
              · intro wz
                go_simp
                try with_reducible rfl
              simp only [List.getElem_toArray, List.getElem_cons_succ, List.getElem_cons_zero, Act.put, List.setIfInBounds_toArray, List.set_cons_zero, List.set_cons_succ]
              refine HT.load (i := 9) (oi := _) (v := ?_) rfl (by kernel_rfl) (by kernel_rfl) (by decide) (fun _ _ _ h => h) (by kernel_rfl) (Or.inl ⟨by rfl, ?_⟩) hS ?_
              rotate_left
              · intro wz hwz
                try dsimp only at hwz
                go_simp
                try with_reducible rfl
              simp only [List.getElem_toArray, List.getElem_cons_succ, List.getElem_cons_zero, Act.put, List.setIfInBounds_toArray, List.set_cons_zero, List.set_cons_succ]
              clear kw1 kw2 kw3
              refine HT.take (i := 10) (oi := _) (v := ?_) rfl (by kernel_rfl) (by kernel_rfl) (by decide) (fun _ _ _ h => h) (Or.inl ⟨by rfl, ?_⟩) hS ?_
              rotate_left
              · intro wz
                go_simp
                try with_reducible rfl
              simp only [List.getElem_toArray, List.getElem_cons_succ, List.getElem_cons_zero, Act.put, List.setIfInBounds_toArray, List.set_cons_zero, List.set_cons_succ]
              have hSZ := hS
              refine HT.one (i := 11) (o := _) rfl (by kernel_rfl) (by decide) (by rfl) ?_
              intro K hK
              go_simp
              have hS2 : (Z.alloc (.cells #[.int .i64 x, .int .i64 y] 29)).cell? ⟨gE, k, none⟩ = some (.int .i64 x) ∧ (Z.alloc (.cells #[.int .i64 x, .int .i64 y] 29)).cell? ⟨gE, k + 1, none⟩ = some (.int .i64 y) := ⟨(World.cell?_alloc_lt Z _ _ hgZ).trans hS.1, (World.cell?_alloc_lt Z _ _ hgZ).trans hS.2⟩
              refine hK.out _ _ hS2 ?_
              clear hK K hS
              have hS := hS2
              clear hS2
              try simp only [List.getElem_toArray, List.getElem_cons_succ, List.getElem_cons_zero, Act.put, List.setIfInBounds_toArray, List.set_cons_zero, List.set_cons_succ]
              refine HT.one (i := 12) (o := _) rfl (by kernel_rfl) (by decide) (by rfl) ?_
              intro K hK
              refine wp_push_span (.tmp 108) (.tmp 119) (by rfl) W.heap.size A5 (m + 1) c5 acc x y Z.heap.size rfl (by rfl) (by rfl) hOd.out (by omega) hsz9 ?_
              intro g5 cap5 w5 hown5 hb5
              have hS2 : w5.cell? ⟨gE, k, none⟩ = some (.int .i64 x) ∧ w5.cell? ⟨gE, k + 1, none⟩ = some (.int .i64 y) := ⟨(hb5.cell (p := ⟨gE, k, none⟩) HGE.out).trans hSZ.1, (hb5.cell (p := ⟨gE, k + 1, none⟩) HGE.out).trans hSZ.2⟩
              refine hK.out _ _ hS2 ?_
              clear hK K hS hSZ
              have hS := hS2
              clear hS2
              try simp only [List.getElem_toArray, List.getElem_cons_succ, List.getElem_cons_zero, Act.put, List.setIfInBounds_toArray, List.set_cons_zero, List.set_cons_succ]
              refine HT.done (by kernel_rfl) ?_
              clear hS
              simp only [List.drop_succ_cons, List.drop_zero]
              go_wp2_with (fail)
              have HB5 := Lib.hid (hbd.out.trans hb5)
              rw [← HST.out] at hown5
              have HO5 := Lib.hid hown5
              clear hown5 hb5
              go_roundw
              case rel => exact ⟨k + 1, _, by omega, by go_num, HK2, HL2, HN2, HO5, HB5⟩
              case measure => simp [intOf]; omega
        | false =>
          have HK2 := Lib.hid (swp_kept HKE.out HK.out HX.out HY.out ((swF_at HP.out HQ.out).trans rfl))
          have HL2 := Lib.hid (low_kept HEI.out HL.out HKE.out HX.out HY.out)
          have HN2 : Hid ((appS acc (x, y)).length ≤ k + 1) := by show _ ≤ _; have := appS_len acc (x, y); have := HN.out; omega
          rcases Nat.eq_zero_or_pos qa with h0 | hpos
          · have HST : Hid (appS acc (x, y) = acc ++ [(x, y)]) := appS_new (fun m hm => by have := HQA.out; omega)
            subst h0
            go_upto_region 15 with (fail)
            go_quiet (fail)
            obtain ⟨X, hX⟩ : ∃ X : World, X = X1.drewN nq := ⟨_, rfl⟩
            rw [← hX]
            replace s1 : X.cell? ⟨gE, k, none⟩ = some (.int .i64 x) := by rw [hX]; exact s1
            replace s2 : X.cell? ⟨gE, k + 1, none⟩ = some (.int .i64 y) := by rw [hX]; exact s2
            replace hbw : Hid (Below W.heap.size W X) := by show Below _ _ _; rw [hX]; exact belowN hbw.out nq
            replace hO : Hid (OwnPrs 29 X W.heap.size (.slice A5 0 c5) acc) := by show OwnPrs _ _ _ _ _; rw [hX]; exact hO.out.below (belowN (Below.refl _ X1) nq)
            clear hX
            go_upto_region 17 with (fail)
            refine wp_region_text 13 (fun x9 => x9.cell? ⟨gE, k, none⟩ = some (.int .i64 x) ∧ x9.cell? ⟨gE, k + 1, none⟩ = some (.int .i64 y)) (by kernel_rfl) (by kernel_rfl) ?_
            obtain ⟨Z, hZ⟩ : ∃ Z : World, Z = X.drew := ⟨_, rfl⟩
            rw [← hZ]
            have hS : Z.cell? ⟨gE, k, none⟩ = some (.int .i64 x) ∧ Z.cell? ⟨gE, k + 1, none⟩ = some (.int .i64 y) := by rw [hZ]; exact ⟨s1, s2⟩
            have hOd : Hid (OwnPrs 29 Z W.heap.size (.slice A5 0 c5) acc) := by show OwnPrs _ _ _ _ _; rw [hZ]; exact hO.out.below ((Below.refl _ X).drew)
            have hbd : Hid (Below W.heap.size W Z) := by show Below _ _ _; rw [hZ]; exact hbw.out.drew
            have hsz9 := hbd.out.size
            have hgZ : gE < Z.heap.size := by omega
            clear hZ s1 s2
            have kw1 : IntKind.i64.wrap ((k : Int) + 1) = (k : Int) + 1 := IntWalk.i64_in _ (by omega)
            have kw2 : (0 : Int) ≤ (k : Int) + 1 := by omega
            have kw3 : ((k : Int) + 1).toNat = k + 1 := by omega
            refine HT.take (i := 0) (oi := _) (v := ?_) rfl (by kernel_rfl) (by kernel_rfl) (by decide) (fun _ _ _ h => h) (Or.inl ⟨by rfl, ?_⟩) hS ?_
            rotate_left
            · intro wz
              go_simp
              try with_reducible rfl
            simp only [List.getElem_toArray, List.getElem_cons_succ, List.getElem_cons_zero, Act.put, List.setIfInBounds_toArray, List.set_cons_zero, List.set_cons_succ]
            refine HT.take (i := 1) (oi := _) (v := ?_) rfl (by kernel_rfl) (by kernel_rfl) (by decide) (fun _ _ _ h => h) (Or.inl ⟨by rfl, ?_⟩) hS ?_
            rotate_left
            · intro wz
              go_simp
              try with_reducible rfl
            simp only [List.getElem_toArray, List.getElem_cons_succ, List.getElem_cons_zero, Act.put, List.setIfInBounds_toArray, List.set_cons_zero, List.set_cons_succ]
            refine HT.take (i := 2) (oi := _) (v := ?_) rfl (by kernel_rfl) (by kernel_rfl) (by decide) (fun _ _ _ h => h) (Or.inl ⟨by rfl, ?_⟩) hS ?_
            rotate_left
            · intro wz
              go_simp
              try with_reducible rfl
            simp only [List.getElem_toArray, List.getElem_cons_succ, List.getElem_cons_zero, Act.put, List.setIfInBounds_toArray, List.set_cons_zero, List.set_cons_succ]
            refine HT.take (i := 3) (oi := _) (v := ?_) rfl (by kernel_rfl) (by kernel_rfl) (by decide) (fun _ _ _ h => h) (Or.inl ⟨by rfl, ?_⟩) hS ?_
            rotate_left
            · intro wz
              go_simp
              try with_reducible rfl
            simp only [List.getElem_toArray, List.getElem_cons_succ, List.getElem_cons_zero, Act.put, List.setIfInBounds_toArray, List.set_cons_zero, List.set_cons_succ]
            refine HT.load (i := 4) (oi := _) (v := ?_) rfl (by kernel_rfl) (by kernel_rfl) (by decide) (fun _ _ _ h => h) (by kernel_rfl) (Or.inl ⟨by rfl, ?_⟩) hS ?_
            rotate_left
            · intro wz hwz
              try dsimp only at hwz
              go_simp
              try with_reducible rfl
            simp only [List.getElem_toArray, List.getElem_cons_succ, List.getElem_cons_zero, Act.put, List.setIfInBounds_toArray, List.set_cons_zero, List.set_cons_succ]
            refine HT.take (i := 5) (oi := _) (v := ?_) rfl (by kernel_rfl) (by kernel_rfl) (by decide) (fun _ _ _ h => h) (Or.inl ⟨by rfl, ?_⟩) hS ?_
            rotate_left
            · intro wz
              go_simp
              try with_reducible rfl
            simp only [List.getElem_toArray, List.getElem_cons_succ, List.getElem_cons_zero, Act.put, List.setIfInBounds_toArray, List.set_cons_zero, List.set_cons_succ]
            refine HT.take (i := 6) (oi := _) (v := ?_) rfl (by kernel_rfl) (by kernel_rfl) (by decide) (fun _ _ _ h => h) (Or.inl ⟨by rfl, ?_⟩) hS ?_
            rotate_left
            · intro wz
              go_simp
              try with_reducible rfl
            simp only [List.getElem_toArray, List.getElem_cons_succ, List.getElem_cons_zero, Act.put, List.setIfInBounds_toArray, List.set_cons_zero, List.set_cons_succ]
            refine HT.take (i := 7) (oi := _) (v := ?_) rfl (by kernel_rfl) (by kernel_rfl) (by decide) (fun _ _ _ h => h) (Or.inl ⟨by rfl, ?_⟩) hS ?_
            rotate_left
            · intro wz
              go_simp
              try with_reducible rfl
            simp only [List.getElem_toArray, List.getElem_cons_succ, List.getElem_cons_zero, Act.put, List.setIfInBounds_toArray, List.set_cons_zero, List.set_cons_succ]
            refine HT.take (i := 8) (oi := _) (v := ?_) rfl (by kernel_rfl) (by kernel_rfl) (by decide) (fun _ _ _ h => h) (Or.inl ⟨by rfl, ?_⟩) hS ?_
            rotate_left
            · intro wz
              go_simp
              try with_reducible rfl
            simp only [List.getElem_toArray, List.getElem_cons_succ, List.getElem_cons_zero, Act.put, List.setIfInBounds_toArray, List.set_cons_zero, List.set_cons_succ]
            refine HT.load (i := 9) (oi := _) (v := ?_) rfl (by kernel_rfl) (by kernel_rfl) (by decide) (fun _ _ _ h => h) (by kernel_rfl) (Or.inl ⟨by rfl, ?_⟩) hS ?_
            rotate_left
            · intro wz hwz
              try dsimp only at hwz
              go_simp
              try with_reducible rfl
            simp only [List.getElem_toArray, List.getElem_cons_succ, List.getElem_cons_zero, Act.put, List.setIfInBounds_toArray, List.set_cons_zero, List.set_cons_succ]
            clear kw1 kw2 kw3
            refine HT.take (i := 10) (oi := _) (v := ?_) rfl (by kernel_rfl) (by kernel_rfl) (by decide) (fun _ _ _ h => h) (Or.inl ⟨by rfl, ?_⟩) hS ?_
            rotate_left
            · intro wz
              go_simp
              try with_reducible rfl
            simp only [List.getElem_toArray, List.getElem_cons_succ, List.getElem_cons_zero, Act.put, List.setIfInBounds_toArray, List.set_cons_zero, List.set_cons_succ]
            have hSZ := hS
            refine HT.one (i := 11) (o := _) rfl (by kernel_rfl) (by decide) (by rfl) ?_
            intro K hK
            go_simp
            have hS2 : (Z.alloc (.cells #[.int .i64 x, .int .i64 y] 29)).cell? ⟨gE, k, none⟩ = some (.int .i64 x) ∧ (Z.alloc (.cells #[.int .i64 x, .int .i64 y] 29)).cell? ⟨gE, k + 1, none⟩ = some (.int .i64 y) := ⟨(World.cell?_alloc_lt Z _ _ hgZ).trans hS.1, (World.cell?_alloc_lt Z _ _ hgZ).trans hS.2⟩
            refine hK.out _ _ hS2 ?_
            clear hK K hS
            have hS := hS2
            clear hS2
            try simp only [List.getElem_toArray, List.getElem_cons_succ, List.getElem_cons_zero, Act.put, List.setIfInBounds_toArray, List.set_cons_zero, List.set_cons_succ]
            refine HT.one (i := 12) (o := _) rfl (by kernel_rfl) (by decide) (by rfl) ?_
            intro K hK
            refine wp_push_span (.tmp 108) (.tmp 119) (by rfl) W.heap.size A5 0 c5 acc x y Z.heap.size rfl (by rfl) (by rfl) hOd.out (by omega) hsz9 ?_
            intro g5 cap5 w5 hown5 hb5
            have hS2 : w5.cell? ⟨gE, k, none⟩ = some (.int .i64 x) ∧ w5.cell? ⟨gE, k + 1, none⟩ = some (.int .i64 y) := ⟨(hb5.cell (p := ⟨gE, k, none⟩) HGE.out).trans hSZ.1, (hb5.cell (p := ⟨gE, k + 1, none⟩) HGE.out).trans hSZ.2⟩
            refine hK.out _ _ hS2 ?_
            clear hK K hS hSZ
            have hS := hS2
            clear hS2
            try simp only [List.getElem_toArray, List.getElem_cons_succ, List.getElem_cons_zero, Act.put, List.setIfInBounds_toArray, List.set_cons_zero, List.set_cons_succ]
            refine HT.done (by kernel_rfl) ?_
            clear hS
            simp only [List.drop_succ_cons, List.drop_zero]
            go_wp2_with (fail)
            have HB5 := Lib.hid (hbd.out.trans hb5)
            rw [← HST.out] at hown5
            have HO5 := Lib.hid hown5
            clear hown5 hb5
            go_roundw
            case rel => exact ⟨k + 1, _, by omega, by go_num, HK2, HL2, HN2, HO5, HB5⟩
            case measure => simp [intOf]; omega
          · obtain ⟨m, rfl⟩ : ∃ m, qa = m + 1 := ⟨qa - 1, by omega⟩
            obtain ⟨g, cap, hv, hg1, hg2, _, _, hcl⟩ := hO.out.slot (by have := HQA.out; omega)
            injection hv with e1 e2 e3
            obtain ⟨⟨t1, t2⟩, f1, f2⟩ := hcl m (by have := HQA.out; omega)
            obtain ⟨z, hz⟩ : ∃ z, prOf acc m = z := ⟨_, rfl⟩
            obtain ⟨z1, z2⟩ := z
            have HZ := Lib.hid hz
            rw [hz] at t1 t2
            dsimp only at t1 t2
            have hzl : z2 ≤ x := last_low HQA.out HZ.out (by rw [← HX.out]; exact HL.out (by have := HKE.out; omega))
            have hm0 : (0 : Int) ≤ (m : Int) := by omega
            have hmn : (m : Int) < (m : Int) + 1 := by omega
            have hmw : IntKind.i64.wrap (m : Int) = (m : Int) := IntWalk.i64_in _ (by omega)
            have hne : gE ≠ g := by have := HGE.out; omega
            subst e3
            clear hcl hz hpos e2
            by_cases hzx : z2 = x
            · have HST : Hid (appS acc (x, y) = acc.set m ((prOf acc m).1, y)) := by
                have h := HZ.out
                rw [hzx] at h
                exact appS_touch HQA.out h hxy
              have hd1 : (z2 == x) = true := by simpa using hzx
              subst e1
              clear hzx
              go_upto_region 15 with (fail)
              go_quiet (fail)
              obtain ⟨X, hX⟩ : ∃ X : World, X = X1.drewN nq := ⟨_, rfl⟩
              rw [← hX]
              replace s1 : X.cell? ⟨gE, k, none⟩ = some (.int .i64 x) := by rw [hX]; exact s1
              replace s2 : X.cell? ⟨gE, k + 1, none⟩ = some (.int .i64 y) := by rw [hX]; exact s2
              replace hbw : Hid (Below W.heap.size W X) := by show Below _ _ _; rw [hX]; exact belowN hbw.out nq
              replace f2 : X.frozen? ⟨g, m * 2 + 1, none⟩ = false := by rw [hX]; exact f2
              replace t2 : X.cell? ⟨g, m * 2 + 1, none⟩ = some (.int .i64 z2) := by rw [hX]; exact t2
              replace hO : Hid (OwnPrs 29 X W.heap.size (.slice (some ⟨g, 0, none⟩) (m + 1) c5) acc) := by show OwnPrs _ _ _ _ _; rw [hX]; exact hO.out.below (belowN (Below.refl _ X1) nq)
              clear hX
              have HO5 := Lib.hid (hO.out.set1 (k := m) (by rw [HQA.out]; omega) y)
              rw [← HST.out] at HO5
              have HB5 := Lib.hid (hbw.out.setCell (p := ⟨g, m * 2 + 1, none⟩) hg1 (.int .i64 y))
              go_wp2_with fail
              go_roundw
              case rel => exact ⟨k + 1, _, by omega, by go_num, HK2, HL2, HN2, HO5, HB5⟩
              case measure => simp [intOf]; omega
            · have HST : Hid (appS acc (x, y) = acc ++ [(x, y)]) := appS_new (fun m' hm' => by
                obtain rfl : m' = m := by have := HQA.out; omega
                rw [HZ.out]; dsimp only; omega)
              have hd1 : (z2 == x) = false := by simpa using hzx
              subst e1
              clear hzx
              go_upto_region 15 with (fail)
              go_quiet (fail)
              obtain ⟨A5, hA5⟩ : ∃ A : Option Addr, A = some ⟨g, 0, none⟩ := ⟨_, rfl⟩
              rw [← hA5] at hO ⊢
              obtain ⟨X, hX⟩ : ∃ X : World, X = X1.drewN nq := ⟨_, rfl⟩
              rw [← hX]
              replace s1 : X.cell? ⟨gE, k, none⟩ = some (.int .i64 x) := by rw [hX]; exact s1
              replace s2 : X.cell? ⟨gE, k + 1, none⟩ = some (.int .i64 y) := by rw [hX]; exact s2
              replace hbw : Hid (Below W.heap.size W X) := by show Below _ _ _; rw [hX]; exact belowN hbw.out nq
              replace hO : Hid (OwnPrs 29 X W.heap.size (.slice A5 (m + 1) c5) acc) := by show OwnPrs _ _ _ _ _; rw [hX]; exact hO.out.below (belowN (Below.refl _ X1) nq)
              clear hX
              clear hA5 t1 t2 f1 f2
              go_upto_region 17 with (fail)
              refine wp_region_text 13 (fun x9 => x9.cell? ⟨gE, k, none⟩ = some (.int .i64 x) ∧ x9.cell? ⟨gE, k + 1, none⟩ = some (.int .i64 y)) (by kernel_rfl) (by kernel_rfl) ?_
              obtain ⟨Z, hZ⟩ : ∃ Z : World, Z = X.drew := ⟨_, rfl⟩
              rw [← hZ]
              have hS : Z.cell? ⟨gE, k, none⟩ = some (.int .i64 x) ∧ Z.cell? ⟨gE, k + 1, none⟩ = some (.int .i64 y) := by rw [hZ]; exact ⟨s1, s2⟩
              have hOd : Hid (OwnPrs 29 Z W.heap.size (.slice A5 (m + 1) c5) acc) := by show OwnPrs _ _ _ _ _; rw [hZ]; exact hO.out.below ((Below.refl _ X).drew)
              have hbd : Hid (Below W.heap.size W Z) := by show Below _ _ _; rw [hZ]; exact hbw.out.drew
              have hsz9 := hbd.out.size
              have hgZ : gE < Z.heap.size := by omega
              clear hZ s1 s2
              have kw1 : IntKind.i64.wrap ((k : Int) + 1) = (k : Int) + 1 := IntWalk.i64_in _ (by omega)
              have kw2 : (0 : Int) ≤ (k : Int) + 1 := by omega
              have kw3 : ((k : Int) + 1).toNat = k + 1 := by omega
              refine HT.take (i := 0) (oi := _) (v := ?_) rfl (by kernel_rfl) (by kernel_rfl) (by decide) (fun _ _ _ h => h) (Or.inl ⟨by rfl, ?_⟩) hS ?_
              rotate_left
              · intro wz
                go_simp
                try with_reducible rfl
              simp only [List.getElem_toArray, List.getElem_cons_succ, List.getElem_cons_zero, Act.put, List.setIfInBounds_toArray, List.set_cons_zero, List.set_cons_succ]
              refine HT.take (i := 1) (oi := _) (v := ?_) rfl (by kernel_rfl) (by kernel_rfl) (by decide) (fun _ _ _ h => h) (Or.inl ⟨by rfl, ?_⟩) hS ?_
              rotate_left
              · intro wz
                go_simp
                try with_reducible rfl
              simp only [List.getElem_toArray, List.getElem_cons_succ, List.getElem_cons_zero, Act.put, List.setIfInBounds_toArray, List.set_cons_zero, List.set_cons_succ]
              refine HT.take (i := 2) (oi := _) (v := ?_) rfl (by kernel_rfl) (by kernel_rfl) (by decide) (fun _ _ _ h => h) (Or.inl ⟨by rfl, ?_⟩) hS ?_
              rotate_left
              · intro wz
                go_simp
                try with_reducible rfl
              simp only [List.getElem_toArray, List.getElem_cons_succ, List.getElem_cons_zero, Act.put, List.setIfInBounds_toArray, List.set_cons_zero, List.set_cons_succ]
              refine HT.take (i := 3) (oi := _) (v := ?_) rfl (by kernel_rfl) (by kernel_rfl) (by decide) (fun _ _ _ h => h) (Or.inl ⟨by rfl, ?_⟩) hS ?_
              rotate_left
              · intro wz
                go_simp
                try with_reducible rfl
              simp only [List.getElem_toArray, List.getElem_cons_succ, List.getElem_cons_zero, Act.put, List.setIfInBounds_toArray, List.set_cons_zero, List.set_cons_succ]
              refine HT.load (i := 4) (oi := _) (v := ?_) rfl (by kernel_rfl) (by kernel_rfl) (by decide) (fun _ _ _ h => h) (by kernel_rfl) (Or.inl ⟨by rfl, ?_⟩) hS ?_
              rotate_left
              · intro wz hwz
                try dsimp only at hwz
                go_simp
                try with_reducible rfl
              simp only [List.getElem_toArray, List.getElem_cons_succ, List.getElem_cons_zero, Act.put, List.setIfInBounds_toArray, List.set_cons_zero, List.set_cons_succ]
              refine HT.take (i := 5) (oi := _) (v := ?_) rfl (by kernel_rfl) (by kernel_rfl) (by decide) (fun _ _ _ h => h) (Or.inl ⟨by rfl, ?_⟩) hS ?_
              rotate_left
              · intro wz
                go_simp
                try with_reducible rfl
              simp only [List.getElem_toArray, List.getElem_cons_succ, List.getElem_cons_zero, Act.put, List.setIfInBounds_toArray, List.set_cons_zero, List.set_cons_succ]
              refine HT.take (i := 6) (oi := _) (v := ?_) rfl (by kernel_rfl) (by kernel_rfl) (by decide) (fun _ _ _ h => h) (Or.inl ⟨by rfl, ?_⟩) hS ?_
              rotate_left
              · intro wz
                go_simp
                try with_reducible rfl
              simp only [List.getElem_toArray, List.getElem_cons_succ, List.getElem_cons_zero, Act.put, List.setIfInBounds_toArray, List.set_cons_zero, List.set_cons_succ]
              refine HT.take (i := 7) (oi := _) (v := ?_) rfl (by kernel_rfl) (by kernel_rfl) (by decide) (fun _ _ _ h => h) (Or.inl ⟨by rfl, ?_⟩) hS ?_
              rotate_left
              · intro wz
                go_simp
                try with_reducible rfl
              simp only [List.getElem_toArray, List.getElem_cons_succ, List.getElem_cons_zero, Act.put, List.setIfInBounds_toArray, List.set_cons_zero, List.set_cons_succ]
              refine HT.take (i := 8) (oi := _) (v := ?_) rfl (by kernel_rfl) (by kernel_rfl) (by decide) (fun _ _ _ h => h) (Or.inl ⟨by rfl, ?_⟩) hS ?_
              rotate_left
              · intro wz
                go_simp
                try with_reducible rfl
              simp only [List.getElem_toArray, List.getElem_cons_succ, List.getElem_cons_zero, Act.put, List.setIfInBounds_toArray, List.set_cons_zero, List.set_cons_succ]
              refine HT.load (i := 9) (oi := _) (v := ?_) rfl (by kernel_rfl) (by kernel_rfl) (by decide) (fun _ _ _ h => h) (by kernel_rfl) (Or.inl ⟨by rfl, ?_⟩) hS ?_
              rotate_left
              · intro wz hwz
                try dsimp only at hwz
                go_simp
                try with_reducible rfl
              simp only [List.getElem_toArray, List.getElem_cons_succ, List.getElem_cons_zero, Act.put, List.setIfInBounds_toArray, List.set_cons_zero, List.set_cons_succ]
              clear kw1 kw2 kw3
              refine HT.take (i := 10) (oi := _) (v := ?_) rfl (by kernel_rfl) (by kernel_rfl) (by decide) (fun _ _ _ h => h) (Or.inl ⟨by rfl, ?_⟩) hS ?_
              rotate_left
              · intro wz
                go_simp
                try with_reducible rfl
              simp only [List.getElem_toArray, List.getElem_cons_succ, List.getElem_cons_zero, Act.put, List.setIfInBounds_toArray, List.set_cons_zero, List.set_cons_succ]
              have hSZ := hS
              refine HT.one (i := 11) (o := _) rfl (by kernel_rfl) (by decide) (by rfl) ?_
              intro K hK
              go_simp
              have hS2 : (Z.alloc (.cells #[.int .i64 x, .int .i64 y] 29)).cell? ⟨gE, k, none⟩ = some (.int .i64 x) ∧ (Z.alloc (.cells #[.int .i64 x, .int .i64 y] 29)).cell? ⟨gE, k + 1, none⟩ = some (.int .i64 y) := ⟨(World.cell?_alloc_lt Z _ _ hgZ).trans hS.1, (World.cell?_alloc_lt Z _ _ hgZ).trans hS.2⟩
              refine hK.out _ _ hS2 ?_
              clear hK K hS
              have hS := hS2
              clear hS2
              try simp only [List.getElem_toArray, List.getElem_cons_succ, List.getElem_cons_zero, Act.put, List.setIfInBounds_toArray, List.set_cons_zero, List.set_cons_succ]
              refine HT.one (i := 12) (o := _) rfl (by kernel_rfl) (by decide) (by rfl) ?_
              intro K hK
              refine wp_push_span (.tmp 108) (.tmp 119) (by rfl) W.heap.size A5 (m + 1) c5 acc x y Z.heap.size rfl (by rfl) (by rfl) hOd.out (by omega) hsz9 ?_
              intro g5 cap5 w5 hown5 hb5
              have hS2 : w5.cell? ⟨gE, k, none⟩ = some (.int .i64 x) ∧ w5.cell? ⟨gE, k + 1, none⟩ = some (.int .i64 y) := ⟨(hb5.cell (p := ⟨gE, k, none⟩) HGE.out).trans hSZ.1, (hb5.cell (p := ⟨gE, k + 1, none⟩) HGE.out).trans hSZ.2⟩
              refine hK.out _ _ hS2 ?_
              clear hK K hS hSZ
              have hS := hS2
              clear hS2
              try simp only [List.getElem_toArray, List.getElem_cons_succ, List.getElem_cons_zero, Act.put, List.setIfInBounds_toArray, List.set_cons_zero, List.set_cons_succ]
              refine HT.done (by kernel_rfl) ?_
              clear hS
              simp only [List.drop_succ_cons, List.drop_zero]
              go_wp2_with (fail)
              have HB5 := Lib.hid (hbd.out.trans hb5)
              rw [← HST.out] at hown5
              have HO5 := Lib.hid hown5
              clear hown5 hb5
              go_roundw
              case rel => exact ⟨k + 1, _, by omega, by go_num, HK2, HL2, HN2, HO5, HB5⟩
              case measure => simp [intOf]; omega
      | false =>
        cases q with
        | true =>
          have HK2 := Lib.hid (swp_kept HKE.out HK.out HX.out HY.out ((swF_at HP.out HQ.out).trans rfl))
          have HL2 := Lib.hid (low_kept HEI.out HL.out HKE.out HX.out HY.out)
          have HN2 : Hid ((appS acc (x, y)).length ≤ k + 1) := by show _ ≤ _; have := appS_len acc (x, y); have := HN.out; omega
          rcases Nat.eq_zero_or_pos qa with h0 | hpos
          · have HST : Hid (appS acc (x, y) = acc ++ [(x, y)]) := appS_new (fun m hm => by have := HQA.out; omega)
            subst h0
            go_upto_region 15 with (fail)
            go_quiet (fail)
            obtain ⟨X, hX⟩ : ∃ X : World, X = X1.drewN nq := ⟨_, rfl⟩
            rw [← hX]
            replace s1 : X.cell? ⟨gE, k, none⟩ = some (.int .i64 x) := by rw [hX]; exact s1
            replace s2 : X.cell? ⟨gE, k + 1, none⟩ = some (.int .i64 y) := by rw [hX]; exact s2
            replace hbw : Hid (Below W.heap.size W X) := by show Below _ _ _; rw [hX]; exact belowN hbw.out nq
            replace hO : Hid (OwnPrs 29 X W.heap.size (.slice A5 0 c5) acc) := by show OwnPrs _ _ _ _ _; rw [hX]; exact hO.out.below (belowN (Below.refl _ X1) nq)
            clear hX
            go_upto_region 17 with (fail)
            refine wp_region_text 13 (fun x9 => x9.cell? ⟨gE, k, none⟩ = some (.int .i64 x) ∧ x9.cell? ⟨gE, k + 1, none⟩ = some (.int .i64 y)) (by kernel_rfl) (by kernel_rfl) ?_
            obtain ⟨Z, hZ⟩ : ∃ Z : World, Z = X.drew := ⟨_, rfl⟩
            rw [← hZ]
            have hS : Z.cell? ⟨gE, k, none⟩ = some (.int .i64 x) ∧ Z.cell? ⟨gE, k + 1, none⟩ = some (.int .i64 y) := by rw [hZ]; exact ⟨s1, s2⟩
            have hOd : Hid (OwnPrs 29 Z W.heap.size (.slice A5 0 c5) acc) := by show OwnPrs _ _ _ _ _; rw [hZ]; exact hO.out.below ((Below.refl _ X).drew)
            have hbd : Hid (Below W.heap.size W Z) := by show Below _ _ _; rw [hZ]; exact hbw.out.drew
            have hsz9 := hbd.out.size
            have hgZ : gE < Z.heap.size := by omega
            clear hZ s1 s2
            have kw1 : IntKind.i64.wrap ((k : Int) + 1) = (k : Int) + 1 := IntWalk.i64_in _ (by omega)
            have kw2 : (0 : Int) ≤ (k : Int) + 1 := by omega
            have kw3 : ((k : Int) + 1).toNat = k + 1 := by omega
            refine HT.take (i := 0) (oi := _) (v := ?_) rfl (by kernel_rfl) (by kernel_rfl) (by decide) (fun _ _ _ h => h) (Or.inl ⟨by rfl, ?_⟩) hS ?_
            rotate_left
            · intro wz
              go_simp
              try with_reducible rfl
            simp only [List.getElem_toArray, List.getElem_cons_succ, List.getElem_cons_zero, Act.put, List.setIfInBounds_toArray, List.set_cons_zero, List.set_cons_succ]
            refine HT.take (i := 1) (oi := _) (v := ?_) rfl (by kernel_rfl) (by kernel_rfl) (by decide) (fun _ _ _ h => h) (Or.inl ⟨by rfl, ?_⟩) hS ?_
            rotate_left
            · intro wz
              go_simp
              try with_reducible rfl
            simp only [List.getElem_toArray, List.getElem_cons_succ, List.getElem_cons_zero, Act.put, List.setIfInBounds_toArray, List.set_cons_zero, List.set_cons_succ]
            refine HT.take (i := 2) (oi := _) (v := ?_) rfl (by kernel_rfl) (by kernel_rfl) (by decide) (fun _ _ _ h => h) (Or.inl ⟨by rfl, ?_⟩) hS ?_
            rotate_left
            · intro wz
              go_simp
              try with_reducible rfl
            simp only [List.getElem_toArray, List.getElem_cons_succ, List.getElem_cons_zero, Act.put, List.setIfInBounds_toArray, List.set_cons_zero, List.set_cons_succ]
            refine HT.take (i := 3) (oi := _) (v := ?_) rfl (by kernel_rfl) (by kernel_rfl) (by decide) (fun _ _ _ h => h) (Or.inl ⟨by rfl, ?_⟩) hS ?_
            rotate_left
            · intro wz
              go_simp
              try with_reducible rfl
            simp only [List.getElem_toArray, List.getElem_cons_succ, List.getElem_cons_zero, Act.put, List.setIfInBounds_toArray, List.set_cons_zero, List.set_cons_succ]
            refine HT.load (i := 4) (oi := _) (v := ?_) rfl (by kernel_rfl) (by kernel_rfl) (by decide) (fun _ _ _ h => h) (by kernel_rfl) (Or.inl ⟨by rfl, ?_⟩) hS ?_
            rotate_left
            · intro wz hwz
              try dsimp only at hwz
              go_simp
              try with_reducible rfl
            simp only [List.getElem_toArray, List.getElem_cons_succ, List.getElem_cons_zero, Act.put, List.setIfInBounds_toArray, List.set_cons_zero, List.set_cons_succ]
            refine HT.take (i := 5) (oi := _) (v := ?_) rfl (by kernel_rfl) (by kernel_rfl) (by decide) (fun _ _ _ h => h) (Or.inl ⟨by rfl, ?_⟩) hS ?_
            rotate_left
            · intro wz
              go_simp
              try with_reducible rfl
            simp only [List.getElem_toArray, List.getElem_cons_succ, List.getElem_cons_zero, Act.put, List.setIfInBounds_toArray, List.set_cons_zero, List.set_cons_succ]
            refine HT.take (i := 6) (oi := _) (v := ?_) rfl (by kernel_rfl) (by kernel_rfl) (by decide) (fun _ _ _ h => h) (Or.inl ⟨by rfl, ?_⟩) hS ?_
            rotate_left
            · intro wz
              go_simp
              try with_reducible rfl
            simp only [List.getElem_toArray, List.getElem_cons_succ, List.getElem_cons_zero, Act.put, List.setIfInBounds_toArray, List.set_cons_zero, List.set_cons_succ]
            refine HT.take (i := 7) (oi := _) (v := ?_) rfl (by kernel_rfl) (by kernel_rfl) (by decide) (fun _ _ _ h => h) (Or.inl ⟨by rfl, ?_⟩) hS ?_
            rotate_left
            · intro wz
              go_simp
              try with_reducible rfl
            simp only [List.getElem_toArray, List.getElem_cons_succ, List.getElem_cons_zero, Act.put, List.setIfInBounds_toArray, List.set_cons_zero, List.set_cons_succ]
            refine HT.take (i := 8) (oi := _) (v := ?_) rfl (by kernel_rfl) (by kernel_rfl) (by decide) (fun _ _ _ h => h) (Or.inl ⟨by rfl, ?_⟩) hS ?_
            rotate_left
            · intro wz
              go_simp
              try with_reducible rfl
            simp only [List.getElem_toArray, List.getElem_cons_succ, List.getElem_cons_zero, Act.put, List.setIfInBounds_toArray, List.set_cons_zero, List.set_cons_succ]
            refine HT.load (i := 9) (oi := _) (v := ?_) rfl (by kernel_rfl) (by kernel_rfl) (by decide) (fun _ _ _ h => h) (by kernel_rfl) (Or.inl ⟨by rfl, ?_⟩) hS ?_
            rotate_left
            · intro wz hwz
              try dsimp only at hwz
              go_simp
              try with_reducible rfl
            simp only [List.getElem_toArray, List.getElem_cons_succ, List.getElem_cons_zero, Act.put, List.setIfInBounds_toArray, List.set_cons_zero, List.set_cons_succ]
            clear kw1 kw2 kw3
            refine HT.take (i := 10) (oi := _) (v := ?_) rfl (by kernel_rfl) (by kernel_rfl) (by decide) (fun _ _ _ h => h) (Or.inl ⟨by rfl, ?_⟩) hS ?_
            rotate_left
            · intro wz
              go_simp
              try with_reducible rfl
            simp only [List.getElem_toArray, List.getElem_cons_succ, List.getElem_cons_zero, Act.put, List.setIfInBounds_toArray, List.set_cons_zero, List.set_cons_succ]
            have hSZ := hS
            refine HT.one (i := 11) (o := _) rfl (by kernel_rfl) (by decide) (by rfl) ?_
            intro K hK
            go_simp
            have hS2 : (Z.alloc (.cells #[.int .i64 x, .int .i64 y] 29)).cell? ⟨gE, k, none⟩ = some (.int .i64 x) ∧ (Z.alloc (.cells #[.int .i64 x, .int .i64 y] 29)).cell? ⟨gE, k + 1, none⟩ = some (.int .i64 y) := ⟨(World.cell?_alloc_lt Z _ _ hgZ).trans hS.1, (World.cell?_alloc_lt Z _ _ hgZ).trans hS.2⟩
            refine hK.out _ _ hS2 ?_
            clear hK K hS
            have hS := hS2
            clear hS2
            try simp only [List.getElem_toArray, List.getElem_cons_succ, List.getElem_cons_zero, Act.put, List.setIfInBounds_toArray, List.set_cons_zero, List.set_cons_succ]
            refine HT.one (i := 12) (o := _) rfl (by kernel_rfl) (by decide) (by rfl) ?_
            intro K hK
            refine wp_push_span (.tmp 108) (.tmp 119) (by rfl) W.heap.size A5 0 c5 acc x y Z.heap.size rfl (by rfl) (by rfl) hOd.out (by omega) hsz9 ?_
            intro g5 cap5 w5 hown5 hb5
            have hS2 : w5.cell? ⟨gE, k, none⟩ = some (.int .i64 x) ∧ w5.cell? ⟨gE, k + 1, none⟩ = some (.int .i64 y) := ⟨(hb5.cell (p := ⟨gE, k, none⟩) HGE.out).trans hSZ.1, (hb5.cell (p := ⟨gE, k + 1, none⟩) HGE.out).trans hSZ.2⟩
            refine hK.out _ _ hS2 ?_
            clear hK K hS hSZ
            have hS := hS2
            clear hS2
            try simp only [List.getElem_toArray, List.getElem_cons_succ, List.getElem_cons_zero, Act.put, List.setIfInBounds_toArray, List.set_cons_zero, List.set_cons_succ]
            refine HT.done (by kernel_rfl) ?_
            clear hS
            simp only [List.drop_succ_cons, List.drop_zero]
            go_wp2_with (fail)
            have HB5 := Lib.hid (hbd.out.trans hb5)
            rw [← HST.out] at hown5
            have HO5 := Lib.hid hown5
            clear hown5 hb5
            go_roundw
            case rel => exact ⟨k + 1, _, by omega, by go_num, HK2, HL2, HN2, HO5, HB5⟩
            case measure => simp [intOf]; omega
          · obtain ⟨m, rfl⟩ : ∃ m, qa = m + 1 := ⟨qa - 1, by omega⟩
            obtain ⟨g, cap, hv, hg1, hg2, _, _, hcl⟩ := hO.out.slot (by have := HQA.out; omega)
            injection hv with e1 e2 e3
            obtain ⟨⟨t1, t2⟩, f1, f2⟩ := hcl m (by have := HQA.out; omega)
            obtain ⟨z, hz⟩ : ∃ z, prOf acc m = z := ⟨_, rfl⟩
            obtain ⟨z1, z2⟩ := z
            have HZ := Lib.hid hz
            rw [hz] at t1 t2
            dsimp only at t1 t2
            have hzl : z2 ≤ x := last_low HQA.out HZ.out (by rw [← HX.out]; exact HL.out (by have := HKE.out; omega))
            have hm0 : (0 : Int) ≤ (m : Int) := by omega
            have hmn : (m : Int) < (m : Int) + 1 := by omega
            have hmw : IntKind.i64.wrap (m : Int) = (m : Int) := IntWalk.i64_in _ (by omega)
            have hne : gE ≠ g := by have := HGE.out; omega
            subst e3
            clear hcl hz hpos e2
            by_cases hzx : z2 = x
            · have HST : Hid (appS acc (x, y) = acc.set m ((prOf acc m).1, y)) := by
                have h := HZ.out
                rw [hzx] at h
                exact appS_touch HQA.out h hxy
              have hd1 : (z2 == x) = true := by simpa using hzx
              subst e1
              clear hzx
              go_upto_region 15 with (fail)
              go_quiet (fail)
              obtain ⟨X, hX⟩ : ∃ X : World, X = X1.drewN nq := ⟨_, rfl⟩
              rw [← hX]
              replace s1 : X.cell? ⟨gE, k, none⟩ = some (.int .i64 x) := by rw [hX]; exact s1
              replace s2 : X.cell? ⟨gE, k + 1, none⟩ = some (.int .i64 y) := by rw [hX]; exact s2
              replace hbw : Hid (Below W.heap.size W X) := by show Below _ _ _; rw [hX]; exact belowN hbw.out nq
              replace f2 : X.frozen? ⟨g, m * 2 + 1, none⟩ = false := by rw [hX]; exact f2
              replace t2 : X.cell? ⟨g, m * 2 + 1, none⟩ = some (.int .i64 z2) := by rw [hX]; exact t2
              replace hO : Hid (OwnPrs 29 X W.heap.size (.slice (some ⟨g, 0, none⟩) (m + 1) c5) acc) := by show OwnPrs _ _ _ _ _; rw [hX]; exact hO.out.below (belowN (Below.refl _ X1) nq)
              clear hX
              have HO5 := Lib.hid (hO.out.set1 (k := m) (by rw [HQA.out]; omega) y)
              rw [← HST.out] at HO5
              have HB5 := Lib.hid (hbw.out.setCell (p := ⟨g, m * 2 + 1, none⟩) hg1 (.int .i64 y))
              go_wp2_with fail
              go_roundw
              case rel => exact ⟨k + 1, _, by omega, by go_num, HK2, HL2, HN2, HO5, HB5⟩
              case measure => simp [intOf]; omega
            · have HST : Hid (appS acc (x, y) = acc ++ [(x, y)]) := appS_new (fun m' hm' => by
                obtain rfl : m' = m := by have := HQA.out; omega
                rw [HZ.out]; dsimp only; omega)
              have hd1 : (z2 == x) = false := by simpa using hzx
              subst e1
              clear hzx
              go_upto_region 15 with (fail)
              go_quiet (fail)
              obtain ⟨A5, hA5⟩ : ∃ A : Option Addr, A = some ⟨g, 0, none⟩ := ⟨_, rfl⟩
              rw [← hA5] at hO ⊢
              obtain ⟨X, hX⟩ : ∃ X : World, X = X1.drewN nq := ⟨_, rfl⟩
              rw [← hX]
              replace s1 : X.cell? ⟨gE, k, none⟩ = some (.int .i64 x) := by rw [hX]; exact s1
              replace s2 : X.cell? ⟨gE, k + 1, none⟩ = some (.int .i64 y) := by rw [hX]; exact s2
              replace hbw : Hid (Below W.heap.size W X) := by show Below _ _ _; rw [hX]; exact belowN hbw.out nq
              replace hO : Hid (OwnPrs 29 X W.heap.size (.slice A5 (m + 1) c5) acc) := by show OwnPrs _ _ _ _ _; rw [hX]; exact hO.out.below (belowN (Below.refl _ X1) nq)
              clear hX
              clear hA5 t1 t2 f1 f2
              go_upto_region 17 with (fail)
              refine wp_region_text 13 (fun x9 => x9.cell? ⟨gE, k, none⟩ = some (.int .i64 x) ∧ x9.cell? ⟨gE, k + 1, none⟩ = some (.int .i64 y)) (by kernel_rfl) (by kernel_rfl) ?_
              obtain ⟨Z, hZ⟩ : ∃ Z : World, Z = X.drew := ⟨_, rfl⟩
              rw [← hZ]
              have hS : Z.cell? ⟨gE, k, none⟩ = some (.int .i64 x) ∧ Z.cell? ⟨gE, k + 1, none⟩ = some (.int .i64 y) := by rw [hZ]; exact ⟨s1, s2⟩
              have hOd : Hid (OwnPrs 29 Z W.heap.size (.slice A5 (m + 1) c5) acc) := by show OwnPrs _ _ _ _ _; rw [hZ]; exact hO.out.below ((Below.refl _ X).drew)
              have hbd : Hid (Below W.heap.size W Z) := by show Below _ _ _; rw [hZ]; exact hbw.out.drew
              have hsz9 := hbd.out.size
              have hgZ : gE < Z.heap.size := by omega
              clear hZ s1 s2
              have kw1 : IntKind.i64.wrap ((k : Int) + 1) = (k : Int) + 1 := IntWalk.i64_in _ (by omega)
              have kw2 : (0 : Int) ≤ (k : Int) + 1 := by omega
              have kw3 : ((k : Int) + 1).toNat = k + 1 := by omega
              refine HT.take (i := 0) (oi := _) (v := ?_) rfl (by kernel_rfl) (by kernel_rfl) (by decide) (fun _ _ _ h => h) (Or.inl ⟨by rfl, ?_⟩) hS ?_
              rotate_left
              · intro wz
                go_simp
                try with_reducible rfl
              simp only [List.getElem_toArray, List.getElem_cons_succ, List.getElem_cons_zero, Act.put, List.setIfInBounds_toArray, List.set_cons_zero, List.set_cons_succ]
              refine HT.take (i := 1) (oi := _) (v := ?_) rfl (by kernel_rfl) (by kernel_rfl) (by decide) (fun _ _ _ h => h) (Or.inl ⟨by rfl, ?_⟩) hS ?_
              rotate_left
              · intro wz
                go_simp
                try with_reducible rfl
              simp only [List.getElem_toArray, List.getElem_cons_succ, List.getElem_cons_zero, Act.put, List.setIfInBounds_toArray, List.set_cons_zero, List.set_cons_succ]
              refine HT.take (i := 2) (oi := _) (v := ?_) rfl (by kernel_rfl) (by kernel_rfl) (by decide) (fun _ _ _ h => h) (Or.inl ⟨by rfl, ?_⟩) hS ?_
              rotate_left
              · intro wz
                go_simp
                try with_reducible rfl
              simp only [List.getElem_toArray, List.getElem_cons_succ, List.getElem_cons_zero, Act.put, List.setIfInBounds_toArray, List.set_cons_zero, List.set_cons_succ]
              refine HT.take (i := 3) (oi := _) (v := ?_) rfl (by kernel_rfl) (by kernel_rfl) (by decide) (fun _ _ _ h => h) (Or.inl ⟨by rfl, ?_⟩) hS ?_
              rotate_left
              · intro wz
                go_simp
                try with_reducible rfl
              simp only [List.getElem_toArray, List.getElem_cons_succ, List.getElem_cons_zero, Act.put, List.setIfInBounds_toArray, List.set_cons_zero, List.set_cons_succ]
              refine HT.load (i := 4) (oi := _) (v := ?_) rfl (by kernel_rfl) (by kernel_rfl) (by decide) (fun _ _ _ h => h) (by kernel_rfl) (Or.inl ⟨by rfl, ?_⟩) hS ?_
              rotate_left
              · intro wz hwz
                try dsimp only at hwz
                go_simp
                try with_reducible rfl
              simp only [List.getElem_toArray, List.getElem_cons_succ, List.getElem_cons_zero, Act.put, List.setIfInBounds_toArray, List.set_cons_zero, List.set_cons_succ]
              refine HT.take (i := 5) (oi := _) (v := ?_) rfl (by kernel_rfl) (by kernel_rfl) (by decide) (fun _ _ _ h => h) (Or.inl ⟨by rfl, ?_⟩) hS ?_
              rotate_left
              · intro wz
                go_simp
                try with_reducible rfl
              simp only [List.getElem_toArray, List.getElem_cons_succ, List.getElem_cons_zero, Act.put, List.setIfInBounds_toArray, List.set_cons_zero, List.set_cons_succ]
              refine HT.take (i := 6) (oi := _) (v := ?_) rfl (by kernel_rfl) (by kernel_rfl) (by decide) (fun _ _ _ h => h) (Or.inl ⟨by rfl, ?_⟩) hS ?_
              rotate_left
              · intro wz
                go_simp
                try with_reducible rfl
              simp only [List.getElem_toArray, List.getElem_cons_succ, List.getElem_cons_zero, Act.put, List.setIfInBounds_toArray, List.set_cons_zero, List.set_cons_succ]
              refine HT.take (i := 7) (oi := _) (v := ?_) rfl (by kernel_rfl) (by kernel_rfl) (by decide) (fun _ _ _ h => h) (Or.inl ⟨by rfl, ?_⟩) hS ?_
              rotate_left
              · intro wz
                go_simp
                try with_reducible rfl
              simp only [List.getElem_toArray, List.getElem_cons_succ, List.getElem_cons_zero, Act.put, List.setIfInBounds_toArray, List.set_cons_zero, List.set_cons_succ]
              refine HT.take (i := 8) (oi := _) (v := ?_) rfl (by kernel_rfl) (by kernel_rfl) (by decide) (fun _ _ _ h => h) (Or.inl ⟨by rfl, ?_⟩) hS ?_
              rotate_left
              · intro wz
                go_simp
                try with_reducible rfl
              simp only [List.getElem_toArray, List.getElem_cons_succ, List.getElem_cons_zero, Act.put, List.setIfInBounds_toArray, List.set_cons_zero, List.set_cons_succ]
              refine HT.load (i := 9) (oi := _) (v := ?_) rfl (by kernel_rfl) (by kernel_rfl) (by decide) (fun _ _ _ h => h) (by kernel_rfl) (Or.inl ⟨by rfl, ?_⟩) hS ?_
              rotate_left
              · intro wz hwz
                try dsimp only at hwz
                go_simp
                try with_reducible rfl
              simp only [List.getElem_toArray, List.getElem_cons_succ, List.getElem_cons_zero, Act.put, List.setIfInBounds_toArray, List.set_cons_zero, List.set_cons_succ]
              clear kw1 kw2 kw3
              refine HT.take (i := 10) (oi := _) (v := ?_) rfl (by kernel_rfl) (by kernel_rfl) (by decide) (fun _ _ _ h => h) (Or.inl ⟨by rfl, ?_⟩) hS ?_
              rotate_left
              · intro wz
                go_simp
                try with_reducible rfl
              simp only [List.getElem_toArray, List.getElem_cons_succ, List.getElem_cons_zero, Act.put, List.setIfInBounds_toArray, List.set_cons_zero, List.set_cons_succ]
              have hSZ := hS
              refine HT.one (i := 11) (o := _) rfl (by kernel_rfl) (by decide) (by rfl) ?_
              intro K hK
              go_simp
              have hS2 : (Z.alloc (.cells #[.int .i64 x, .int .i64 y] 29)).cell? ⟨gE, k, none⟩ = some (.int .i64 x) ∧ (Z.alloc (.cells #[.int .i64 x, .int .i64 y] 29)).cell? ⟨gE, k + 1, none⟩ = some (.int .i64 y) := ⟨(World.cell?_alloc_lt Z _ _ hgZ).trans hS.1, (World.cell?_alloc_lt Z _ _ hgZ).trans hS.2⟩
              refine hK.out _ _ hS2 ?_
              clear hK K hS
              have hS := hS2
              clear hS2
              try simp only [List.getElem_toArray, List.getElem_cons_succ, List.getElem_cons_zero, Act.put, List.setIfInBounds_toArray, List.set_cons_zero, List.set_cons_succ]
              refine HT.one (i := 12) (o := _) rfl (by kernel_rfl) (by decide) (by rfl) ?_
              intro K hK
              refine wp_push_span (.tmp 108) (.tmp 119) (by rfl) W.heap.size A5 (m + 1) c5 acc x y Z.heap.size rfl (by rfl) (by rfl) hOd.out (by omega) hsz9 ?_
              intro g5 cap5 w5 hown5 hb5
              have hS2 : w5.cell? ⟨gE, k, none⟩ = some (.int .i64 x) ∧ w5.cell? ⟨gE, k + 1, none⟩ = some (.int .i64 y) := ⟨(hb5.cell (p := ⟨gE, k, none⟩) HGE.out).trans hSZ.1, (hb5.cell (p := ⟨gE, k + 1, none⟩) HGE.out).trans hSZ.2⟩
              refine hK.out _ _ hS2 ?_
              clear hK K hS hSZ
              have hS := hS2
              clear hS2
              try simp only [List.getElem_toArray, List.getElem_cons_succ, List.getElem_cons_zero, Act.put, List.setIfInBounds_toArray, List.set_cons_zero, List.set_cons_succ]
              refine HT.done (by kernel_rfl) ?_
              clear hS
              simp only [List.drop_succ_cons, List.drop_zero]
              go_wp2_with (fail)
              have HB5 := Lib.hid (hbd.out.trans hb5)
              rw [← HST.out] at hown5
              have HO5 := Lib.hid hown5
              clear hown5 hb5
              go_roundw
              case rel => exact ⟨k + 1, _, by omega, by go_num, HK2, HL2, HN2, HO5, HB5⟩
              case measure => simp [intOf]; omega
        | false =>
          have HK2 := Lib.hid (swp_left HKE.out HK.out HX.out ((swF_at HP.out HQ.out).trans rfl))
          have HL2 := Lib.hid (low_left HEI.out HL.out)
          have HN2 : Hid (acc.length ≤ k + 1) := by show _ ≤ _; have := HN.out; omega
          go_wp2_with fail
          go_roundw
          case rel => exact ⟨k + 1, _, by omega, by go_num, HK2, HL2, HN2, hO, hbw⟩
          case measure => simp [intOf]; omega
    · have hkf : decide ((k : Int) + 1 < (q9 : Int)) = false := by simp; omega
      have HV0 : Hid (acc = sweepS (fun x y => or x y) a b) := by
        have h := HK.out
        rw [swp_end _ (by have := HQ9.out; omega)] at h
        exact h
      by_cases hq : 1000 < qa
      · have HV : Hid (setS (fun x y => or x y) a b = ([], 2)) := by show _ = _; unfold setS; rw [HX1.out, HX2.out, if_neg (by simp), if_neg (by simp), if_pos (by rw [← HV0.out, HQA.out]; exact hq)]
        have hd : decide ((1000 : Int) < (qa : Int)) = true := by simp; omega
        go_wp2_with fail
        refine bodyPost_ret (v := .tuple #[.slice none 0 0, .int .i64 2]) (by simp [results, Tryd.results36, go_sem]) rfl ?_
        unfold OutT2
        rw [HV.out]
        exact ⟨_, rfl, OwnPrs.nil _ _ _, HB3.out.trans (hbw.out.mono (by omega))⟩
      · have HV : Hid (setS (fun x y => or x y) a b = (acc, 0)) := by show _ = _; unfold setS; rw [HX1.out, HX2.out, if_neg (by simp), if_neg (by simp), if_neg (by rw [← HV0.out, HQA.out]; exact hq), HV0.out]
        have hd : decide ((1000 : Int) < (qa : Int)) = false := by simp; omega
        go_wp2_with fail
        refine bodyPost_ret (v := .tuple #[.slice A5 qa c5, .int .i64 0]) (by simp [results, Tryd.results36, go_sem]) rfl ?_
        unfold OutT2
        rw [HV.out]
        exact ⟨_, rfl, hO.out.base (by omega), HB3.out.trans (hbw.out.mono (by omega))⟩
end Go.Proofs.YtpfjodggnfgnnaaDoor
