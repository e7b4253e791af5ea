/- edit.Render, over clips of one point. -/
import Derived.Test.YtkmcohnhanphdaaGreatDoorVf
import Derived.Test.YtkmcohnhanphdaaGreatDoorVe
import Derived.Test.YtkmcohnhanphdaaGreatDoorVd
import Derived.Test.YtkmcohnhanphdaaGreatDoorUc
set_option linter.unusedSimpArgs false
set_option linter.unusedVariables false
namespace Go.Proofs.YtkmcohnhanphdaaGreatDoor
open Go.RowKit Go.Dw Go.Maps Go.ChangeMaps Go.MapKept
attribute [local go_sem ↓] Go.wp_at_zero Go.wp_at_succ
theorem fld_snd (r : Int) (v : Value) (W : World) : (Instr.field 33 (.agg #[.int .i64 r, v]) 1).run Tryz.prog W = .ok v W := by kernel_rfl
theorem find_md {l : List Md} (hap : ∀ i j, i < j → j < l.length → (mdOf l i).name ≠ (mdOf l j).name) {m : Md} (hm : m ∈ l) : findM l m.name = some m := by
  cases h : findM l m.name with
  | none =>
    have := List.find?_eq_none.1 h m hm
    simp at this
  | some q =>
    have h1 : q.name = m.name := by simpa using List.find?_some h
    obtain ⟨i, hi, e1⟩ := List.getElem_of_mem (List.mem_of_find?_eq_some h)
    obtain ⟨j, hj, e2⟩ := List.getElem_of_mem hm
    have g1 : mdOf l i = q := by rw [← e1]; simp [mdOf, List.getD, hi]
    have g2 : mdOf l j = m := by rw [← e2]; simp [mdOf, List.getD, hj]
    have hij : i = j := by
      rcases Nat.lt_trichotomy i j with h2 | h2 | h2
      · exact absurd (by rw [g1, g2]; exact h1) (hap i j h2 hj)
      · exact h2
      · exact absurd (by rw [g1, g2]; exact h1.symm) (hap j i h2 hi)
    rw [← g1, ← g2, hij]
theorem addC_step {l : List Md} {c : Cp} {i p : Nat} (hp : c.at_ + (i : Int) = (p : Int)) (q : Nat) : addC l c (i + 1) q = if q = p then envV c.env (i : Int) * ((elOf (trackOf l c.media c.chan) (c.from_ + (i : Int)).toNat : Int) : Rat) else addC l c i q := by
  by_cases h : q = p
  · subst h
    rw [if_pos rfl, addC, if_pos ⟨by omega, by omega⟩, show (q : Int) - c.at_ = (i : Int) by omega]
  · rw [if_neg h]
    unfold addC
    by_cases h1 : c.at_ ≤ (q : Int) ∧ (q : Int) < c.at_ + (i : Nat)
    · rw [if_pos h1, if_pos ⟨h1.1, by omega⟩]
    · rw [if_neg h1, if_neg (by rintro ⟨h2, h3⟩; exact h1 ⟨h2, by omega⟩)]
theorem addC_at {l : List Md} {c : Cp} {i p : Nat} (hp : c.at_ + (i : Int) = (p : Int)) : addC l c i p = 0 := if_neg (by rintro ⟨_, h⟩; omega)
theorem addC_zero {l : List Md} {c : Cp} {p : Nat} : addC l c 0 p = 0 := if_neg (by rintro ⟨h, h'⟩; omega)
def kC (c : Cp) (k i : Nat) (p : Nat) : Nat := if c.at_ ≤ (p : Int) ∧ (p : Int) < c.at_ + (i : Nat) then (k + 1) * 20003 else k * 20003
theorem kC_le (c : Cp) (k i p : Nat) : kC c k i p ≤ (k + 1) * 20003 := by unfold kC; split <;> omega
theorem kC_step {c : Cp} {k i p : Nat} (hp : c.at_ + (i : Int) = (p : Int)) (q : Nat) : updP (kC c k i) p (kC c k i p + 20003) q ≤ kC c k (i + 1) q := by
  unfold updP
  by_cases h : q = p
  · subst h
    rw [if_pos rfl]
    unfold kC
    rw [if_neg (by rintro ⟨_, h⟩; omega), if_pos ⟨by omega, by omega⟩]
    omega
  · rw [if_neg h]
    unfold kC
    by_cases h1 : c.at_ ≤ (q : Int) ∧ (q : Int) < c.at_ + (i : Nat)
    · rw [if_pos h1, if_pos ⟨h1.1, by omega⟩]; exact Nat.le_refl _
    · rw [if_neg h1]; split <;> omega
theorem mkIntsR (n : Nat) (hn : n ≤ 1000000000000) (W : World) : (Instr.makeSlice 42 (.int .i64 (n : Int)) (.int .i64 (n : Int))).run Tryz.prog W = .ok (.slice (some ⟨W.heap.size, 0, none⟩) n n) (W.alloc (.cells (mk0 (.int .i64 0) n) 3)) := by
  obtain ⟨i0, hi, hz0, hz1, hz2⟩ := info_parts sint_info
  exact run_mk 42 3 i0 _ Tryz.underlying42 hi hz0 hz1 rfl n (by rw [hz2]; omega) (by omega) W
def vC (md : List Md) (cs : List Cp) (t q : Nat) : Int := clipV (nearQ (mixC md (t : Int) (q : Int) cs))
def nC (md : List Md) (cs : List Cp) (t q : Nat) : Int := clipN (nearQ (mixC md (t : Int) (q : Int) cs))
theorem nC_bd (md : List Md) (cs : List Cp) (t q : Nat) : 0 ≤ nC md cs t q ∧ nC md cs t q ≤ 1 := clipN_bd _
theorem renT_eq {md : List Md} {cs : List Cp} {t en : Nat} (h : endC cs = (en : Int)) : renT md cs (t : Int) = (List.range en).map (vC md cs t) := by
  unfold renT; rw [h, Int.toNat_natCast]; rfl
theorem renN_step {md : List Md} {cs : List Cp} {t en : Nat} (h : endC cs = (en : Int)) : renN md cs (t + 1) = renN md cs t + ((List.range en).map (nC md cs t)).sum := by
  unfold renN
  rw [List.range_succ, List.map_append, List.sum_append]
  simp only [List.map_cons, List.map_nil, List.sum_cons, List.sum_nil]
  unfold renN1
  rw [h, Int.toNat_natCast]
  show _ + (_ + 0) = _
  rw [Int.add_zero]; rfl
theorem renS_step (md : List Md) (cs : List Cp) (t : Nat) : renS md cs (t + 1) = renS md cs t ++ [renT md cs (t : Int)] := by
  unfold renS; rw [List.range_succ, List.map_append]; rfl
theorem sumR_step (f : Nat → Int) (p : Nat) : ((List.range (p + 1)).map f).sum = ((List.range p).map f).sum + f p := by
  rw [List.range_succ, List.map_append, List.sum_append]; simp
end Go.Proofs.YtkmcohnhanphdaaGreatDoor
/- edit.walk over any right clip (printed by tools/mkwalk.py). -/
namespace Go.Proofs.YtkmcohnhanphdaaGreatDoor
open Go.RowKit Go.Dw
attribute [local go_sem ↓] Go.wp_at_zero Go.wp_at_succ
def lineR (P Q : Rat) : Int := Q.num * (P.den : Int) - P.num * (Q.den : Int)
def lineZ (P Q : Rat) (d t : Int) : Int := P.num * (Q.den : Int) * d + lineR P Q * t
def lineX (P Q : Rat) (d : Int) : Nat := P.den * Q.den * d.natAbs
theorem lineZ_succ (P Q : Rat) (d t : Int) : lineZ P Q d t + lineR P Q = lineZ P Q d (t + 1) := by
  unfold lineZ
  rw [Int.mul_add, Int.mul_one, Int.add_assoc]
theorem lineX_pos (P Q : Rat) (d : Int) (hd : 0 < d) : 0 < lineX P Q d := Nat.mul_pos (Nat.mul_pos P.den_pos Q.den_pos) (by omega)
set_option maxRecDepth 100000 in
set_option maxHeartbeats 32000000 in
theorem EWALK_any (G : Nat → World → Prop) (c : Cp) (A : Option Addr) (n cap till : Nat) (fid : FuncId) (caps : Array Value) (g0 : Nat) (hok : Hid (EnvOk c.len c.env)) (htill : till ≤ 100000) (hlen : c.len ≤ 100000)
    (w : World) (B : Nat) (hB : B ≤ w.heap.size) (hh : Hid (PtsAt w B A n c.env)) (hlo : B ≤ g0) (hhi : g0 < w.heap.size) (hG0 : Hid (G 0 w)) (hst : Hid (∀ i w1 w2, G i w1 → Below w1.heap.size w1 w2 → G i w2)) (hst2 : Hid (∀ i w1 q v0 v1, G i w1 → TyAt 82 w1 q → G i ((w1.setCell ⟨q, 0, none⟩ v0).setCell ⟨q, 1, none⟩ v1))) (hty : Hid (∀ i w1, G i w1 → TyAt 88 w1 g0))
    (hcf : ∀ (args : Array Value) (W : World), (callFunc fid args).run Tryz.prog W = .ok (.enter fid args) W) (hf : Hid (WalkF G c till fid caps g0 w)) :
    Calls Tryz.prog 27 #[cpV c (.slice A n cap), .int .i64 0, .int .i64 (till : Int), .func (.func fid) #[] caps] w fun e w' => e = .returned (.tuple #[]) ∧ G till w' ∧ Alt g0 (g0 + 1) w w' := by
  have hl := Lib.hid hh.out.1
  have hn50 : n ≤ 50 := by have := hok.out.few; have := hl.out; omega
  have hn0 : 0 < n := by have := hok.out.some_; have := hl.out; omega
  have HIN := Lib.hid hok.out.in_
  have HRT := Lib.hid hok.out.right
  have HUP := Lib.hid hok.out.up
  obtain ⟨W, g, hW, hg, HG, HBW, HSW⟩ := cell_new w 58 #[.string c.media, .int .i64 c.chan, .int .i64 c.from_, .int .i64 c.track, .int .i64 c.at_, .int .i64 c.len, .slice A n cap]
  have hgW := blk_lt HG.out
  have HGX := Lib.hid hg
  have HGW : Hid (G 0 W) := hst.out _ _ _ hG0.out HBW.out
  have hhig : g0 + 1 ≤ g := by have := HGX.out; omega
  have hBW : B ≤ W.heap.size := Nat.le_trans hB HBW.out.size
  unfold cpV
  go_enter Tryz.func27, Tryz.ntmps27
  go_upto_region 1 with (fail)
  rw [← hW, ← hg]
  clear hW hg
  obtain ⟨_, _, _, _, _, _, p6⟩ := seven_cells HG.out
  go_wp2_with fail
  clear p6
  go_loopw [9] (fun i wr => ∃ k : Nat, k ≤ till ∧ i = .int .i64 k ∧ Hid (G k wr) ∧ Hid (Alt g0 (g0 + 1) W wr)) (fun i _ => till - (intOf i).toNat)
  case atStart => exact ⟨0, Nat.zero_le _, rfl, HGW.out, ⟨rfl, rfl, rfl, Nat.le_refl _, fun _ _ _ => rfl⟩⟩
  case round =>
    obtain ⟨k, hk, rfl, HGK, HA⟩ := hrel
    by_cases hlt : k < till
    · have hk0 : (0 : Int) ≤ (k : Int) := by omega
      have hkn : (k : Int) < (till : Int) := by omega
      have hszA := HA.out.size
      have HGB := Lib.hid ((HA.out.block g hgW (.inr hhig)).trans HG.out)
      obtain ⟨p0, p1, p2, p3, p4, p5, p6⟩ := seven_cells HGB.out
      have HP : Hid (PtsAt wr B A n c.env) := hh.out.below ((HBW.out.mono hB).trans (HA.out.below hBW hlo)) (Nat.le_refl _)
      have hBr : B ≤ wr.heap.size := Nat.le_trans hBW hszA
      go_wp2_with fail
      refine (BSEARCH_any A n cap c.env ((k : Int) + 1) (fun p => p.at_ - ((k : Int) + 1)) 65 #[] (by omega) HUP wr B hBr HP (fun _ _ => rfl) (Lib.hid (fun p _ => ⟨by omega, by omega⟩)) (Lib.hid (fun p w1 hp => EWALK1_any p ((k : Int) + 1) (by have := HIN.out p hp; omega) (by omega) w1))).mono ?_
      rintro e w1 ⟨rfl, hb1⟩
      obtain ⟨fb, hfb⟩ : ∃ fb, decide (envK c.env ((k : Int) + 1) < c.env.length ∧ (ptOf c.env (envK c.env ((k : Int) + 1))).at_ = (k : Int) + 1) = fb := ⟨_, rfl⟩
      rw [hfb]
      clear hfb
      obtain ⟨kk, hkk⟩ : ∃ kk, envK c.env ((k : Int) + 1) = kk := ⟨_, rfl⟩
      rw [hkk]
      have HKK := Lib.hid hkk
      have HCUT := Lib.hid (envK_cut HUP.out ((k : Int) + 1))
      rw [hkk] at HCUT
      have hkk1 : kk ≤ n := by rw [← hkk, ← hl.out]; exact envK_le _ _
      have HG1 := Lib.hid ((hb1.block g (Nat.lt_of_lt_of_le hgW hszA)).trans HGB.out)
      have HGK1 : Hid (G k w1) := hst.out _ _ _ HGK.out hb1
      have HA1 : Hid (Alt g0 (g0 + 1) W w1) := HA.out.trans (Alt.of_below hb1)
      have HP1 : Hid (PtsAt w1 B A n c.env) := HP.out.below hb1 hBr
      have hB1 : B ≤ w1.heap.size := Nat.le_trans hBr hb1.size
      have hszw1 := hb1.size
      clear hkk hb1 p0 p1 p2 p3 p4 p5 p6
      obtain ⟨p0, p1, p2, p3, p4, p5, p6⟩ := seven_cells HG1.out
      by_cases hk0' : kk = 0
      · subst hk0'
        have HIN0 := HIN.out _ (pt_mem (l := c.env) (k := 0) (by rw [hl.out]; exact hn0))
        obtain ⟨a0, ha0⟩ : ∃ a0 : Nat, (ptOf c.env 0).at_ = (a0 : Int) := ⟨(ptOf c.env 0).at_.toNat, by omega⟩
        have HA0 := Lib.hid ha0
        have haL : a0 ≤ 100000 := by omega
        have HBF : Hid ((k : Int) + 1 ≤ (a0 : Int)) := by show _ ≤ _; rw [← HA0.out]; exact envK_zero HKK.out _ (pt_mem (by rw [hl.out]; omega))
        have HEB : Hid (∀ j : Nat, j ≤ a0 → envV c.env (j : Int) = ptV (ptOf c.env 0) ∧ envK c.env (j : Int) = 0) := fun j hj => by
          have h9 : ∀ p ∈ c.env, (j : Int) ≤ p.at_ := fun p hp => by
            obtain ⟨m, hm, rfl⟩ := List.getElem_of_mem hp
            have e9 : ptOf c.env m = c.env[m] := by simp [ptOf, List.getD, hm]
            rw [← e9]
            rcases Nat.eq_zero_or_pos m with h | h
            · rw [h, HA0.out]; omega
            · have := HUP.out 0 m h hm; have := HA0.out; omega
          exact ⟨env_before (by rw [hl.out]; omega) h9, envK_zero_of h9⟩
        have HFL : Hid ((envK c.env (k : Int) < c.env.length ∧ (ptOf c.env (envK c.env (k : Int))).at_ = (k : Int)) ∨ envK c.env (k : Int) = 0 ∨ envK c.env (k : Int) = c.env.length) := .inr (.inl (HEB.out k (by have := HBF.out; omega)).2)
        obtain ⟨b, o, e, hb, q1, q2, q3⟩ := HP1.out.2 0 (by omega)
        subst e
        rw [HA0.out, Nat.zero_mul, Nat.add_zero] at q1
        have hnn : (0 : Int) < (n : Int) := by omega
        clear q2 q3 HIN0 hkk1
        clear ha0
        by_cases hta : till ≤ a0
        · have HVAL : Hid (∀ j : Nat, k ≤ j → j < till → envV c.env (j : Int) = envV c.env (k : Int)) := fun j h1 h2 => by rw [(HEB.out j (by omega)).1, (HEB.out k (by omega)).1]
          have hmin : (till : Int) ≤ (a0 : Int) := by omega
          have hmin2 : min (till : Int) (a0 : Int) = (till : Int) := by omega
          go_wp2_with fail
          clear q1 hmin hmin2
          have HST := Lib.hid (show k < till ∧ till ≤ till by omega)
          refine (EVALUE_flat c (some ⟨b, o, none⟩) n cap (k : Int) (by omega) hok HFL.out w1 B hB1 HP1).mono ?_
          rintro e w2 ⟨ng, A2, n2, c2, D2, m2, d2, rfl, h2, hk2, hl2, hb2⟩
          have HGK2 : Hid (G k w2) := hst.out _ _ _ HGK1.out hb2
          have HA2 : Hid (Alt g0 (g0 + 1) W w2) := HA1.out.trans (Alt.of_below hb2)
          have hsz2 := Nat.le_trans (Nat.le_trans hszA hszw1) hb2.size
          have H2 := Lib.hid h2
          clear p0 p1 p2 p3 p4 p5 p6 hb2 h2
          go_upto_region 10 with (fail)
          obtain ⟨X, gq, hX, hgq, HX, HBX, HSX⟩ := cell_new w2 88 #[.bool ng, .slice A2 n2 c2, .slice D2 m2 d2]
          rw [← hX, ← hgq]
          have HGQ := Lib.hid hgq
          clear hX hgq
          have HGX2 : Hid (G k X) := hst.out _ _ _ HGK2.out HBX.out
          have HTX := Lib.hid (hty.out _ _ HGX2.out)
          have HAX : Hid (Alt g0 (g0 + 1) W X) := HA2.out.trans (Alt.of_below HBX.out)
          have HRX : Hid (RawAt X w2.heap.size ng A2 n2 c2 D2 m2 d2 (envV c.env (k : Int)).num (envV c.env (k : Int)).den) := RawAt.below H2.out HBX.out (Nat.le_refl _)
          have hgqX := blk_lt HX.out
          have hgq0 : g0 + 1 ≤ gq := by have := HGQ.out; omega
          have hszX := HBX.out.size
          clear HA HA1 HA2 HGK HGK1 HGK2 HGB HG1 HP HP1 H2 HBX HSX hszA
          go_loopw [9] (fun i wi => ∃ j : Nat, k ≤ j ∧ j ≤ till ∧ i = .int .i64 j ∧ Hid (G j wi) ∧ Hid (Alt g0 (g0 + 1) X wi)) (fun i _ => till - (intOf i).toNat)
          case atStart => exact ⟨k, Nat.le_refl _, by have := HST.out; omega, rfl, HGX2.out, ⟨rfl, rfl, rfl, Nat.le_refl _, fun _ _ _ => rfl⟩⟩
          case round =>
            obtain ⟨j, hkj, hjs, rfl, HGJ, HAJ⟩ := hrel
            by_cases hjl : j < till
            · have hj0 : (0 : Int) ≤ (j : Int) := by omega
              have hjn : (j : Int) < (till : Int) := by omega
              obtain ⟨x0, x1, x2, _, _, _⟩ := three_cells ((HAJ.out.block gq hgqX (.inr hgq0)).trans HX.out)
              have hoff : OffG w2.heap.size g0 X wr := fun k9 hk9 hne => HAJ.out.block k9 (by omega) (by omega)
              have HRJ : Hid (RawAt wr wr.heap.size ng A2 n2 c2 D2 m2 d2 (envV c.env (k : Int)).num (envV c.env (k : Int)).den) := (RawAt.off HRX.out HTX.out (by decide) hoff).mono (Nat.le_trans hszX HAJ.out.size)
              have HF := Lib.hid (hf.out j wr ng A2 D2 n2 c2 m2 d2 _ _ (by have := HST.out; omega) HGJ.out ((Alt.of_below HBW.out).trans (HAX.out.trans HAJ.out)) HRJ.out (Rat.den_pos _) ((Rat.mkRat_self _).trans (HVAL.out j hkj hjl).symm) hk2 hl2)
              clear hoff
              go_wp2_with fail
              refine (HF.out).mono ?_
              rintro e w5 ⟨rfl, hG5, hA5⟩
              have HG5 := Lib.hid hG5
              have HA5 : Hid (Alt g0 (g0 + 1) X w5) := HAJ.out.trans hA5
              clear hG5 hA5 x0 x1 x2
              go_wp2_with fail
              go_roundw
              case rel => exact ⟨j + 1, by omega, by omega, by go_num, HG5, HA5⟩
              case measure => simp [intOf]; omega
            · obtain rfl : j = till := by omega
              go_wp2_with fail
              go_roundw
              case rel => exact ⟨j, HST.out.2, rfl, HGJ, HAX.out.trans HAJ.out⟩
              case measure => simp [intOf]; have := HST.out; omega
        · have HVAL : Hid (∀ j : Nat, k ≤ j → j < a0 → envV c.env (j : Int) = envV c.env (k : Int)) := fun j h1 h2 => by rw [(HEB.out j (by omega)).1, (HEB.out k (by omega)).1]
          have hmin : ¬ (till : Int) ≤ (a0 : Int) := by omega
          have hmin2 : min (till : Int) (a0 : Int) = (a0 : Int) := by omega
          have hka := HBF.out
          go_wp2_with fail
          clear q1 hmin hmin2
          have HST := Lib.hid (show k < a0 ∧ a0 ≤ till by omega)
          refine (EVALUE_flat c (some ⟨b, o, none⟩) n cap (k : Int) (by omega) hok HFL.out w1 B hB1 HP1).mono ?_
          rintro e w2 ⟨ng, A2, n2, c2, D2, m2, d2, rfl, h2, hk2, hl2, hb2⟩
          have HGK2 : Hid (G k w2) := hst.out _ _ _ HGK1.out hb2
          have HA2 : Hid (Alt g0 (g0 + 1) W w2) := HA1.out.trans (Alt.of_below hb2)
          have hsz2 := Nat.le_trans (Nat.le_trans hszA hszw1) hb2.size
          have H2 := Lib.hid h2
          clear p0 p1 p2 p3 p4 p5 p6 hb2 h2
          go_upto_region 10 with (fail)
          obtain ⟨X, gq, hX, hgq, HX, HBX, HSX⟩ := cell_new w2 88 #[.bool ng, .slice A2 n2 c2, .slice D2 m2 d2]
          rw [← hX, ← hgq]
          have HGQ := Lib.hid hgq
          clear hX hgq
          have HGX2 : Hid (G k X) := hst.out _ _ _ HGK2.out HBX.out
          have HTX := Lib.hid (hty.out _ _ HGX2.out)
          have HAX : Hid (Alt g0 (g0 + 1) W X) := HA2.out.trans (Alt.of_below HBX.out)
          have HRX : Hid (RawAt X w2.heap.size ng A2 n2 c2 D2 m2 d2 (envV c.env (k : Int)).num (envV c.env (k : Int)).den) := RawAt.below H2.out HBX.out (Nat.le_refl _)
          have hgqX := blk_lt HX.out
          have hgq0 : g0 + 1 ≤ gq := by have := HGQ.out; omega
          have hszX := HBX.out.size
          clear HA HA1 HA2 HGK HGK1 HGK2 HGB HG1 HP HP1 H2 HBX HSX hszA
          go_loopw [9] (fun i wi => ∃ j : Nat, k ≤ j ∧ j ≤ a0 ∧ i = .int .i64 j ∧ Hid (G j wi) ∧ Hid (Alt g0 (g0 + 1) X wi)) (fun i _ => a0 - (intOf i).toNat)
          case atStart => exact ⟨k, Nat.le_refl _, by have := HST.out; omega, rfl, HGX2.out, ⟨rfl, rfl, rfl, Nat.le_refl _, fun _ _ _ => rfl⟩⟩
          case round =>
            obtain ⟨j, hkj, hjs, rfl, HGJ, HAJ⟩ := hrel
            by_cases hjl : j < a0
            · have hj0 : (0 : Int) ≤ (j : Int) := by omega
              have hjn : (j : Int) < (a0 : Int) := by omega
              obtain ⟨x0, x1, x2, _, _, _⟩ := three_cells ((HAJ.out.block gq hgqX (.inr hgq0)).trans HX.out)
              have hoff : OffG w2.heap.size g0 X wr := fun k9 hk9 hne => HAJ.out.block k9 (by omega) (by omega)
              have HRJ : Hid (RawAt wr wr.heap.size ng A2 n2 c2 D2 m2 d2 (envV c.env (k : Int)).num (envV c.env (k : Int)).den) := (RawAt.off HRX.out HTX.out (by decide) hoff).mono (Nat.le_trans hszX HAJ.out.size)
              have HF := Lib.hid (hf.out j wr ng A2 D2 n2 c2 m2 d2 _ _ (by have := HST.out; omega) HGJ.out ((Alt.of_below HBW.out).trans (HAX.out.trans HAJ.out)) HRJ.out (Rat.den_pos _) ((Rat.mkRat_self _).trans (HVAL.out j hkj hjl).symm) hk2 hl2)
              clear hoff
              go_wp2_with fail
              refine (HF.out).mono ?_
              rintro e w5 ⟨rfl, hG5, hA5⟩
              have HG5 := Lib.hid hG5
              have HA5 : Hid (Alt g0 (g0 + 1) X w5) := HAJ.out.trans hA5
              clear hG5 hA5 x0 x1 x2
              go_wp2_with fail
              go_roundw
              case rel => exact ⟨j + 1, by omega, by omega, by go_num, HG5, HA5⟩
              case measure => simp [intOf]; omega
            · obtain rfl : j = a0 := by omega
              go_wp2_with fail
              go_roundw
              case rel => exact ⟨j, HST.out.2, rfl, HGJ, HAX.out.trans HAJ.out⟩
              case measure => simp [intOf]; have := HST.out; omega
      · by_cases hk1' : kk = n
        · subst hk1'
          have HEA : Hid (∀ j : Nat, k ≤ j → envV c.env (j : Int) = ptV (ptOf c.env (kk - 1)) ∧ ((envK c.env (j : Int) < c.env.length ∧ (ptOf c.env (envK c.env (j : Int))).at_ = (j : Int)) ∨ envK c.env (j : Int) = c.env.length)) := fun j hj => by
            have h9 := env_after (l := c.env) (i := (j : Int)) (by rw [hl.out]; omega) HUP.out (fun p hp => by
              have := envK_full (l := c.env) (t := (k : Int) + 1) (by rw [HKK.out, hl.out]) p hp
              omega)
            rw [hl.out] at h9
            rw [hl.out]
            exact h9
          have HFL : Hid ((envK c.env (k : Int) < c.env.length ∧ (ptOf c.env (envK c.env (k : Int))).at_ = (k : Int)) ∨ envK c.env (k : Int) = 0 ∨ envK c.env (k : Int) = c.env.length) := by
            rcases (HEA.out k (Nat.le_refl _)).2 with h9 | h9
            · exact .inl h9
            · exact .inr (.inr h9)
          have HVAL : Hid (∀ j : Nat, k ≤ j → j < till → envV c.env (j : Int) = envV c.env (k : Int)) := fun j h1 h2 => by rw [(HEA.out j h1).1, (HEA.out k (Nat.le_refl _)).1]
          have hd1 : ((kk : Int) == 0) = false := by simp; omega
          have hd2 : ((kk : Int) == (kk : Int)) = true := by simp
          clear hk0' hkk1
          obtain ⟨n, hnk⟩ : ∃ n, n = kk := ⟨_, rfl⟩
          subst hnk
          go_wp2_with fail
          have HST := Lib.hid (show k < till ∧ till ≤ till by omega)
          refine (EVALUE_flat c A n cap (k : Int) (by omega) hok HFL.out w1 B hB1 HP1).mono ?_
          rintro e w2 ⟨ng, A2, n2, c2, D2, m2, d2, rfl, h2, hk2, hl2, hb2⟩
          have HGK2 : Hid (G k w2) := hst.out _ _ _ HGK1.out hb2
          have HA2 : Hid (Alt g0 (g0 + 1) W w2) := HA1.out.trans (Alt.of_below hb2)
          have hsz2 := Nat.le_trans (Nat.le_trans hszA hszw1) hb2.size
          have H2 := Lib.hid h2
          clear p0 p1 p2 p3 p4 p5 p6 hb2 h2
          go_upto_region 10 with (fail)
          obtain ⟨X, gq, hX, hgq, HX, HBX, HSX⟩ := cell_new w2 88 #[.bool ng, .slice A2 n2 c2, .slice D2 m2 d2]
          rw [← hX, ← hgq]
          have HGQ := Lib.hid hgq
          clear hX hgq
          have HGX2 : Hid (G k X) := hst.out _ _ _ HGK2.out HBX.out
          have HTX := Lib.hid (hty.out _ _ HGX2.out)
          have HAX : Hid (Alt g0 (g0 + 1) W X) := HA2.out.trans (Alt.of_below HBX.out)
          have HRX : Hid (RawAt X w2.heap.size ng A2 n2 c2 D2 m2 d2 (envV c.env (k : Int)).num (envV c.env (k : Int)).den) := RawAt.below H2.out HBX.out (Nat.le_refl _)
          have hgqX := blk_lt HX.out
          have hgq0 : g0 + 1 ≤ gq := by have := HGQ.out; omega
          have hszX := HBX.out.size
          clear HA HA1 HA2 HGK HGK1 HGK2 HGB HG1 HP HP1 H2 HBX HSX hszA
          go_loopw [9] (fun i wi => ∃ j : Nat, k ≤ j ∧ j ≤ till ∧ i = .int .i64 j ∧ Hid (G j wi) ∧ Hid (Alt g0 (g0 + 1) X wi)) (fun i _ => till - (intOf i).toNat)
          case atStart => exact ⟨k, Nat.le_refl _, by have := HST.out; omega, rfl, HGX2.out, ⟨rfl, rfl, rfl, Nat.le_refl _, fun _ _ _ => rfl⟩⟩
          case round =>
            obtain ⟨j, hkj, hjs, rfl, HGJ, HAJ⟩ := hrel
            by_cases hjl : j < till
            · have hj0 : (0 : Int) ≤ (j : Int) := by omega
              have hjn : (j : Int) < (till : Int) := by omega
              obtain ⟨x0, x1, x2, _, _, _⟩ := three_cells ((HAJ.out.block gq hgqX (.inr hgq0)).trans HX.out)
              have hoff : OffG w2.heap.size g0 X wr := fun k9 hk9 hne => HAJ.out.block k9 (by omega) (by omega)
              have HRJ : Hid (RawAt wr wr.heap.size ng A2 n2 c2 D2 m2 d2 (envV c.env (k : Int)).num (envV c.env (k : Int)).den) := (RawAt.off HRX.out HTX.out (by decide) hoff).mono (Nat.le_trans hszX HAJ.out.size)
              have HF := Lib.hid (hf.out j wr ng A2 D2 n2 c2 m2 d2 _ _ (by have := HST.out; omega) HGJ.out ((Alt.of_below HBW.out).trans (HAX.out.trans HAJ.out)) HRJ.out (Rat.den_pos _) ((Rat.mkRat_self _).trans (HVAL.out j hkj hjl).symm) hk2 hl2)
              clear hoff
              go_wp2_with fail
              refine (HF.out).mono ?_
              rintro e w5 ⟨rfl, hG5, hA5⟩
              have HG5 := Lib.hid hG5
              have HA5 : Hid (Alt g0 (g0 + 1) X w5) := HAJ.out.trans hA5
              clear hG5 hA5 x0 x1 x2
              go_wp2_with fail
              go_roundw
              case rel => exact ⟨j + 1, by omega, by omega, by go_num, HG5, HA5⟩
              case measure => simp [intOf]; omega
            · obtain rfl : j = till := by omega
              go_wp2_with fail
              go_roundw
              case rel => exact ⟨j, HST.out.2, rfl, HGJ, HAX.out.trans HAJ.out⟩
              case measure => simp [intOf]; have := HST.out; omega
        · clear p0 p1 p2 p3 p4 p5 p6
          obtain ⟨j0, rfl⟩ : ∃ j0, kk = j0 + 1 := ⟨kk - 1, by omega⟩
          have hjn : j0 + 1 < n := by omega
          have hd1 : (((j0 + 1 : Nat) : Int) == 0) = false := by simp; omega
          have hd2 : (((j0 + 1 : Nat) : Int) == (n : Int)) = false := by simp; omega
          clear hk0' hk1' hkk1
          have HI1 := HIN.out _ (pt_mem (l := c.env) (k := j0) (by rw [hl.out]; omega))
          have HI2 := HIN.out _ (pt_mem (l := c.env) (k := j0 + 1) (by rw [hl.out]; omega))
          have RT1 := Lib.hid (HRT.out _ (pt_mem (l := c.env) (k := j0) (by rw [hl.out]; omega)))
          have RT2 := Lib.hid (HRT.out _ (pt_mem (l := c.env) (k := j0 + 1) (by rw [hl.out]; omega)))
          have hc1 := HCUT.out.1 j0 (by omega)
          have hc2 := HCUT.out.2 (j0 + 1) (Nat.le_refl _) (by rw [hl.out]; exact hjn)
          have HLN : Hid (∀ i : Int, (ptOf c.env j0).at_ ≤ i → i < (ptOf c.env (j0 + 1)).at_ → envV c.env i = ptV (ptOf c.env j0) + (ptV (ptOf c.env (j0 + 1)) - ptV (ptOf c.env j0)) * (((i - (ptOf c.env j0).at_ : Int) : Rat) / (((ptOf c.env (j0 + 1)).at_ - (ptOf c.env j0).at_ : Int) : Rat))) := fun i h1 h2 => env_line HUP.out (by rw [hl.out]; exact hjn) h1 h2
          obtain ⟨b, o, e, hb, cA, k2, k3⟩ := HP1.out.2 j0 (by omega)
          subst e
          obtain ⟨b', o', e, hb', cB, k2', k3'⟩ := HP1.out.2 (j0 + 1) hjn
          injection e with e
          injection e with e1 e2 _
          subst e1
          subst e2
          have hbw1 : b < w1.heap.size := by omega
          obtain ⟨p1, hp1⟩ : ∃ p, ptOf c.env j0 = p := ⟨_, rfl⟩
          obtain ⟨p2, hp2⟩ : ∃ p, ptOf c.env (j0 + 1) = p := ⟨_, rfl⟩
          rw [hp1] at cA k2 k3 HI1 RT1 hc1 HLN
          rw [hp2] at cB k2' k3' HI2 RT2 hc2 HLN
          obtain ⟨hi1, hi2⟩ := HI1
          obtain ⟨hi3, hi4⟩ := HI2
          obtain ⟨a2, ha2⟩ : ∃ a2 : Nat, p2.at_ = (a2 : Int) := ⟨p2.at_.toNat, by omega⟩
          have HA2 := Lib.hid ha2
          have hka2 : k < a2 := by omega
          have haL : a2 ≤ 100000 := by omega
          have HVAL : Hid (∀ j : Nat, k ≤ j → j < a2 → mkRat (lineZ (ptV p1) (ptV p2) (p2.at_ - p1.at_) ((j : Int) - p1.at_)) (lineX (ptV p1) (ptV p2) (p2.at_ - p1.at_)) = envV c.env (j : Int)) := fun j h1 h2 => by
            rw [HLN.out (j : Int) (by omega) (by rw [HA2.out]; omega)]
            exact line_rat (ptV p1) (ptV p2) (p2.at_ - p1.at_) ((j : Int) - p1.at_) (by omega)
          clear ha2 hp1 hp2 HLN HCUT
          have hji : IntKind.i64.wrap (j0 : Int) = (j0 : Int) := IntWalk.i64_in _ (by omega)
          have hj1 : ((j0 + 1 : Nat) : Int) - 1 = (j0 : Int) := by omega
          have hjn9 : (j0 : Int) < (n : Int) := by omega
          have hj09 : (0 : Int) ≤ (j0 : Int) := by omega
          have hjn1 : ((j0 + 1 : Nat) : Int) < (n : Int) := by omega
          have hj01 : (0 : Int) ≤ ((j0 + 1 : Nat) : Int) := by omega
          have hjq1 : (0 : Int) ≤ (j0 : Int) + 1 := by omega
          have hjq2 : (j0 : Int) + 1 < (n : Int) := by omega
          have hd3 : ((j0 : Int) + 1 == 0) = false := by simp; omega
          have hd4 : ((j0 : Int) + 1 == (n : Int)) = false := by simp; omega
          clear hd1 hd2
          go_upto_region 13 with (fail)
          try rw [hd3]
          try rw [hd4]
          clear hd3 hd4
          refine wp_region_head 15 (fun x9 => x9.cell? ⟨b, o + j0 * 3 + 1, none⟩ = some (.string p1.num) ∧ x9.cell? ⟨b, o + j0 * 3 + 2, none⟩ = some (.string p1.den) ∧ x9.cell? ⟨b, o + (j0 + 1) * 3 + 1, none⟩ = some (.string p2.num) ∧ x9.cell? ⟨b, o + (j0 + 1) * 3 + 2, none⟩ = some (.string p2.den)) (by kernel_rfl) (by kernel_rfl) ?_
          obtain ⟨wc, hwc⟩ : ∃ x : World, x = w1.drew := ⟨_, rfl⟩
          have HBc : Hid (Below w1.heap.size w1 wc) := by show Below _ _ _; rw [hwc]; exact (Below.refl _ _).drew
          have hS : wc.cell? ⟨b, o + j0 * 3 + 1, none⟩ = some (.string p1.num) ∧ wc.cell? ⟨b, o + j0 * 3 + 2, none⟩ = some (.string p1.den) ∧ wc.cell? ⟨b, o + (j0 + 1) * 3 + 1, none⟩ = some (.string p2.num) ∧ wc.cell? ⟨b, o + (j0 + 1) * 3 + 2, none⟩ = some (.string p2.den) := by rw [hwc]; exact ⟨k2, k3, k2', k3'⟩
          rw [← hwc]
          clear hwc
          refine HL.take (i := 0) (oi := _) (v := ?_) rfl (by kernel_rfl) (by kernel_rfl) (by decide) (fun _ _ _ h => h) (Or.inl ⟨by rfl, ?_⟩) hS ?_
          rotate_left
          · intro wz hwz
            try dsimp only at hwz
            go_simp
            try with_reducible rfl
          simp only [zA, zB, zC, Act.put, zD, zE, zF]
          refine HL.take (i := 1) (oi := _) (v := ?_) rfl (by kernel_rfl) (by kernel_rfl) (by decide) (fun _ _ _ h => h) (Or.inl ⟨by rfl, ?_⟩) hS ?_
          rotate_left
          · intro wz hwz
            try dsimp only at hwz
            go_simp
            try with_reducible rfl
          simp only [zA, zB, zC, Act.put, zD, zE, zF]
          refine HL.take (i := 2) (oi := _) (v := ?_) rfl (by kernel_rfl) (by kernel_rfl) (by decide) (fun _ _ _ h => h) (Or.inl ⟨by rfl, ?_⟩) hS ?_
          rotate_left
          · intro wz hwz
            try dsimp only at hwz
            go_simp
            try with_reducible rfl
          simp only [zA, zB, zC, Act.put, zD, zE, zF]
          refine HL.take (i := 3) (oi := _) (v := ?_) rfl (by kernel_rfl) (by kernel_rfl) (by decide) (fun _ _ _ h => h) (Or.inl ⟨by rfl, ?_⟩) hS ?_
          rotate_left
          · intro wz hwz
            try dsimp only at hwz
            go_simp
            try with_reducible rfl
          simp only [zA, zB, zC, Act.put, zD, zE, zF]
          refine HL.take (i := 4) (oi := _) (v := ?_) rfl (by kernel_rfl) (by kernel_rfl) (by decide) (fun _ _ _ h => h) (Or.inl ⟨by rfl, ?_⟩) hS ?_
          rotate_left
          · intro wz hwz
            try dsimp only at hwz
            go_simp
            try with_reducible rfl
          simp only [zA, zB, zC, Act.put, zD, zE, zF]
          refine HL.take (i := 5) (oi := _) (v := ?_) rfl (by kernel_rfl) (by kernel_rfl) (by decide) (fun _ _ _ h => h) (Or.inl ⟨by rfl, ?_⟩) hS ?_
          rotate_left
          · intro wz hwz
            try dsimp only at hwz
            go_simp
            try with_reducible rfl
          simp only [zA, zB, zC, Act.put, zD, zE, zF]
          refine HL.take (i := 7) (oi := _) (v := ?_) rfl (by kernel_rfl) (by kernel_rfl) (by decide) (fun _ _ _ h => h) (Or.inl ⟨by rfl, ?_⟩) hS ?_
          rotate_left
          · intro wz hwz
            try dsimp only at hwz
            go_simp
            try with_reducible rfl
          simp only [zA, zB, zC, Act.put, zD, zE, zF]
          refine HL.take (i := 8) (oi := _) (v := ?_) rfl (by kernel_rfl) (by kernel_rfl) (by decide) (fun _ _ _ h => h) (Or.inl ⟨by rfl, ?_⟩) hS ?_
          rotate_left
          · intro wz hwz
            try dsimp only at hwz
            go_simp
            try with_reducible rfl
          simp only [zA, zB, zC, Act.put, zD, zE, zF]
          refine HL.take (i := 9) (oi := _) (v := ?_) rfl (by kernel_rfl) (by kernel_rfl) (by decide) (fun _ _ _ h => h) (Or.inl ⟨by rfl, ?_⟩) hS ?_
          rotate_left
          · intro wz hwz
            try dsimp only at hwz
            go_simp
            try with_reducible rfl
          simp only [zA, zB, zC, Act.put, zD, zE, zF]
          refine HL.take (i := 10) (oi := _) (v := ?_) rfl (by kernel_rfl) (by kernel_rfl) (by decide) (fun _ _ _ h => h) (Or.inl ⟨by rfl, ?_⟩) hS ?_
          rotate_left
          · intro wz hwz
            try dsimp only at hwz
            go_simp
            try with_reducible rfl
          simp only [zA, zB, zC, Act.put, zD, zE, zF]
          refine HL.take (i := 11) (oi := _) (v := ?_) rfl (by kernel_rfl) (by kernel_rfl) (by decide) (fun _ _ _ h => h) (Or.inl ⟨by rfl, ?_⟩) hS ?_
          rotate_left
          · intro wz hwz
            try dsimp only at hwz
            go_simp
            try with_reducible rfl
          simp only [zA, zB, zC, Act.put, zD, zE, zF]
          refine HL.join [6, 12, 13, 14] [[], [], [], [], [], [], [], [], [], [], [], [], [6], [], [], [6, 12, 13, 14], [6, 12, 13, 14]] (fun i v wx => match i with | 6 => QV (ptV p1) 2001 2000 v wx | 12 => QV (ptV p2) 2001 2000 v wx | 13 => BxV w1.heap.size 88 #[.bool false, .slice none 0 0, .slice none 0 0] v wx | 14 => BxV w1.heap.size 88 #[.bool false, .slice none 0 0, .slice none 0 0] v wx | _ => True) (FrV [13, 14]) (fun wx => Below w1.heap.size w1 wx) (fun wx wy => Below wx.heap.size wx wy) (by kernel_rfl) rfl ?_ ?_ ?_ HBc.out ?_ ?_
          · intro wx hg
            exact ⟨(hg.cell (p := ⟨b, o + j0 * 3 + 1, none⟩) (hbw1)).trans k2, (hg.cell (p := ⟨b, o + j0 * 3 + 2, none⟩) (hbw1)).trans k3, (hg.cell (p := ⟨b, o + (j0 + 1) * 3 + 1, none⟩) (hbw1)).trans k2', (hg.cell (p := ⟨b, o + (j0 + 1) * 3 + 2, none⟩) (hbw1)).trans k3'⟩
          · intro wx wy hg hr; exact hg.trans (hr.mono hg.size)
          · intro i v wx wy hi hv hr
            simp only [List.mem_cons, List.not_mem_nil, or_false] at hi
            rcases hi with rfl | rfl | rfl | rfl
            · exact hv.below hr
            · exact hv.below hr
            · exact hv.below hr
            · exact hv.below hr
          · intro i o hi ho vs wx hg hv
            simp only [List.mem_cons, List.not_mem_nil, or_false] at hi
            rcases hi with rfl | rfl | rfl | rfl
            · obtain rfl := Option.some.inj (show some _ = some o from ho)
              show JStep _ _ _ _ _ _ _ _ _ wx
              clear hv ho hS 
              try simp only [zA, zB, zC, Act.put, zD, zE, zF]
              refine ⟨by rfl, fun K hK => ?_⟩
              go_simp
              refine (FROM_ok RT1.out _).mono ?_
              rintro e wn ⟨ng6, A6, n6, c6, D6, d6, e6, rfl, hH, k9, m9, hbn⟩
              exact hK.out _ _ _ rfl ⟨ng6, A6, n6, c6, D6, d6, e6, rfl, hH, k9, m9⟩ (fun j u hj hji hu h1 h2 => absurd h2 (by decide)) hbn
            · obtain rfl := Option.some.inj (show some _ = some o from ho)
              show JStep _ _ _ _ _ _ _ _ (Act.put _ (some 74) (vs 6)) wx
              clear hv ho hS 
              obtain ⟨v6, hv6⟩ : ∃ x, vs 6 = x := ⟨_, rfl⟩
              rw [hv6]
              clear hv6
              try simp only [zA, zB, zC, Act.put, zD, zE, zF]
              refine ⟨by rfl, fun K hK => ?_⟩
              go_simp
              refine (FROM_ok RT2.out _).mono ?_
              rintro e wn ⟨ng12, A12, n12, c12, D12, d12, e12, rfl, hH, k9, m9, hbn⟩
              exact hK.out _ _ _ rfl ⟨ng12, A12, n12, c12, D12, d12, e12, rfl, hH, k9, m9⟩ (fun j u hj hji hu h1 h2 => absurd h2 (by decide)) hbn
            · obtain rfl := Option.some.inj (show some _ = some o from ho)
              show JStep _ _ _ _ _ _ _ _ _ wx
              clear hv ho hS 
              try simp only [zA, zB, zC, Act.put, zD, zE, zF]
              refine ⟨by rfl, fun K hK => ?_⟩
              go_simp
              have hbn : Below wx.heap.size wx (wx.alloc (.cells #[.bool false, .slice none 0 0, .slice none 0 0] 88)) := (Below.refl _ _).alloc (Nat.le_refl _) _
              exact hK.out _ _ _ rfl ⟨_, rfl, hg.size, heap_alloc_new _ _⟩ (fun j u hj hji hu h1 h2 => by
                simp only [List.mem_cons, List.not_mem_nil, or_false] at h1
                rcases h1 with rfl | rfl
                · first | exact BxV.far hu | exact absurd rfl hji
                · first | exact BxV.far hu | exact absurd rfl hji) hbn
            · obtain rfl := Option.some.inj (show some _ = some o from ho)
              show JStep _ _ _ _ _ _ _ _ _ wx
              clear hv ho hS 
              try simp only [zA, zB, zC, Act.put, zD, zE, zF]
              refine ⟨by rfl, fun K hK => ?_⟩
              go_simp
              have hbn : Below wx.heap.size wx (wx.alloc (.cells #[.bool false, .slice none 0 0, .slice none 0 0] 88)) := (Below.refl _ _).alloc (Nat.le_refl _) _
              exact hK.out _ _ _ rfl ⟨_, rfl, hg.size, heap_alloc_new _ _⟩ (fun j u hj hji hu h1 h2 => by
                simp only [List.mem_cons, List.not_mem_nil, or_false] at h1
                rcases h1 with rfl | rfl
                · first | exact BxV.far hu | exact absurd rfl hji
                · first | exact BxV.far hu | exact absurd rfl hji) hbn
          · intro vs wx hg hv hx
            have h6 : QV (ptV p1) 2001 2000 (vs 6) wx := hv 6 (by decide)
            obtain ⟨ng6, A6, n6, c6, D6, d6, e6, e6, hR6, k6, m6⟩ := h6
            have h12 : QV (ptV p2) 2001 2000 (vs 12) wx := hv 12 (by decide)
            obtain ⟨ng12, A12, n12, c12, D12, d12, e12, e12, hR12, k12, m12⟩ := h12
            have h13 : BxV w1.heap.size 88 #[.bool false, .slice none 0 0, .slice none 0 0] (vs 13) wx := hv 13 (by decide)
            obtain ⟨g14, e13, hN14, hG14⟩ := h13
            have h14 : BxV w1.heap.size 88 #[.bool false, .slice none 0 0, .slice none 0 0] (vs 14) wx := hv 14 (by decide)
            obtain ⟨g15, e14, hN15, hG15⟩ := h14
            have hx13_14 := hx 13 (by decide) 14 (by decide) (by decide)
            rw [e13, e14] at hx13_14
            show HL _ _ _ _ _ _ _ _ _ (Act.put (Act.put (Act.put (Act.put _ (some 74) (vs 6)) (some 80) (vs 12)) (some 14) (vs 13)) (some 15) (vs 14)) wx
            rw [e6, e12, e13, e14]
            clear hv hx HBc e6 e12 e13 e14
            try simp only [zA, zB, zC, Act.put, zD, zE, zF]
            have HBc := Lib.hid hg
            obtain ⟨wc, rfl⟩ : ∃ x : World, x = wx := ⟨_, rfl⟩
            have hne2 : g14 ≠ g15 := fun e => by
              rcases hx13_14 with h | h
              · exact h (by decide) (by decide) (by rw [e])
              · exact h (by decide) (by decide) (by rw [e])
            clear hx13_14
            obtain ⟨r50, r51, r52, f50, f51, f52⟩ := r3_cells hG14
            obtain ⟨r60, r61, r62, f60, f61, f62⟩ := r3_cells hG15
            have hS := True.intro
            refine HL.done (by kernel_rfl) ?_
            clear hS
            simp only [List.drop_succ_cons, List.drop_zero]
            obtain ⟨wb, hV, HQU, HQV, RB⟩ := qbox_two hG14 hG15 hne2 hR6 hR12 k6 m6 k12 m12
            have HB1b : Hid (Below w1.heap.size w1 wb) := RB.out _ _ hN14 hN15 HBc.out
            have h11 : ¬ g15 = g14 := Ne.symm hne2
            clear RB hR6 hR12 hG14 hG15 HBc hne2
            go_upto_region 14 with (fail)
            rw [← hV]
            clear hV r50 r51 r52 r60 r61 r62 f50 f51 f52 f60 f61 f62 h11 k2 k3 k2' k3'
            have hbw2 : b < wb.heap.size := Nat.lt_of_lt_of_le hbw1 HB1b.out.size
            have cAb := (HB1b.out.cell (p := ⟨b, o + j0 * 3, none⟩) hbw1).trans cA
            have cBb := (HB1b.out.cell (p := ⟨b, o + (j0 + 1) * 3, none⟩) hbw1).trans cB
            clear cA cB
            have cA := cAb
            have cB := cBb
            clear cAb cBb
            refine wp_region_head 14 (fun x9 => x9.cell? ⟨b, o + (j0 + 1) * 3, none⟩ = some (.int .i64 p2.at_) ∧ x9.cell? ⟨b, o + j0 * 3, none⟩ = some (.int .i64 p1.at_)) (by kernel_rfl) (by kernel_rfl) ?_
            obtain ⟨wc, hwc⟩ : ∃ x : World, x = wb.drew := ⟨_, rfl⟩
            have HBc : Hid (Below wb.heap.size wb wc) := by show Below _ _ _; rw [hwc]; exact (Below.refl _ _).drew
            have hS : wc.cell? ⟨b, o + (j0 + 1) * 3, none⟩ = some (.int .i64 p2.at_) ∧ wc.cell? ⟨b, o + j0 * 3, none⟩ = some (.int .i64 p1.at_) := by rw [hwc]; exact ⟨cB, cA⟩
            rw [← hwc]
            clear hwc
            refine HL.take (i := 0) (oi := _) (v := ?_) rfl (by kernel_rfl) (by kernel_rfl) (by decide) (fun _ _ _ h => h) (Or.inl ⟨by rfl, ?_⟩) hS ?_
            rotate_left
            · intro wz hwz
              try dsimp only at hwz
              go_simp
              try with_reducible rfl
            simp only [zA, zB, zC, Act.put, zD, zE, zF]
            refine HL.take (i := 1) (oi := _) (v := ?_) rfl (by kernel_rfl) (by kernel_rfl) (by decide) (fun _ _ _ h => h) (Or.inl ⟨by rfl, ?_⟩) hS ?_
            rotate_left
            · intro wz hwz
              try dsimp only at hwz
              go_simp
              try with_reducible rfl
            simp only [zA, zB, zC, Act.put, zD, zE, zF]
            refine HL.take (i := 2) (oi := _) (v := ?_) rfl (by kernel_rfl) (by kernel_rfl) (by decide) (fun _ _ _ h => h) (Or.inl ⟨by rfl, ?_⟩) hS ?_
            rotate_left
            · intro wz hwz
              try dsimp only at hwz
              go_simp
              try with_reducible rfl
            simp only [zA, zB, zC, Act.put, zD, zE, zF]
            refine HL.take (i := 3) (oi := _) (v := ?_) rfl (by kernel_rfl) (by kernel_rfl) (by decide) (fun _ _ _ h => h) (Or.inl ⟨by rfl, ?_⟩) hS ?_
            rotate_left
            · intro wz hwz
              try dsimp only at hwz
              go_simp
              try with_reducible rfl
            simp only [zA, zB, zC, Act.put, zD, zE, zF]
            refine HL.take (i := 4) (oi := _) (v := ?_) rfl (by kernel_rfl) (by kernel_rfl) (by decide) (fun _ _ _ h => h) (Or.inl ⟨by rfl, ?_⟩) hS ?_
            rotate_left
            · intro wz hwz
              try dsimp only at hwz
              go_simp
              try with_reducible rfl
            simp only [zA, zB, zC, Act.put, zD, zE, zF]
            refine HL.take (i := 5) (oi := _) (v := ?_) rfl (by kernel_rfl) (by kernel_rfl) (by decide) (fun _ _ _ h => h) (Or.inl ⟨by rfl, ?_⟩) hS ?_
            rotate_left
            · intro wz hwz
              try dsimp only at hwz
              go_simp
              try with_reducible rfl
            simp only [zA, zB, zC, Act.put, zD, zE, zF]
            refine HL.take (i := 6) (oi := _) (v := ?_) rfl (by kernel_rfl) (by kernel_rfl) (by decide) (fun _ _ _ h => h) (Or.inl ⟨by rfl, ?_⟩) hS ?_
            rotate_left
            · intro wz hwz
              try dsimp only at hwz
              go_simp
              try with_reducible rfl
            simp only [zA, zB, zC, Act.put, zD, zE, zF]
            refine HL.take (i := 7) (oi := _) (v := ?_) rfl (by kernel_rfl) (by kernel_rfl) (by decide) (fun _ _ _ h => h) (Or.inl ⟨by rfl, ?_⟩) hS ?_
            rotate_left
            · intro wz hwz
              try dsimp only at hwz
              go_simp
              try with_reducible rfl
            simp only [zA, zB, zC, Act.put, zD, zE, zF]
            refine HL.take (i := 8) (oi := _) (v := ?_) rfl (by kernel_rfl) (by kernel_rfl) (by decide) (fun _ _ _ h => h) (Or.inl ⟨by rfl, ?_⟩) hS ?_
            rotate_left
            · intro wz hwz
              try dsimp only at hwz
              go_simp
              try with_reducible rfl
            simp only [zA, zB, zC, Act.put, zD, zE, zF]
            refine HL.take (i := 9) (oi := _) (v := ?_) rfl (by kernel_rfl) (by kernel_rfl) (by decide) (fun _ _ _ h => h) (Or.inl ⟨by rfl, ?_⟩) hS ?_
            rotate_left
            · intro wz hwz
              try dsimp only at hwz
              go_simp
              try with_reducible rfl
            simp only [zA, zB, zC, Act.put, zD, zE, zF]
            refine HL.take (i := 10) (oi := _) (v := ?_) rfl (by kernel_rfl) (by kernel_rfl) (by decide) (fun _ _ _ h => h) (Or.inl ⟨by rfl, ?_⟩) hS ?_
            rotate_left
            · intro wz hwz
              try dsimp only at hwz
              go_simp
              try with_reducible rfl
            simp only [zA, zB, zC, Act.put, zD, zE, zF]
            refine HL.take (i := 11) (oi := _) (v := ?_) rfl (by kernel_rfl) (by kernel_rfl) (by decide) (fun _ _ _ h => h) (Or.inl ⟨by rfl, ?_⟩) hS ?_
            rotate_left
            · intro wz hwz
              try dsimp only at hwz
              go_simp
              try with_reducible rfl
            simp only [zA, zB, zC, Act.put, zD, zE, zF]
            rw [IntWalk.i64_in (p2.at_ - p1.at_) (by omega)]
            refine HL.join [12, 13] [[], [], [], [], [], [], [], [], [], [], [], [], [], [], [12, 13]] (fun i v wx => match i with | 12 => IV (p2.at_ - p1.at_) 2 v wx | 13 => BxV wb.heap.size 82 #[.bool false, .slice none 0 0] v wx | _ => True) (FrV []) (fun wx => Below wb.heap.size wb wx) (fun wx wy => Below wx.heap.size wx wy) (by kernel_rfl) rfl ?_ ?_ ?_ HBc.out ?_ ?_
            · intro wx hg
              exact ⟨(hg.cell (p := ⟨b, o + (j0 + 1) * 3, none⟩) (hbw2)).trans cB, (hg.cell (p := ⟨b, o + j0 * 3, none⟩) (hbw2)).trans cA⟩
            · intro wx wy hg hr; exact hg.trans (hr.mono hg.size)
            · intro i v wx wy hi hv hr
              simp only [List.mem_cons, List.not_mem_nil, or_false] at hi
              rcases hi with rfl | rfl
              · exact hv.below hr
              · exact hv.below hr
            · intro i o hi ho vs wx hg hv
              simp only [List.mem_cons, List.not_mem_nil, or_false] at hi
              rcases hi with rfl | rfl
              · obtain rfl := Option.some.inj (show some _ = some o from ho)
                show JStep _ _ _ _ _ _ _ _ _ wx
                clear hv ho hS 
                try simp only [zA, zB, zC, Act.put, zD, zE, zF]
                refine ⟨by rfl, fun K hK => ?_⟩
                go_simp
                refine (IOF_any (p2.at_ - p1.at_) (by omega) (by omega) _).mono ?_
                rintro e wn ⟨ng12, A12, n12, c12, rfl, hH, k9, hbn⟩
                exact hK.out _ _ _ rfl ⟨ng12, A12, n12, c12, rfl, hH, by omega⟩ (fun j u hj hji hu h1 h2 => absurd h1 List.not_mem_nil) hbn
              · obtain rfl := Option.some.inj (show some _ = some o from ho)
                show JStep _ _ _ _ _ _ _ _ _ wx
                clear hv ho hS 
                try simp only [zA, zB, zC, Act.put, zD, zE, zF]
                refine ⟨by rfl, fun K hK => ?_⟩
                go_simp
                have hbn : Below wx.heap.size wx (wx.alloc (.cells #[.bool false, .slice none 0 0] 82)) := (Below.refl _ _).alloc (Nat.le_refl _) _
                exact hK.out _ _ _ rfl ⟨_, rfl, hg.size, heap_alloc_new _ _⟩ (fun j u hj hji hu h1 h2 => absurd h1 List.not_mem_nil) hbn
            · intro vs wx hg hv hx
              have h12 : IV (p2.at_ - p1.at_) 2 (vs 12) wx := hv 12 (by decide)
              obtain ⟨ng12, A12, n12, c12, e12, hR12, k12⟩ := h12
              have h13 : BxV wb.heap.size 82 #[.bool false, .slice none 0 0] (vs 13) wx := hv 13 (by decide)
              obtain ⟨g16, e13, hN16, hG16⟩ := h13
              show HL _ _ _ _ _ _ _ _ _ (Act.put (Act.put _ (some 93) (vs 12)) (some 16) (vs 13)) wx
              rw [e12, e13]
              clear hv hx HBc e12 e13
              try simp only [zA, zB, zC, Act.put, zD, zE, zF]
              have HBc := Lib.hid hg
              obtain ⟨wc, rfl⟩ : ∃ x : World, x = wx := ⟨_, rfl⟩
              obtain ⟨r50, r51, f50, f51⟩ := two_cells hG16
              have hS := True.intro
              refine HL.done (by kernel_rfl) ?_
              clear hS
              simp only [List.drop_succ_cons, List.drop_zero]
              obtain ⟨wd, hV, HIL, RB⟩ := ibox_store hG16 hR12 k12
              have HBbd : Hid (Below wb.heap.size wb wd) := RB.out _ _ hN16 HBc.out
              clear RB hR12 hG16 HBc
              go_upto_region 15 with (fail)
              rw [← hV]
              clear hV r50 r51 f50 f51
              have hbw3 : b < wd.heap.size := Nat.lt_of_lt_of_le hbw2 HBbd.out.size
              have cAb := (HBbd.out.cell (p := ⟨b, o + j0 * 3, none⟩) hbw2).trans cA
              have cBb := (HBbd.out.cell (p := ⟨b, o + (j0 + 1) * 3, none⟩) hbw2).trans cB
              clear cA cB hbw2
              obtain ⟨ngP, AP, nP, cP, DP, dP, eP, bP, hP, hkP, hlP⟩ := HQU.out.below HBbd.out
              obtain ⟨ngQ, AQ, nQ, cQ, DQ, dQ, eQ, bQ, hQ, hkQ, hlQ⟩ := HQV.out.below HBbd.out
              obtain ⟨qP0, qP1, qP2, _, _, _⟩ := r3_cells bP
              obtain ⟨qQ0, qQ1, qQ2, _, _, _⟩ := r3_cells bQ
              have HBP := Lib.hid bP
              have HBQ := Lib.hid bQ
              have HP := Lib.hid hP
              have HQ := Lib.hid hQ
              clear bP bQ hP hQ HQU HQV
              have HB1d := Lib.hid (HB1b.out.trans (HBbd.out.mono HB1b.out.size))
              clear HB1b HBbd
              refine wp_region_head 14 (fun x9 => x9.cell? ⟨g15, 0, none⟩ = some (.bool ngQ) ∧ x9.cell? ⟨g15, 1, none⟩ = some (.slice AQ nQ cQ) ∧ x9.cell? ⟨g15, 2, none⟩ = some (.slice DQ dQ eQ) ∧ x9.cell? ⟨g14, 0, none⟩ = some (.bool ngP) ∧ x9.cell? ⟨g14, 1, none⟩ = some (.slice AP nP cP) ∧ x9.cell? ⟨g14, 2, none⟩ = some (.slice DP dP eP)) (by kernel_rfl) (by kernel_rfl) ?_
              obtain ⟨wc, hwc⟩ : ∃ x : World, x = wd.drew := ⟨_, rfl⟩
              have HBc : Hid (Below wd.heap.size wd wc) := by show Below _ _ _; rw [hwc]; exact (Below.refl _ _).drew
              have hS : wc.cell? ⟨g15, 0, none⟩ = some (.bool ngQ) ∧ wc.cell? ⟨g15, 1, none⟩ = some (.slice AQ nQ cQ) ∧ wc.cell? ⟨g15, 2, none⟩ = some (.slice DQ dQ eQ) ∧ wc.cell? ⟨g14, 0, none⟩ = some (.bool ngP) ∧ wc.cell? ⟨g14, 1, none⟩ = some (.slice AP nP cP) ∧ wc.cell? ⟨g14, 2, none⟩ = some (.slice DP dP eP) := by rw [hwc]; exact ⟨qQ0, qQ1, qQ2, qP0, qP1, qP2⟩
              rw [← hwc]
              clear hwc
              refine HL.take (i := 0) (oi := _) (v := ?_) rfl (by kernel_rfl) (by kernel_rfl) (by decide) (fun _ _ _ h => h) (Or.inl ⟨by rfl, ?_⟩) hS ?_
              rotate_left
              · intro wz hwz
                try dsimp only at hwz
                go_simp
                try with_reducible rfl
              simp only [zA, zB, zC, Act.put, zD, zE, zF]
              refine HL.take (i := 1) (oi := _) (v := ?_) rfl (by kernel_rfl) (by kernel_rfl) (by decide) (fun _ _ _ h => h) (Or.inl ⟨by rfl, ?_⟩) hS ?_
              rotate_left
              · intro wz hwz
                try dsimp only at hwz
                go_simp
                try with_reducible rfl
              simp only [zA, zB, zC, Act.put, zD, zE, zF]
              refine HL.take (i := 2) (oi := _) (v := ?_) rfl (by kernel_rfl) (by kernel_rfl) (by decide) (fun _ _ _ h => h) (Or.inl ⟨by rfl, ?_⟩) hS ?_
              rotate_left
              · intro wz hwz
                try dsimp only at hwz
                go_simp
                try with_reducible rfl
              simp only [zA, zB, zC, Act.put, zD, zE, zF]
              refine HL.take (i := 3) (oi := _) (v := ?_) rfl (by kernel_rfl) (by kernel_rfl) (by decide) (fun _ _ _ h => h) (Or.inl ⟨by rfl, ?_⟩) hS ?_
              rotate_left
              · intro wz hwz
                try dsimp only at hwz
                go_simp
                try with_reducible rfl
              simp only [zA, zB, zC, Act.put, zD, zE, zF]
              refine HL.take (i := 4) (oi := _) (v := ?_) rfl (by kernel_rfl) (by kernel_rfl) (by decide) (fun _ _ _ h => h) (Or.inl ⟨by rfl, ?_⟩) hS ?_
              rotate_left
              · intro wz hwz
                try dsimp only at hwz
                go_simp
                try with_reducible rfl
              simp only [zA, zB, zC, Act.put, zD, zE, zF]
              refine HL.take (i := 6) (oi := _) (v := ?_) rfl (by kernel_rfl) (by kernel_rfl) (by decide) (fun _ _ _ h => h) (Or.inl ⟨by rfl, ?_⟩) hS ?_
              rotate_left
              · intro wz hwz
                try dsimp only at hwz
                go_simp
                try with_reducible rfl
              simp only [zA, zB, zC, Act.put, zD, zE, zF]
              refine HL.take (i := 7) (oi := _) (v := ?_) rfl (by kernel_rfl) (by kernel_rfl) (by decide) (fun _ _ _ h => h) (Or.inl ⟨by rfl, ?_⟩) hS ?_
              rotate_left
              · intro wz hwz
                try dsimp only at hwz
                go_simp
                try with_reducible rfl
              simp only [zA, zB, zC, Act.put, zD, zE, zF]
              refine HL.take (i := 8) (oi := _) (v := ?_) rfl (by kernel_rfl) (by kernel_rfl) (by decide) (fun _ _ _ h => h) (Or.inl ⟨by rfl, ?_⟩) hS ?_
              rotate_left
              · intro wz hwz
                try dsimp only at hwz
                go_simp
                try with_reducible rfl
              simp only [zA, zB, zC, Act.put, zD, zE, zF]
              refine HL.take (i := 9) (oi := _) (v := ?_) rfl (by kernel_rfl) (by kernel_rfl) (by decide) (fun _ _ _ h => h) (Or.inl ⟨by rfl, ?_⟩) hS ?_
              rotate_left
              · intro wz hwz
                try dsimp only at hwz
                go_simp
                try with_reducible rfl
              simp only [zA, zB, zC, Act.put, zD, zE, zF]
              refine HL.take (i := 10) (oi := _) (v := ?_) rfl (by kernel_rfl) (by kernel_rfl) (by decide) (fun _ _ _ h => h) (Or.inl ⟨by rfl, ?_⟩) hS ?_
              rotate_left
              · intro wz hwz
                try dsimp only at hwz
                go_simp
                try with_reducible rfl
              simp only [zA, zB, zC, Act.put, zD, zE, zF]
              refine HL.join [5, 11, 12, 13] [[], [], [], [], [], [], [], [], [], [], [], [5], [5, 11], [], [5, 11, 12, 13]] (fun i v wx => match i with | 5 => IV ((ptV p2).num * ((ptV p1).den : Int)) 4001 v wx | 11 => IV ((ptV p1).num * ((ptV p2).den : Int)) 4001 v wx | 12 => IV ((ptV p2).num * ((ptV p1).den : Int) - (ptV p1).num * ((ptV p2).den : Int)) 4002 v wx | 13 => BxV wd.heap.size 82 #[.bool false, .slice none 0 0] v wx | _ => True) (FrV []) (fun wx => Below wd.heap.size wd wx) (fun wx wy => Below wx.heap.size wx wy) (by kernel_rfl) rfl ?_ ?_ ?_ HBc.out ?_ ?_
              · intro wx hg
                exact ⟨(hg.cell (p := ⟨g15, 0, none⟩) (blk_lt HBQ.out)).trans qQ0, (hg.cell (p := ⟨g15, 1, none⟩) (blk_lt HBQ.out)).trans qQ1, (hg.cell (p := ⟨g15, 2, none⟩) (blk_lt HBQ.out)).trans qQ2, (hg.cell (p := ⟨g14, 0, none⟩) (blk_lt HBP.out)).trans qP0, (hg.cell (p := ⟨g14, 1, none⟩) (blk_lt HBP.out)).trans qP1, (hg.cell (p := ⟨g14, 2, none⟩) (blk_lt HBP.out)).trans qP2⟩
              · intro wx wy hg hr; exact hg.trans (hr.mono hg.size)
              · intro i v wx wy hi hv hr
                simp only [List.mem_cons, List.not_mem_nil, or_false] at hi
                rcases hi with rfl | rfl | rfl | rfl
                · exact hv.below hr
                · exact hv.below hr
                · exact hv.below hr
                · exact hv.below hr
              · intro i o hi ho vs wx hg hv
                simp only [List.mem_cons, List.not_mem_nil, or_false] at hi
                rcases hi with rfl | rfl | rfl | rfl
                · obtain rfl := Option.some.inj (show some _ = some o from ho)
                  show JStep _ _ _ _ _ _ _ _ _ wx
                  clear hv ho hS 
                  try simp only [zA, zB, zC, Act.put, zD, zE, zF]
                  refine ⟨by rfl, fun K hK => ?_⟩
                  go_simp
                  refine (IMUL_any ngQ false AQ DP nQ cQ dP eP _ _ (by omega) (by omega) _ wx.heap.size (Nat.le_refl _) (Lib.hid (HQ.out.1.to hg (Nat.le_refl _) hg.size)) (Lib.hid (IntAt.ofNat (HP.out.2.to hg (Nat.le_refl _) hg.size)))).mono ?_
                  rintro e wn ⟨ng5, A5, n5, c5, rfl, hH, k9, hbn⟩
                  exact hK.out _ _ _ rfl ⟨ng5, A5, n5, c5, rfl, hH, by omega⟩ (fun j u hj hji hu h1 h2 => absurd h1 List.not_mem_nil) hbn
                · obtain rfl := Option.some.inj (show some _ = some o from ho)
                  show JStep _ _ _ _ _ _ _ _ (Act.put _ (some 99) (vs 5)) wx
                  clear hv ho hS 
                  obtain ⟨v5, hv5⟩ : ∃ x, vs 5 = x := ⟨_, rfl⟩
                  rw [hv5]
                  clear hv5
                  try simp only [zA, zB, zC, Act.put, zD, zE, zF]
                  refine ⟨by rfl, fun K hK => ?_⟩
                  go_simp
                  refine (IMUL_any ngP false AP DQ nP cP dQ eQ _ _ (by omega) (by omega) _ wx.heap.size (Nat.le_refl _) (Lib.hid (HP.out.1.to hg (Nat.le_refl _) hg.size)) (Lib.hid (IntAt.ofNat (HQ.out.2.to hg (Nat.le_refl _) hg.size)))).mono ?_
                  rintro e wn ⟨ng11, A11, n11, c11, rfl, hH, k9, hbn⟩
                  exact hK.out _ _ _ rfl ⟨ng11, A11, n11, c11, rfl, hH, by omega⟩ (fun j u hj hji hu h1 h2 => absurd h1 List.not_mem_nil) hbn
                · obtain rfl := Option.some.inj (show some _ = some o from ho)
                  have h5 : IV ((ptV p2).num * ((ptV p1).den : Int)) 4001 (vs 5) wx := hv 5 (by decide)
                  obtain ⟨ng5, A5, n5, c5, e5, hR5, k5⟩ := h5
                  have h11 : IV ((ptV p1).num * ((ptV p2).den : Int)) 4001 (vs 11) wx := hv 11 (by decide)
                  obtain ⟨ng11, A11, n11, c11, e11, hR11, k11⟩ := h11
                  show JStep _ _ _ _ _ _ _ _ (Act.put (Act.put _ (some 99) (vs 5)) (some 105) (vs 11)) wx
                  rw [e5, e11]
                  clear hv ho hS e5 e11
                  try simp only [zA, zB, zC, Act.put, zD, zE, zF]
                  refine ⟨by rfl, fun K hK => ?_⟩
                  go_simp
                  refine (ISUB_any ng5 ng11 A5 A11 n5 c5 n11 c11 _ _ (by omega) (by omega) _ wx.heap.size (Nat.le_refl _) (Lib.hid hR5) (Lib.hid hR11)).mono ?_
                  rintro e wn ⟨ng12, A12, n12, c12, rfl, hH, k9, hbn⟩
                  exact hK.out _ _ _ rfl ⟨ng12, A12, n12, c12, rfl, hH, by omega⟩ (fun j u hj hji hu h1 h2 => absurd h1 List.not_mem_nil) hbn
                · obtain rfl := Option.some.inj (show some _ = some o from ho)
                  show JStep _ _ _ _ _ _ _ _ _ wx
                  clear hv ho hS 
                  try simp only [zA, zB, zC, Act.put, zD, zE, zF]
                  refine ⟨by rfl, fun K hK => ?_⟩
                  go_simp
                  have hbn : Below wx.heap.size wx (wx.alloc (.cells #[.bool false, .slice none 0 0] 82)) := (Below.refl _ _).alloc (Nat.le_refl _) _
                  exact hK.out _ _ _ rfl ⟨_, rfl, hg.size, heap_alloc_new _ _⟩ (fun j u hj hji hu h1 h2 => absurd h1 List.not_mem_nil) hbn
              · intro vs wx hg hv hx
                have h12 : IV ((ptV p2).num * ((ptV p1).den : Int) - (ptV p1).num * ((ptV p2).den : Int)) 4002 (vs 12) wx := hv 12 (by decide)
                obtain ⟨ng12, A12, n12, c12, e12, hR12, k12⟩ := h12
                have h13 : BxV wd.heap.size 82 #[.bool false, .slice none 0 0] (vs 13) wx := hv 13 (by decide)
                obtain ⟨g17, e13, hN17, hG17⟩ := h13
                show HL _ _ _ _ _ _ _ _ _ (Act.put (Act.put (Act.put (Act.put _ (some 99) (vs 5)) (some 105) (vs 11)) (some 106) (vs 12)) (some 17) (vs 13)) wx
                rw [e12, e13]
                clear hv hx HBc e12 e13
                obtain ⟨v5, hv5⟩ : ∃ x, vs 5 = x := ⟨_, rfl⟩
                rw [hv5]
                clear hv5
                obtain ⟨v11, hv11⟩ : ∃ x, vs 11 = x := ⟨_, rfl⟩
                rw [hv11]
                clear hv11
                try simp only [zA, zB, zC, Act.put, zD, zE, zF]
                have HBc := Lib.hid hg
                obtain ⟨wc, rfl⟩ : ∃ x : World, x = wx := ⟨_, rfl⟩
                obtain ⟨r50, r51, f50, f51⟩ := two_cells hG17
                have hS := True.intro
                refine HL.done (by kernel_rfl) ?_
                clear hS
                simp only [List.drop_succ_cons, List.drop_zero]
                obtain ⟨wf, hV, HIZ, RB⟩ := ibox_store hG17 hR12 k12
                have HBdf : Hid (Below wd.heap.size wd wf) := RB.out _ _ hN17 HBc.out
                clear RB hR12 hG17 HBc
                go_upto_region 16 with (fail)
                rw [← hV]
                clear hV r50 r51 f50 f51
                have hbw4 : b < wf.heap.size := Nat.lt_of_lt_of_le hbw3 HBdf.out.size
                have cA := (HBdf.out.cell (p := ⟨b, o + j0 * 3, none⟩) hbw3).trans cAb
                have cB := (HBdf.out.cell (p := ⟨b, o + (j0 + 1) * 3, none⟩) hbw3).trans cBb
                clear cAb cBb hbw3
                obtain ⟨ngL, AL, nL, cL, bL, hL, hkL⟩ := HIL.out.below HBdf.out
                obtain ⟨qL0, qL1, _, _⟩ := two_cells bL
                have HBL := Lib.hid bL
                have HLo := Lib.hid hL
                have HBPf := Lib.hid ((HBdf.out.block g14 (blk_lt HBP.out)).trans HBP.out)
                have HBQf := Lib.hid ((HBdf.out.block g15 (blk_lt HBQ.out)).trans HBQ.out)
                have HPf := Lib.hid (HP.out.later HBdf.out)
                have HQf := Lib.hid (HQ.out.later HBdf.out)
                clear bL hL HIL HBP HBQ HP HQ qP0 qP1 qP2 qQ0 qQ1 qQ2
                have HBP := HBPf
                have HBQ := HBQf
                have HP := HPf
                have HQ := HQf
                clear HBPf HBQf HPf HQf
                obtain ⟨qP0, qP1, qP2, _, _, _⟩ := r3_cells HBP.out
                obtain ⟨_, _, qQ2, _, _, _⟩ := r3_cells HBQ.out
                have HB1f := Lib.hid (HB1d.out.trans (HBdf.out.mono HB1d.out.size))
                have hgz : g0 + 1 ≤ g17 := by have := HA1.out.size; have := HB1d.out.size; have := HBW.out.size; omega
                clear HB1d HBdf
                refine wp_region_head 8 (fun x9 => x9.cell? ⟨g14, 1, none⟩ = some (.slice AP nP cP) ∧ x9.cell? ⟨g14, 2, none⟩ = some (.slice DP dP eP) ∧ x9.cell? ⟨g15, 2, none⟩ = some (.slice DQ dQ eQ) ∧ x9.cell? ⟨g16, 1, none⟩ = some (.slice AL nL cL)) (by kernel_rfl) (by kernel_rfl) ?_
                obtain ⟨wc, hwc⟩ : ∃ x : World, x = wf.drew := ⟨_, rfl⟩
                have hbn : Below wf.heap.size wf wf.drew := (Below.refl _ _).drew
                have HP := Lib.hid (HP.out.to hbn (Nat.le_refl _) hbn.size)
                have HQ := Lib.hid (HQ.out.to hbn (Nat.le_refl _) hbn.size)
                have HLo := Lib.hid (HLo.out.to hbn (Nat.le_refl _) hbn.size)
                clear hbn
                have HBc : Hid (Below wf.heap.size wf wc) := by show Below _ _ _; rw [hwc]; exact (Below.refl _ _).drew
                have hS : wc.cell? ⟨g14, 1, none⟩ = some (.slice AP nP cP) ∧ wc.cell? ⟨g14, 2, none⟩ = some (.slice DP dP eP) ∧ wc.cell? ⟨g15, 2, none⟩ = some (.slice DQ dQ eQ) ∧ wc.cell? ⟨g16, 1, none⟩ = some (.slice AL nL cL) := by rw [hwc]; exact ⟨qP1, qP2, qQ2, qL1⟩
                have hg_0 : g14 < wc.heap.size := by rw [hwc]; exact blk_lt HBP.out
                have hg_1 : g15 < wc.heap.size := by rw [hwc]; exact blk_lt HBQ.out
                have hg_2 : g16 < wc.heap.size := by rw [hwc]; exact blk_lt HBL.out
                rw [← hwc] at HP HQ HLo
                rw [← hwc]
                clear hwc
                refine HL.take (i := 0) (oi := _) (v := ?_) rfl (by kernel_rfl) (by kernel_rfl) (by decide) (fun _ _ _ h => h) (Or.inl ⟨by rfl, ?_⟩) hS ?_
                rotate_left
                · intro wz hwz
                  try dsimp only at hwz
                  go_simp
                  try with_reducible rfl
                simp only [zA, zB, zC, Act.put, zD, zE, zF]
                refine HL.take (i := 1) (oi := _) (v := ?_) rfl (by kernel_rfl) (by kernel_rfl) (by decide) (fun _ _ _ h => h) (Or.inl ⟨by rfl, ?_⟩) hS ?_
                rotate_left
                · intro wz hwz
                  try dsimp only at hwz
                  go_simp
                  try with_reducible rfl
                simp only [zA, zB, zC, Act.put, zD, zE, zF]
                refine HL.take (i := 2) (oi := _) (v := ?_) rfl (by kernel_rfl) (by kernel_rfl) (by decide) (fun _ _ _ h => h) (Or.inl ⟨by rfl, ?_⟩) hS ?_
                rotate_left
                · intro wz hwz
                  try dsimp only at hwz
                  go_simp
                  try with_reducible rfl
                simp only [zA, zB, zC, Act.put, zD, zE, zF]
                refine HL.take (i := 3) (oi := _) (v := ?_) rfl (by kernel_rfl) (by kernel_rfl) (by decide) (fun _ _ _ h => h) (Or.inl ⟨by rfl, ?_⟩) hS ?_
                rotate_left
                · intro wz hwz
                  try dsimp only at hwz
                  go_simp
                  try with_reducible rfl
                simp only [zA, zB, zC, Act.put, zD, zE, zF]
                refine HL.take (i := 5) (oi := _) (v := ?_) rfl (by kernel_rfl) (by kernel_rfl) (by decide) (fun _ _ _ h => h) (Or.inl ⟨by rfl, ?_⟩) hS ?_
                rotate_left
                · intro wz hwz
                  try dsimp only at hwz
                  go_simp
                  try with_reducible rfl
                simp only [zA, zB, zC, Act.put, zD, zE, zF]
                refine HL.take (i := 6) (oi := _) (v := ?_) rfl (by kernel_rfl) (by kernel_rfl) (by decide) (fun _ _ _ h => h) (Or.inl ⟨by rfl, ?_⟩) hS ?_
                rotate_left
                · intro wz hwz
                  try dsimp only at hwz
                  go_simp
                  try with_reducible rfl
                simp only [zA, zB, zC, Act.put, zD, zE, zF]
                refine HL.one (i := 4) (o := _) rfl (by kernel_rfl) (by decide) (by rfl) ?_
                intro K hK
                go_simp
                refine (NMUL_any DP DQ dP eP _ dQ eQ _ (by omega) (by omega) _ wc.heap.size (Nat.le_refl _) (Lib.hid HP.out.2) (Lib.hid HQ.out.2)).mono ?_
                rintro e wn ⟨A1, n1, c1, rfl, hH1, k1, hbn⟩
                have H1 := Lib.hid hH1
                clear hH1
                replace HP := Lib.hid (HP.out.to hbn (Nat.le_refl _) hbn.size)
                replace HQ := Lib.hid (HQ.out.to hbn (Nat.le_refl _) hbn.size)
                replace HLo := Lib.hid (HLo.out.to hbn (Nat.le_refl _) hbn.size)
                have HBn := Lib.hid (HBc.out.trans (hbn.mono HBc.out.size))
                have hSn : wn.cell? ⟨g14, 1, none⟩ = some (.slice AP nP cP) ∧ wn.cell? ⟨g14, 2, none⟩ = some (.slice DP dP eP) ∧ wn.cell? ⟨g15, 2, none⟩ = some (.slice DQ dQ eQ) ∧ wn.cell? ⟨g16, 1, none⟩ = some (.slice AL nL cL) := ⟨(hbn.cell (p := ⟨g14, 1, none⟩) hg_0).trans hS.1, (hbn.cell (p := ⟨g14, 2, none⟩) hg_0).trans hS.2.1, (hbn.cell (p := ⟨g15, 2, none⟩) hg_1).trans hS.2.2.1, (hbn.cell (p := ⟨g16, 1, none⟩) hg_2).trans hS.2.2.2⟩
                have hgn_0 := Nat.lt_of_lt_of_le hg_0 hbn.size
                have hgn_1 := Nat.lt_of_lt_of_le hg_1 hbn.size
                have hgn_2 := Nat.lt_of_lt_of_le hg_2 hbn.size
                refine hK.out _ _ hSn ?_
                clear hK K hS HBc hg_0 hg_1 hg_2
                try simp only [zA, zB, zC, Act.put, zD, zE, zF]
                have hS := hSn
                have HBc := HBn
                have hg_0 := hgn_0
                have hg_1 := hgn_1
                have hg_2 := hgn_2
                clear hSn HBn hbn hgn_0 hgn_1 hgn_2
                obtain ⟨wc, rfl⟩ : ∃ x : World, x = wn := ⟨_, rfl⟩
                refine HL.one (i := 7) (o := _) rfl (by kernel_rfl) (by decide) (by rfl) ?_
                intro K hK
                go_simp
                refine (NMUL_any A1 AL n1 c1 _ nL cL _ (by omega) (by omega) _ wc.heap.size (Nat.le_refl _) H1 (Lib.hid HLo.out.2)).mono ?_
                rintro e wn ⟨A2, n2, c2, rfl, hH2, k2, hbn⟩
                have H2 := Lib.hid hH2
                clear hH2
                clear H1
                replace HP := Lib.hid (HP.out.to hbn (Nat.le_refl _) hbn.size)
                replace HQ := Lib.hid (HQ.out.to hbn (Nat.le_refl _) hbn.size)
                replace HLo := Lib.hid (HLo.out.to hbn (Nat.le_refl _) hbn.size)
                have HBn := Lib.hid (HBc.out.trans (hbn.mono HBc.out.size))
                have hSn : wn.cell? ⟨g14, 1, none⟩ = some (.slice AP nP cP) ∧ wn.cell? ⟨g14, 2, none⟩ = some (.slice DP dP eP) ∧ wn.cell? ⟨g15, 2, none⟩ = some (.slice DQ dQ eQ) ∧ wn.cell? ⟨g16, 1, none⟩ = some (.slice AL nL cL) := ⟨(hbn.cell (p := ⟨g14, 1, none⟩) hg_0).trans hS.1, (hbn.cell (p := ⟨g14, 2, none⟩) hg_0).trans hS.2.1, (hbn.cell (p := ⟨g15, 2, none⟩) hg_1).trans hS.2.2.1, (hbn.cell (p := ⟨g16, 1, none⟩) hg_2).trans hS.2.2.2⟩
                have hgn_0 := Nat.lt_of_lt_of_le hg_0 hbn.size
                have hgn_1 := Nat.lt_of_lt_of_le hg_1 hbn.size
                have hgn_2 := Nat.lt_of_lt_of_le hg_2 hbn.size
                refine hK.out _ _ hSn ?_
                clear hK K hS HBc hg_0 hg_1 hg_2
                try simp only [zA, zB, zC, Act.put, zD, zE, zF]
                have hS := hSn
                have HBc := HBn
                have hg_0 := hgn_0
                have hg_1 := hgn_1
                have hg_2 := hgn_2
                clear hSn HBn hbn hgn_0 hgn_1 hgn_2
                obtain ⟨wc, rfl⟩ : ∃ x : World, x = wn := ⟨_, rfl⟩
                refine HL.done (by kernel_rfl) ?_
                clear hS
                simp only [List.drop_succ_cons, List.drop_zero]
                go_upto_region 17 with (fail)
                obtain ⟨wg, rfl⟩ : ∃ x : World, x = wc := ⟨_, rfl⟩
                have hbw3 : b < wg.heap.size := Nat.lt_of_lt_of_le hbw4 HBc.out.size
                have cAb := (HBc.out.cell (p := ⟨b, o + j0 * 3, none⟩) hbw4).trans cA
                have cBb := (HBc.out.cell (p := ⟨b, o + (j0 + 1) * 3, none⟩) hbw4).trans cB
                have HBPf := Lib.hid ((HBc.out.block g14 (blk_lt HBP.out)).trans HBP.out)
                have HBQf := Lib.hid ((HBc.out.block g15 (blk_lt HBQ.out)).trans HBQ.out)
                have HBLf := Lib.hid ((HBc.out.block g16 (blk_lt HBL.out)).trans HBL.out)
                obtain ⟨ngZ, AZ, nZ, cZ, bZ, hZ, hkZ⟩ := HIZ.out.below HBc.out
                have HB1g := Lib.hid (HB1f.out.trans (HBc.out.mono HB1f.out.size))
                clear cA cB HBP HBQ HBL qP0 qP1 qP2 qQ2 qL0 qL1 hbw4 HIZ HB1f HBc
                have cA := cAb
                have cB := cBb
                have HBP := HBPf
                have HBQ := HBQf
                have HBL := HBLf
                have HBZ := Lib.hid bZ
                have HZ := Lib.hid hZ
                clear cAb cBb HBPf HBQf HBLf bZ hZ
                obtain ⟨qP0, qP1, qP2, _, _, _⟩ := r3_cells HBP.out
                obtain ⟨_, _, qQ2, _, _, _⟩ := r3_cells HBQ.out
                obtain ⟨qL0, qL1, _, _⟩ := two_cells HBL.out
                obtain ⟨qZ0, qZ1, _, _⟩ := two_cells HBZ.out
                obtain ⟨mm, hmm, HLIM0⟩ : ∃ mm, mm ≤ 4004 ∧ ∀ j : Nat, j ≤ 200000 → (lineZ (ptV p1) (ptV p2) (p2.at_ - p1.at_) ((j : Int) - p1.at_)).natAbs < 4294967296 ^ mm := ⟨4003 + 1, by decide, fun j hj =>
                  walk_limbs (m3 := 1) (m5 := 1) (m := 4003) (by decide) (HP.out.lt_pow hkP hlP).1 (HQ.out.lt_pow hkQ hlQ).2 (by rw [Nat.pow_one]; omega) (HZ.out.lt_pow hkZ) (by rw [Nat.pow_one]; omega) (by decide) (by decide)⟩
                have HLIM := Lib.hid HLIM0
                clear HLIM0
                have HX2 : Hid (NumAt .u32 164 4294967296 wg wg.heap.size A2 n2 c2 (lineX (ptV p1) (ptV p2) (p2.at_ - p1.at_))) := H2.out
                clear H2
                refine wp_region_head 21 (fun x9 => x9.cell? ⟨g14, 0, none⟩ = some (.bool ngP) ∧ x9.cell? ⟨g14, 1, none⟩ = some (.slice AP nP cP) ∧ x9.cell? ⟨g14, 2, none⟩ = some (.slice DP dP eP) ∧ x9.cell? ⟨g15, 2, none⟩ = some (.slice DQ dQ eQ) ∧ x9.cell? ⟨g16, 0, none⟩ = some (.bool ngL) ∧ x9.cell? ⟨g16, 1, none⟩ = some (.slice AL nL cL) ∧ x9.cell? ⟨g17, 0, none⟩ = some (.bool ngZ) ∧ x9.cell? ⟨g17, 1, none⟩ = some (.slice AZ nZ cZ) ∧ x9.cell? ⟨b, o + j0 * 3, none⟩ = some (.int .i64 p1.at_)) (by kernel_rfl) (by kernel_rfl) ?_
                obtain ⟨wc, hwc⟩ : ∃ x : World, x = wg.drew := ⟨_, rfl⟩
                have HBc : Hid (Below wg.heap.size wg wc) := by show Below _ _ _; rw [hwc]; exact (Below.refl _ _).drew
                have hS : wc.cell? ⟨g14, 0, none⟩ = some (.bool ngP) ∧ wc.cell? ⟨g14, 1, none⟩ = some (.slice AP nP cP) ∧ wc.cell? ⟨g14, 2, none⟩ = some (.slice DP dP eP) ∧ wc.cell? ⟨g15, 2, none⟩ = some (.slice DQ dQ eQ) ∧ wc.cell? ⟨g16, 0, none⟩ = some (.bool ngL) ∧ wc.cell? ⟨g16, 1, none⟩ = some (.slice AL nL cL) ∧ wc.cell? ⟨g17, 0, none⟩ = some (.bool ngZ) ∧ wc.cell? ⟨g17, 1, none⟩ = some (.slice AZ nZ cZ) ∧ wc.cell? ⟨b, o + j0 * 3, none⟩ = some (.int .i64 p1.at_) := by rw [hwc]; exact ⟨qP0, qP1, qP2, qQ2, qL0, qL1, qZ0, qZ1, cA⟩
                rw [← hwc]
                clear hwc
                refine HL.take (i := 0) (oi := _) (v := ?_) rfl (by kernel_rfl) (by kernel_rfl) (by decide) (fun _ _ _ h => h) (Or.inl ⟨by rfl, ?_⟩) hS ?_
                rotate_left
                · intro wz hwz
                  try dsimp only at hwz
                  go_simp
                  try with_reducible rfl
                simp only [zA, zB, zC, Act.put, zD, zE, zF]
                refine HL.take (i := 1) (oi := _) (v := ?_) rfl (by kernel_rfl) (by kernel_rfl) (by decide) (fun _ _ _ h => h) (Or.inl ⟨by rfl, ?_⟩) hS ?_
                rotate_left
                · intro wz hwz
                  try dsimp only at hwz
                  go_simp
                  try with_reducible rfl
                simp only [zA, zB, zC, Act.put, zD, zE, zF]
                refine HL.take (i := 2) (oi := _) (v := ?_) rfl (by kernel_rfl) (by kernel_rfl) (by decide) (fun _ _ _ h => h) (Or.inl ⟨by rfl, ?_⟩) hS ?_
                rotate_left
                · intro wz hwz
                  try dsimp only at hwz
                  go_simp
                  try with_reducible rfl
                simp only [zA, zB, zC, Act.put, zD, zE, zF]
                refine HL.take (i := 3) (oi := _) (v := ?_) rfl (by kernel_rfl) (by kernel_rfl) (by decide) (fun _ _ _ h => h) (Or.inl ⟨by rfl, ?_⟩) hS ?_
                rotate_left
                · intro wz hwz
                  try dsimp only at hwz
                  go_simp
                  try with_reducible rfl
                simp only [zA, zB, zC, Act.put, zD, zE, zF]
                refine HL.take (i := 4) (oi := _) (v := ?_) rfl (by kernel_rfl) (by kernel_rfl) (by decide) (fun _ _ _ h => h) (Or.inl ⟨by rfl, ?_⟩) hS ?_
                rotate_left
                · intro wz hwz
                  try dsimp only at hwz
                  go_simp
                  try with_reducible rfl
                simp only [zA, zB, zC, Act.put, zD, zE, zF]
                refine HL.take (i := 6) (oi := _) (v := ?_) rfl (by kernel_rfl) (by kernel_rfl) (by decide) (fun _ _ _ h => h) (Or.inl ⟨by rfl, ?_⟩) hS ?_
                rotate_left
                · intro wz hwz
                  try dsimp only at hwz
                  go_simp
                  try with_reducible rfl
                simp only [zA, zB, zC, Act.put, zD, zE, zF]
                refine HL.take (i := 8) (oi := _) (v := ?_) rfl (by kernel_rfl) (by kernel_rfl) (by decide) (fun _ _ _ h => h) (Or.inl ⟨by rfl, ?_⟩) hS ?_
                rotate_left
                · intro wz hwz
                  try dsimp only at hwz
                  go_simp
                  try with_reducible rfl
                simp only [zA, zB, zC, Act.put, zD, zE, zF]
                refine HL.take (i := 9) (oi := _) (v := ?_) rfl (by kernel_rfl) (by kernel_rfl) (by decide) (fun _ _ _ h => h) (Or.inl ⟨by rfl, ?_⟩) hS ?_
                rotate_left
                · intro wz hwz
                  try dsimp only at hwz
                  go_simp
                  try with_reducible rfl
                simp only [zA, zB, zC, Act.put, zD, zE, zF]
                refine HL.take (i := 10) (oi := _) (v := ?_) rfl (by kernel_rfl) (by kernel_rfl) (by decide) (fun _ _ _ h => h) (Or.inl ⟨by rfl, ?_⟩) hS ?_
                rotate_left
                · intro wz hwz
                  try dsimp only at hwz
                  go_simp
                  try with_reducible rfl
                simp only [zA, zB, zC, Act.put, zD, zE, zF]
                refine HL.take (i := 11) (oi := _) (v := ?_) rfl (by kernel_rfl) (by kernel_rfl) (by decide) (fun _ _ _ h => h) (Or.inl ⟨by rfl, ?_⟩) hS ?_
                rotate_left
                · intro wz hwz
                  try dsimp only at hwz
                  go_simp
                  try with_reducible rfl
                simp only [zA, zB, zC, Act.put, zD, zE, zF]
                refine HL.take (i := 12) (oi := _) (v := ?_) rfl (by kernel_rfl) (by kernel_rfl) (by decide) (fun _ _ _ h => h) (Or.inl ⟨by rfl, ?_⟩) hS ?_
                rotate_left
                · intro wz hwz
                  try dsimp only at hwz
                  go_simp
                  try with_reducible rfl
                simp only [zA, zB, zC, Act.put, zD, zE, zF]
                refine HL.take (i := 13) (oi := _) (v := ?_) rfl (by kernel_rfl) (by kernel_rfl) (by decide) (fun _ _ _ h => h) (Or.inl ⟨by rfl, ?_⟩) hS ?_
                rotate_left
                · intro wz hwz
                  try dsimp only at hwz
                  go_simp
                  try with_reducible rfl
                simp only [zA, zB, zC, Act.put, zD, zE, zF]
                refine HL.take (i := 14) (oi := _) (v := ?_) rfl (by kernel_rfl) (by kernel_rfl) (by decide) (fun _ _ _ h => h) (Or.inl ⟨by rfl, ?_⟩) hS ?_
                rotate_left
                · intro wz hwz
                  try dsimp only at hwz
                  go_simp
                  try with_reducible rfl
                simp only [zA, zB, zC, Act.put, zD, zE, zF]
                refine HL.take (i := 15) (oi := _) (v := ?_) rfl (by kernel_rfl) (by kernel_rfl) (by decide) (fun _ _ _ h => h) (Or.inl ⟨by rfl, ?_⟩) hS ?_
                rotate_left
                · intro wz hwz
                  try dsimp only at hwz
                  go_simp
                  try with_reducible rfl
                simp only [zA, zB, zC, Act.put, zD, zE, zF]
                refine HL.take (i := 16) (oi := _) (v := ?_) rfl (by kernel_rfl) (by kernel_rfl) (by decide) (fun _ _ _ h => h) (Or.inl ⟨by rfl, ?_⟩) hS ?_
                rotate_left
                · intro wz hwz
                  try dsimp only at hwz
                  go_simp
                  try with_reducible rfl
                simp only [zA, zB, zC, Act.put, zD, zE, zF]
                rw [IntWalk.i64_in ((k : Int) - p1.at_) (by omega)]
                refine HL.join [5, 7, 17, 18, 19, 20] [[], [], [], [], [], [], [], [5], [], [], [], [], [], [], [], [], [], [5, 7], [5, 7, 17], [5, 7, 17, 18], [], [5, 7, 17, 18, 19, 20]] (fun i v wx => match i with | 5 => IV ((ptV p1).num * ((ptV p2).den : Int)) 4001 v wx | 7 => IV ((ptV p1).num * ((ptV p2).den : Int) * (p2.at_ - p1.at_)) 4003 v wx | 17 => IV ((k : Int) - p1.at_) 2 v wx | 18 => IV (((ptV p2).num * ((ptV p1).den : Int) - (ptV p1).num * ((ptV p2).den : Int)) * ((k : Int) - p1.at_)) 4004 v wx | 19 => IV ((ptV p1).num * ((ptV p2).den : Int) * (p2.at_ - p1.at_) + ((ptV p2).num * ((ptV p1).den : Int) - (ptV p1).num * ((ptV p2).den : Int)) * ((k : Int) - p1.at_)) 4005 v wx | 20 => BxV wg.heap.size 82 #[.bool false, .slice none 0 0] v wx | _ => True) (FrV []) (fun wx => Below wg.heap.size wg wx) (fun wx wy => Below wx.heap.size wx wy) (by kernel_rfl) rfl ?_ ?_ ?_ HBc.out ?_ ?_
                · intro wx hg
                  exact ⟨(hg.cell (p := ⟨g14, 0, none⟩) (blk_lt HBP.out)).trans qP0, (hg.cell (p := ⟨g14, 1, none⟩) (blk_lt HBP.out)).trans qP1, (hg.cell (p := ⟨g14, 2, none⟩) (blk_lt HBP.out)).trans qP2, (hg.cell (p := ⟨g15, 2, none⟩) (blk_lt HBQ.out)).trans qQ2, (hg.cell (p := ⟨g16, 0, none⟩) (blk_lt HBL.out)).trans qL0, (hg.cell (p := ⟨g16, 1, none⟩) (blk_lt HBL.out)).trans qL1, (hg.cell (p := ⟨g17, 0, none⟩) (blk_lt HBZ.out)).trans qZ0, (hg.cell (p := ⟨g17, 1, none⟩) (blk_lt HBZ.out)).trans qZ1, (hg.cell (p := ⟨b, o + j0 * 3, none⟩) (hbw3)).trans cA⟩
                · intro wx wy hg hr; exact hg.trans (hr.mono hg.size)
                · intro i v wx wy hi hv hr
                  simp only [List.mem_cons, List.not_mem_nil, or_false] at hi
                  rcases hi with rfl | rfl | rfl | rfl | rfl | rfl
                  · exact hv.below hr
                  · exact hv.below hr
                  · exact hv.below hr
                  · exact hv.below hr
                  · exact hv.below hr
                  · exact hv.below hr
                · intro i o hi ho vs wx hg hv
                  simp only [List.mem_cons, List.not_mem_nil, or_false] at hi
                  rcases hi with rfl | rfl | rfl | rfl | rfl | rfl
                  · obtain rfl := Option.some.inj (show some _ = some o from ho)
                    show JStep _ _ _ _ _ _ _ _ _ wx
                    clear hv ho hS 
                    try simp only [zA, zB, zC, Act.put, zD, zE, zF]
                    refine ⟨by rfl, fun K hK => ?_⟩
                    go_simp
                    refine (IMUL_any ngP false AP DQ nP cP dQ eQ _ _ (by omega) (by omega) _ wx.heap.size (Nat.le_refl _) (Lib.hid (HP.out.1.to hg (Nat.le_refl _) hg.size)) (Lib.hid (IntAt.ofNat (HQ.out.2.to hg (Nat.le_refl _) hg.size)))).mono ?_
                    rintro e wn ⟨ng5, A5, n5, c5, rfl, hH, k9, hbn⟩
                    exact hK.out _ _ _ rfl ⟨ng5, A5, n5, c5, rfl, hH, by omega⟩ (fun j u hj hji hu h1 h2 => absurd h1 List.not_mem_nil) hbn
                  · obtain rfl := Option.some.inj (show some _ = some o from ho)
                    have h5 : IV ((ptV p1).num * ((ptV p2).den : Int)) 4001 (vs 5) wx := hv 5 (by decide)
                    obtain ⟨ng5, A5, n5, c5, e5, hR5, k5⟩ := h5
                    show JStep _ _ _ _ _ _ _ _ (Act.put _ (some 120) (vs 5)) wx
                    rw [e5]
                    clear hv ho hS e5
                    try simp only [zA, zB, zC, Act.put, zD, zE, zF]
                    refine ⟨by rfl, fun K hK => ?_⟩
                    go_simp
                    refine (IMUL_any ng5 ngL A5 AL n5 c5 nL cL _ _ (by omega) (by omega) _ wx.heap.size (Nat.le_refl _) (Lib.hid hR5) (Lib.hid (HLo.out.to hg (Nat.le_refl _) hg.size))).mono ?_
                    rintro e wn ⟨ng7, A7, n7, c7, rfl, hH, k9, hbn⟩
                    exact hK.out _ _ _ rfl ⟨ng7, A7, n7, c7, rfl, hH, by omega⟩ (fun j u hj hji hu h1 h2 => absurd h1 List.not_mem_nil) hbn
                  · obtain rfl := Option.some.inj (show some _ = some o from ho)
                    show JStep _ _ _ _ _ _ _ _ (Act.put (Act.put _ (some 120) (vs 5)) (some 122) (vs 7)) wx
                    clear hv ho hS 
                    obtain ⟨v5, hv5⟩ : ∃ x, vs 5 = x := ⟨_, rfl⟩
                    rw [hv5]
                    clear hv5
                    obtain ⟨v7, hv7⟩ : ∃ x, vs 7 = x := ⟨_, rfl⟩
                    rw [hv7]
                    clear hv7
                    try simp only [zA, zB, zC, Act.put, zD, zE, zF]
                    refine ⟨by rfl, fun K hK => ?_⟩
                    go_simp
                    refine (IOF_any ((k : Int) - p1.at_) (by omega) (by omega) _).mono ?_
                    rintro e wn ⟨ng17, A17, n17, c17, rfl, hH, k9, hbn⟩
                    exact hK.out _ _ _ rfl ⟨ng17, A17, n17, c17, rfl, hH, by omega⟩ (fun j u hj hji hu h1 h2 => absurd h1 List.not_mem_nil) hbn
                  · obtain rfl := Option.some.inj (show some _ = some o from ho)
                    have h17 : IV ((k : Int) - p1.at_) 2 (vs 17) wx := hv 17 (by decide)
                    obtain ⟨ng17, A17, n17, c17, e17, hR17, k17⟩ := h17
                    show JStep _ _ _ _ _ _ _ _ (Act.put (Act.put (Act.put _ (some 120) (vs 5)) (some 122) (vs 7)) (some 132) (vs 17)) wx
                    rw [e17]
                    clear hv ho hS e17
                    obtain ⟨v5, hv5⟩ : ∃ x, vs 5 = x := ⟨_, rfl⟩
                    rw [hv5]
                    clear hv5
                    obtain ⟨v7, hv7⟩ : ∃ x, vs 7 = x := ⟨_, rfl⟩
                    rw [hv7]
                    clear hv7
                    try simp only [zA, zB, zC, Act.put, zD, zE, zF]
                    refine ⟨by rfl, fun K hK => ?_⟩
                    go_simp
                    refine (IMUL_any ngZ ng17 AZ A17 nZ cZ n17 c17 _ _ (by omega) (by omega) _ wx.heap.size (Nat.le_refl _) (Lib.hid (HZ.out.to hg (Nat.le_refl _) hg.size)) (Lib.hid hR17)).mono ?_
                    rintro e wn ⟨ng18, A18, n18, c18, rfl, hH, k9, hbn⟩
                    exact hK.out _ _ _ rfl ⟨ng18, A18, n18, c18, rfl, hH, by omega⟩ (fun j u hj hji hu h1 h2 => absurd h1 List.not_mem_nil) hbn
                  · obtain rfl := Option.some.inj (show some _ = some o from ho)
                    have h7 : IV ((ptV p1).num * ((ptV p2).den : Int) * (p2.at_ - p1.at_)) 4003 (vs 7) wx := hv 7 (by decide)
                    obtain ⟨ng7, A7, n7, c7, e7, hR7, k7⟩ := h7
                    have h18 : IV (((ptV p2).num * ((ptV p1).den : Int) - (ptV p1).num * ((ptV p2).den : Int)) * ((k : Int) - p1.at_)) 4004 (vs 18) wx := hv 18 (by decide)
                    obtain ⟨ng18, A18, n18, c18, e18, hR18, k18⟩ := h18
                    show JStep _ _ _ _ _ _ _ _ (Act.put (Act.put (Act.put (Act.put _ (some 120) (vs 5)) (some 122) (vs 7)) (some 132) (vs 17)) (some 133) (vs 18)) wx
                    rw [e7, e18]
                    clear hv ho hS e7 e18
                    obtain ⟨v5, hv5⟩ : ∃ x, vs 5 = x := ⟨_, rfl⟩
                    rw [hv5]
                    clear hv5
                    obtain ⟨v17, hv17⟩ : ∃ x, vs 17 = x := ⟨_, rfl⟩
                    rw [hv17]
                    clear hv17
                    try simp only [zA, zB, zC, Act.put, zD, zE, zF]
                    refine ⟨by rfl, fun K hK => ?_⟩
                    go_simp
                    refine (IADD_any ng7 ng18 A7 A18 n7 c7 n18 c18 _ _ (by omega) (by omega) _ wx.heap.size (Nat.le_refl _) (Lib.hid hR7) (Lib.hid hR18)).mono ?_
                    rintro e wn ⟨ng19, A19, n19, c19, rfl, hH, k9, hbn⟩
                    exact hK.out _ _ _ rfl ⟨ng19, A19, n19, c19, rfl, hH, by omega⟩ (fun j u hj hji hu h1 h2 => absurd h1 List.not_mem_nil) hbn
                  · obtain rfl := Option.some.inj (show some _ = some o from ho)
                    show JStep _ _ _ _ _ _ _ _ _ wx
                    clear hv ho hS 
                    try simp only [zA, zB, zC, Act.put, zD, zE, zF]
                    refine ⟨by rfl, fun K hK => ?_⟩
                    go_simp
                    have hbn : Below wx.heap.size wx (wx.alloc (.cells #[.bool false, .slice none 0 0] 82)) := (Below.refl _ _).alloc (Nat.le_refl _) _
                    exact hK.out _ _ _ rfl ⟨_, rfl, hg.size, heap_alloc_new _ _⟩ (fun j u hj hji hu h1 h2 => absurd h1 List.not_mem_nil) hbn
                · intro vs wx hg hv hx
                  have h19 : IV ((ptV p1).num * ((ptV p2).den : Int) * (p2.at_ - p1.at_) + ((ptV p2).num * ((ptV p1).den : Int) - (ptV p1).num * ((ptV p2).den : Int)) * ((k : Int) - p1.at_)) 4005 (vs 19) wx := hv 19 (by decide)
                  obtain ⟨ng19, A19, n19, c19, e19, hR19, k19⟩ := h19
                  have h20 : BxV wg.heap.size 82 #[.bool false, .slice none 0 0] (vs 20) wx := hv 20 (by decide)
                  obtain ⟨g19, e20, hN19, hG19⟩ := h20
                  show HL _ _ _ _ _ _ _ _ _ (Act.put (Act.put (Act.put (Act.put (Act.put (Act.put _ (some 120) (vs 5)) (some 122) (vs 7)) (some 132) (vs 17)) (some 133) (vs 18)) (some 134) (vs 19)) (some 19) (vs 20)) wx
                  rw [e19, e20]
                  clear hv hx HBc e19 e20
                  obtain ⟨v5, hv5⟩ : ∃ x, vs 5 = x := ⟨_, rfl⟩
                  rw [hv5]
                  clear hv5
                  obtain ⟨v7, hv7⟩ : ∃ x, vs 7 = x := ⟨_, rfl⟩
                  rw [hv7]
                  clear hv7
                  obtain ⟨v17, hv17⟩ : ∃ x, vs 17 = x := ⟨_, rfl⟩
                  rw [hv17]
                  clear hv17
                  obtain ⟨v18, hv18⟩ : ∃ x, vs 18 = x := ⟨_, rfl⟩
                  rw [hv18]
                  clear hv18
                  try simp only [zA, zB, zC, Act.put, zD, zE, zF]
                  have HBc := Lib.hid hg
                  obtain ⟨wc, rfl⟩ : ∃ x : World, x = wx := ⟨_, rfl⟩
                  obtain ⟨r50, r51, f50, f51⟩ := two_cells hG19
                  have hS := True.intro
                  have HLM : Hid (n19 ≤ 4004) := Nat.le_trans (hR19.limbs (HLIM.out k (by omega))) hmm
                  refine HL.done (by kernel_rfl) ?_
                  clear hS
                  simp only [List.drop_succ_cons, List.drop_zero]
                  obtain ⟨wh, hV, HIN9, RB⟩ := ibox_store hG19 hR19 HLM.out
                  have HBgh : Hid (Below wg.heap.size wg wh) := RB.out _ _ hN19 HBc.out
                  have HNG := Lib.hid hN19
                  clear RB hR19 hG19 HBc qP0 qP1 qP2 qQ2 qL0 qL1 qZ0 qZ1 hN19 HBP HBQ HBL HP HQ HLo
                  go_upto_region 18 with (fail)
                  rw [← hV]
                  clear hV r50 r51 f50 f51 HLM
                  have cA := (HBgh.out.cell (p := ⟨b, o + (j0 + 1) * 3, none⟩) hbw3).trans cB
                  rw [HA2.out] at cA
                  clear cB hbw3
                  have HGg : Hid (G k wg) := hst.out _ _ _ HGK1.out HB1g.out
                  have HGh : Hid (G k wh) := hst.out _ _ _ HGg.out HBgh.out
                  have HTg := Lib.hid (hty.out _ _ HGg.out)
                  have HAg : Hid (Alt g0 (g0 + 1) W wg) := HA1.out.trans (Alt.of_below HB1g.out)
                  have hgg : g0 + 1 ≤ wg.heap.size := by have := HAg.out.size; omega
                  clear HA1 HGK1 HGK HA HGg HB1g HP1 HP HG1 HGB
                  by_cases hta : till ≤ a2
                  · have hmin : (till : Int) ≤ (a2 : Int) := by omega
                    have hmin2 : min (till : Int) (a2 : Int) = (till : Int) := by omega
                    go_wp2_with fail
                    clear cA hmin hmin2
                    have HST := Lib.hid (show k < till ∧ till ≤ till ∧ till ≤ a2 by omega)
                    go_loopw [9] (fun i wi => ∃ j : Nat, k ≤ j ∧ j ≤ till ∧ i = .int .i64 j ∧ Hid (G j wi) ∧ Hid (Alt g0 (g0 + 1) wg wi) ∧ Hid (IBox wi g19 (lineZ (ptV p1) (ptV p2) (p2.at_ - p1.at_) ((j : Int) - p1.at_)) 4004)) (fun i _ => till - (intOf i).toNat)
                    case atStart => exact ⟨k, Nat.le_refl _, by have := HST.out; omega, rfl, HGh, Alt.of_below HBgh.out, HIN9⟩
                    case round =>
                      obtain ⟨j, hkj, hjs, rfl, HGJ, HAJ, HIJ⟩ := hrel
                      by_cases hjl : j < till
                      · have hj0 : (0 : Int) ≤ (j : Int) := by omega
                        have hjn : (j : Int) < (till : Int) := by omega
                        have hjw : IntKind.i64.wrap ((j : Int) + 1) = (j : Int) + 1 := IntWalk.i64_in _ (by have := HST.out; omega)
                        have hoff : OffG wg.heap.size g0 wg wr := fun k9 hk9 hne => HAJ.out.block k9 hk9 (by omega)
                        have HXr : Hid (NumAt .u32 164 4294967296 wr wr.heap.size A2 n2 c2 (lineX (ptV p1) (ptV p2) (p2.at_ - p1.at_))) := (NumAt.off HX2.out HTg.out (by decide) hoff).mono HAJ.out.size
                        obtain ⟨ngJ, AJ, nJ, cJ, bJ, hJ, hkJ⟩ := HIJ.out
                        obtain ⟨x0, x1, _, _⟩ := two_cells bJ
                        have HBJ := Lib.hid bJ
                        have HJ := Lib.hid hJ
                        have hg19 : g0 + 1 ≤ g19 := by have := HNG.out; omega
                        have HF := Lib.hid (hf.out j wr ngJ AJ A2 nJ cJ n2 c2 _ _ (by have := HST.out; omega) HGJ.out ((Alt.of_below HBW.out).trans (HAg.out.trans HAJ.out)) ⟨HJ.out, HXr.out⟩ (lineX_pos _ _ _ (by omega)) (HVAL.out j (by have := HST.out; omega) (by have := HST.out; omega)) (by omega) (by omega))
                        clear hoff bJ hJ HIJ
                        go_wp2_with fail
                        refine (HF.out).mono ?_
                        rintro e w5 ⟨rfl, hG5, hA5⟩
                        have HG5 := Lib.hid hG5
                        have HA5 : Hid (Alt g0 (g0 + 1) wg w5) := HAJ.out.trans hA5
                        have hg19r := blk_lt HBJ.out
                        have HB5 := Lib.hid ((hA5.block g19 hg19r (.inr hg19)).trans HBJ.out)
                        have HJ5 : Hid (IntAt w5 w5.heap.size ngJ AJ nJ cJ (lineZ (ptV p1) (ptV p2) (p2.at_ - p1.at_) ((j : Int) - p1.at_))) := ⟨HJ.out.1, (NumAt.off HJ.out.2 (hty.out _ _ HGJ.out) (by decide) (fun k9 hk9 hne => hA5.block k9 hk9 (by omega))).mono hA5.size⟩
                        have HZ5 : Hid (IntAt w5 w5.heap.size ngZ AZ nZ cZ (lineR (ptV p1) (ptV p2))) := ⟨HZ.out.1, (NumAt.off HZ.out.2 HTg.out (by decide) (fun k9 hk9 hne => HA5.out.block k9 hk9 (by omega))).mono HA5.out.size⟩
                        have HBZ5 := Lib.hid ((HA5.out.block g17 (blk_lt HBZ.out) (.inr hgz)).trans HBZ.out)
                        obtain ⟨y0, y1, f0, f1⟩ := two_cells HB5.out
                        obtain ⟨z0, z1, _, _⟩ := two_cells HBZ5.out
                        clear hG5 hA5 x0 x1 HF HJ HBJ
                        go_wp2_with fail
                        refine (IADD_any ngJ ngZ AJ AZ nJ cJ nZ cZ _ _ (by omega) (by omega) _ w5.heap.size (Nat.le_refl _) HJ5 HZ5).mono ?_
                        rintro e w6 ⟨ng6, A6, n6, c6, rfl, h6, k6, hb6⟩
                        rw [lineZ_succ] at h6
                        have HB6 := Lib.hid ((hb6.block g19 (blk_lt HB5.out)).trans HB5.out)
                        have h6e : (j : Int) - p1.at_ + 1 = ((j + 1 : Nat) : Int) - p1.at_ := by omega
                        rw [h6e] at h6
                        have HLM : Hid (n6 ≤ 4004) := Nat.le_trans (h6.limbs (HLIM.out (j + 1) (by have := HST.out; omega))) hmm
                        obtain ⟨wV, hV, HIV, RB⟩ := ibox_store HB6.out h6 HLM.out
                        have HG6 : Hid (G (j + 1) w6) := hst.out _ _ _ HG5.out hb6
                        have HGV : Hid (G (j + 1) wV) := by show G _ _; rw [hV]; exact hst2.out _ _ _ _ _ HG6.out ⟨_, _, HB6.out⟩
                        have HAV : Hid (Alt g0 (g0 + 1) wg wV) := by show Alt _ _ _ _; rw [hV]; exact ((HA5.out.trans (Alt.of_below hb6)).set_ (p := ⟨g19, 0, none⟩) HNG.out _).set_ (p := ⟨g19, 1, none⟩) HNG.out _
                        clear y0 y1 z0 z1 f0 f1 RB
                        obtain ⟨y0, y1, f0, f1⟩ := two_cells HB6.out
                        clear h6 hb6 h6e k6
                        go_wp2_with fail
                        rw [← hV]
                        clear hV y0 y1 f0 f1
                        go_roundw
                        case rel => exact ⟨j + 1, by omega, by omega, by go_num, HGV, HAV, HIV⟩
                        case measure => simp [intOf]; omega
                      · obtain rfl : j = till := by omega
                        go_wp2_with fail
                        go_roundw
                        case rel => exact ⟨j, HST.out.2.1, rfl, HGJ, HAg.out.trans HAJ.out⟩
                        case measure => simp [intOf]; have := HST.out; omega
                  · have hmin : ¬ (till : Int) ≤ (a2 : Int) := by omega
                    have hmin2 : min (till : Int) (a2 : Int) = (a2 : Int) := by omega
                    go_wp2_with fail
                    clear cA hmin hmin2
                    have HST := Lib.hid (show k < a2 ∧ a2 ≤ till ∧ a2 ≤ a2 by omega)
                    go_loopw [9] (fun i wi => ∃ j : Nat, k ≤ j ∧ j ≤ a2 ∧ i = .int .i64 j ∧ Hid (G j wi) ∧ Hid (Alt g0 (g0 + 1) wg wi) ∧ Hid (IBox wi g19 (lineZ (ptV p1) (ptV p2) (p2.at_ - p1.at_) ((j : Int) - p1.at_)) 4004)) (fun i _ => a2 - (intOf i).toNat)
                    case atStart => exact ⟨k, Nat.le_refl _, by have := HST.out; omega, rfl, HGh, Alt.of_below HBgh.out, HIN9⟩
                    case round =>
                      obtain ⟨j, hkj, hjs, rfl, HGJ, HAJ, HIJ⟩ := hrel
                      by_cases hjl : j < a2
                      · have hj0 : (0 : Int) ≤ (j : Int) := by omega
                        have hjn : (j : Int) < (a2 : Int) := by omega
                        have hjw : IntKind.i64.wrap ((j : Int) + 1) = (j : Int) + 1 := IntWalk.i64_in _ (by have := HST.out; omega)
                        have hoff : OffG wg.heap.size g0 wg wr := fun k9 hk9 hne => HAJ.out.block k9 hk9 (by omega)
                        have HXr : Hid (NumAt .u32 164 4294967296 wr wr.heap.size A2 n2 c2 (lineX (ptV p1) (ptV p2) (p2.at_ - p1.at_))) := (NumAt.off HX2.out HTg.out (by decide) hoff).mono HAJ.out.size
                        obtain ⟨ngJ, AJ, nJ, cJ, bJ, hJ, hkJ⟩ := HIJ.out
                        obtain ⟨x0, x1, _, _⟩ := two_cells bJ
                        have HBJ := Lib.hid bJ
                        have HJ := Lib.hid hJ
                        have hg19 : g0 + 1 ≤ g19 := by have := HNG.out; omega
                        have HF := Lib.hid (hf.out j wr ngJ AJ A2 nJ cJ n2 c2 _ _ (by have := HST.out; omega) HGJ.out ((Alt.of_below HBW.out).trans (HAg.out.trans HAJ.out)) ⟨HJ.out, HXr.out⟩ (lineX_pos _ _ _ (by omega)) (HVAL.out j (by have := HST.out; omega) (by have := HST.out; omega)) (by omega) (by omega))
                        clear hoff bJ hJ HIJ
                        go_wp2_with fail
                        refine (HF.out).mono ?_
                        rintro e w5 ⟨rfl, hG5, hA5⟩
                        have HG5 := Lib.hid hG5
                        have HA5 : Hid (Alt g0 (g0 + 1) wg w5) := HAJ.out.trans hA5
                        have hg19r := blk_lt HBJ.out
                        have HB5 := Lib.hid ((hA5.block g19 hg19r (.inr hg19)).trans HBJ.out)
                        have HJ5 : Hid (IntAt w5 w5.heap.size ngJ AJ nJ cJ (lineZ (ptV p1) (ptV p2) (p2.at_ - p1.at_) ((j : Int) - p1.at_))) := ⟨HJ.out.1, (NumAt.off HJ.out.2 (hty.out _ _ HGJ.out) (by decide) (fun k9 hk9 hne => hA5.block k9 hk9 (by omega))).mono hA5.size⟩
                        have HZ5 : Hid (IntAt w5 w5.heap.size ngZ AZ nZ cZ (lineR (ptV p1) (ptV p2))) := ⟨HZ.out.1, (NumAt.off HZ.out.2 HTg.out (by decide) (fun k9 hk9 hne => HA5.out.block k9 hk9 (by omega))).mono HA5.out.size⟩
                        have HBZ5 := Lib.hid ((HA5.out.block g17 (blk_lt HBZ.out) (.inr hgz)).trans HBZ.out)
                        obtain ⟨y0, y1, f0, f1⟩ := two_cells HB5.out
                        obtain ⟨z0, z1, _, _⟩ := two_cells HBZ5.out
                        clear hG5 hA5 x0 x1 HF HJ HBJ
                        go_wp2_with fail
                        refine (IADD_any ngJ ngZ AJ AZ nJ cJ nZ cZ _ _ (by omega) (by omega) _ w5.heap.size (Nat.le_refl _) HJ5 HZ5).mono ?_
                        rintro e w6 ⟨ng6, A6, n6, c6, rfl, h6, k6, hb6⟩
                        rw [lineZ_succ] at h6
                        have HB6 := Lib.hid ((hb6.block g19 (blk_lt HB5.out)).trans HB5.out)
                        have h6e : (j : Int) - p1.at_ + 1 = ((j + 1 : Nat) : Int) - p1.at_ := by omega
                        rw [h6e] at h6
                        have HLM : Hid (n6 ≤ 4004) := Nat.le_trans (h6.limbs (HLIM.out (j + 1) (by have := HST.out; omega))) hmm
                        obtain ⟨wV, hV, HIV, RB⟩ := ibox_store HB6.out h6 HLM.out
                        have HG6 : Hid (G (j + 1) w6) := hst.out _ _ _ HG5.out hb6
                        have HGV : Hid (G (j + 1) wV) := by show G _ _; rw [hV]; exact hst2.out _ _ _ _ _ HG6.out ⟨_, _, HB6.out⟩
                        have HAV : Hid (Alt g0 (g0 + 1) wg wV) := by show Alt _ _ _ _; rw [hV]; exact ((HA5.out.trans (Alt.of_below hb6)).set_ (p := ⟨g19, 0, none⟩) HNG.out _).set_ (p := ⟨g19, 1, none⟩) HNG.out _
                        clear y0 y1 z0 z1 f0 f1 RB
                        obtain ⟨y0, y1, f0, f1⟩ := two_cells HB6.out
                        clear h6 hb6 h6e k6
                        go_wp2_with fail
                        rw [← hV]
                        clear hV y0 y1 f0 f1
                        go_roundw
                        case rel => exact ⟨j + 1, by omega, by omega, by go_num, HGV, HAV, HIV⟩
                        case measure => simp [intOf]; omega
                      · obtain rfl : j = a2 := by omega
                        go_wp2_with fail
                        go_roundw
                        case rel => exact ⟨j, HST.out.2.1, rfl, HGJ, HAg.out.trans HAJ.out⟩
                        case measure => simp [intOf]; have := HST.out; omega
                -- H2 HP HQ HLo
    · obtain rfl : k = till := by omega
      go_wp2_with fail
      refine bodyPost_end (v := .tuple #[]) (by simp [results, Tryz.results27, go_sem]) rfl ?_
      exact ⟨rfl, HGK.out, (Alt.of_below HBW.out).trans HA.out⟩
end Go.Proofs.YtkmcohnhanphdaaGreatDoor
/- edit.Render, over any clips (printed by tools/mkrs.py from the text of one point). -/
namespace Go.Proofs.YtkmcohnhanphdaaGreatDoor
open Go.RowKit Go.Dw Go.Maps Go.ChangeMaps Go.MapKept
attribute [local go_sem ↓] Go.wp_at_zero Go.wp_at_succ
theorem own_blk {w w' : World} {B size n m c g : Nat} {e : TypeId} {xs : List Value} (h : w.ownsRow B e size (.slice (some ⟨g, 0, none⟩) m c) n xs) (hb : w'.heap[g]? = w.heap[g]?) : w'.ownsRow B e size (.slice (some ⟨g, 0, none⟩) m c) n xs := by
  refine ⟨h.1, ?_⟩
  rcases h.2 with h0 | ⟨g', cap, cur, hv, hg, hh, r⟩
  · exact .inl h0
  · injection hv with hv e1 e2
    injection hv with hv
    injection hv with hv _ _
    subst hv
    subst e1
    subst e2
    exact .inr ⟨g, _, cur, rfl, hg, hb.trans hh, r⟩
theorem MixJ.box2 {gm g n cap base q : Nat} {K : Nat → Nat} {qs : Nat → Rat} {w : World} (h : MixJ gm g n cap base K qs w) (ht : TyAt 82 w q) (v0 v1 : Value) : MixJ gm g n cap base K qs ((w.setCell ⟨q, 0, none⟩ v0).setCell ⟨q, 1, none⟩ v1) := by
  have hoff : ∀ k, k ≠ q → ((w.setCell ⟨q, 0, none⟩ v0).setCell ⟨q, 1, none⟩ v1).heap[k]? = w.heap[k]? := fun k hk => by
    rw [Below.heap_setCell _ _ _ _ (by simpa using hk), Below.heap_setCell _ _ _ _ (by simpa using hk)]
  have h1 : gm ≠ q := fun e => by
    obtain ⟨cs, fr, h9⟩ := ht
    rw [← e, h.box] at h9
    injection h9 with h9
    injection h9 with _ h9 _
    exact absurd h9 (by decide)
  have h2 : g ≠ q := fun e => by
    obtain ⟨cs, fr, h9⟩ := ht
    obtain ⟨cs', fr', h8⟩ := h.ty
    rw [← e, h8] at h9
    injection h9 with h9
    injection h9 with _ h9 _
    exact absurd h9 (by decide)
  obtain ⟨ls, a1, a2, a3⟩ := h.own
  obtain ⟨cs', fr', h8⟩ := h.ty
  refine ⟨(hoff gm h1).trans h.box, ⟨cs', fr', (hoff g h2).trans h8⟩, ls, ⟨a1.1, own_blk a1.2 (hoff g h2)⟩, a2, fun i hi => (a3 i hi).off ht (by decide) (fun k _ hk => hoff k hk) (by simp)⟩
set_option maxRecDepth 100000 in
set_option maxHeartbeats 16000000 in
theorem ERENDER_any (rate tracks : Int) (A A1 : Option Addr) (n n1 cap cap1 : Nat) (cs : List Cp) (md : List Md) (hz : Hid (∀ c ∈ cs, CpFits c)) (hzm : Hid (∀ m ∈ md, m.name.size ≤ maxLen))
    (w : World) (B : Nat) (hB : B ≤ w.heap.size) (hh : Hid (ClipsAt w B A n cs)) (hm : Hid (MediaAt w B A1 n1 md)) :
    Calls Tryz.prog 8 #[.agg #[.int .i64 rate, .int .i64 tracks, .slice A n cap], .slice A1 n1 cap1] w fun e w' => Below w.heap.size w w' ∧ ((∃ f : Int, f ≠ 0 ∧ e = .returned (.tuple #[.agg #[.int .i64 0, .slice none 0 0], .int .i64 0, .int .i64 f])) ∨
      (∃ v, e = .returned (.tuple #[.agg #[.int .i64 rate, v], .int .i64 (renN md cs tracks.toNat), .int .i64 0]) ∧ chkE rate tracks cs = 0 ∧ MediaOk rate md cs ∧ OwnRows w' w.heap.size v (renS md cs tracks.toNat))) := by
  have hl := Lib.hid hh.out.1
  have law : Keyed Tryz.prog 9 := string_keyed Tryz.underlying9
  obtain ⟨W, g, hW, hg, HG, HBW, HSW⟩ := boxes2c w (.cells #[.int .i64 rate, .int .i64 tracks, .slice A n cap] 24) (.cells #[.int .i64 0, .slice none 0 0] 33)
  obtain ⟨gr, hgr⟩ : ∃ gr, gr = g + 1 := ⟨_, rfl⟩
  rw [← hgr] at HG
  have HG9 := Lib.hid hg
  have HGR := Lib.hid hgr
  obtain ⟨p0, p1, p2, _, _, _⟩ := three_cells HG.out.1
  have hgW := blk_lt HG.out.1
  have hgrW := blk_lt HG.out.2
  have hhW : Hid (ClipsAt W B A n cs) := hh.out.below HBW.out hB
  have hBW : B ≤ W.heap.size := Nat.le_trans hB HBW.out.size
  have hgr0 : w.heap.size ≤ gr := by omega
  go_enter Tryz.func8, Tryz.ntmps8
  go_upto_region 1 with (fail)
  rw [← hW, ← hg, ← hgr]
  clear hW hg hgr
  go_wp2_with fail
  refine (ECHECK_any rate tracks A n cap cs hz W B hBW hhW).mono ?_
  rintro e w1 ⟨rfl, hb1⟩
  obtain ⟨f, hf⟩ : ∃ f, chkE rate tracks cs = f := ⟨_, rfl⟩
  rw [hf]
  have HF := Lib.hid hf
  clear hf
  have HBR := Lib.hid (HBW.out.trans (hb1.mono HBW.out.size))
  have HGE := Lib.hid ((hb1.block g hgW).trans HG.out.1)
  have HGS := Lib.hid ((hb1.block gr hgrW).trans HG.out.2)
  have hg1 := blk_lt HGE.out
  have hgr1 := blk_lt HGS.out
  clear hb1 p0 p1 p2 HG hgW hgrW
  by_cases hf0 : f = 0
  case neg =>
    have hq : (f != 0) = true := by simpa using hf0
    obtain ⟨x0, x1, _, _⟩ := two_cells HGS.out
    clear hf0
    go_wp2_with fail
    have hcc0 := x0
    have hcc1 := x1
    refine end_snd3 rfl rfl rfl x0 x1 ?_
    refine ⟨set2_below HBR.out hgr0, .inl ⟨_, ?_, rfl⟩⟩
    exact fun h => by rw [h] at hq; cases hq
  subst hf0
  have HOK := Lib.hid (chkE_ok HF.out)
  obtain ⟨p0, p1, p2, _, _, _⟩ := three_cells HGE.out
  go_wp2_with fail
  refine (CHECKMEDIA_any rate tracks A A1 n n1 cap cap1 cs md (Lib.hid (fun c hc => ⟨(hz.out c hc).1, (HOK.out.rng c hc).1.1⟩)) hzm (by have := HOK.out.few; have := hl.out; omega) w1 B (Nat.le_trans hB HBR.out.size) (Lib.hid (hh.out.below HBR.out hB)) (Lib.hid (hm.out.below HBR.out hB))).mono ?_
  rintro e w2 ⟨hb2, hres⟩
  have HBR := Lib.hid (HBR.out.trans (hb2.mono HBR.out.size))
  have HGE2 := Lib.hid ((hb2.block g hg1).trans HGE.out)
  have HGS2 := Lib.hid ((hb2.block gr hgr1).trans HGS.out)
  clear hb2 p0 p1 p2 HGE HGS
  rcases hres with ⟨f, hf0, rfl⟩ | ⟨bk, rfl, hmok, hbk, hmed⟩
  · have hq : (f != 0) = true := by simpa using hf0
    obtain ⟨x0, x1, _, _⟩ := two_cells HGS2.out
    have HF0 := Lib.hid hf0
    clear hf0
    go_wp2_with fail
    have hcc0 := x0
    have hcc1 := x1
    refine end_snd3 rfl rfl rfl x0 x1 ?_
    refine ⟨set2_below HBR.out hgr0, .inl ⟨_, ?_, rfl⟩⟩
    exact HF0.out
  have HMOK := Lib.hid hmok
  have HMED := Lib.hid hmed
  clear hmok hmed
  obtain ⟨tn, rfl⟩ : ∃ tn : Nat, tracks = (tn : Int) := ⟨tracks.toNat, by have := HOK.out.t1; omega⟩
  have htn1 : 1 ≤ tn := by have := HOK.out.t1; omega
  have htn : tn ≤ 16 := by have := HOK.out.t2; omega
  obtain ⟨p0, p1, p2, _, _, _⟩ := three_cells HGE2.out
  have hg2 := blk_lt HGE2.out
  have hgr2 := blk_lt HGS2.out
  go_upto_region 8 with (fail)
  obtain ⟨X0, g10, hX0, hg10, HX0, HBX0, HSX0⟩ := cell_new w2 33 #[.int .i64 rate, .slice none 0 0]
  rw [← hX0, ← hg10]
  have HG10 := Lib.hid hg10
  clear hX0 hg10
  have HBR := Lib.hid (HBR.out.trans (HBX0.out.mono HBR.out.size))
  have HGE := Lib.hid ((HBX0.out.block g hg2).trans HGE2.out)
  have HGS := Lib.hid ((HBX0.out.block gr hgr2).trans HGS2.out)
  have hgg10 : g < g10 := by have := HG10.out; omega
  have hgr10 : gr < g10 := by have := HG10.out; omega
  have hw10 : w.heap.size ≤ g10 := by have := HG9.out; omega
  have hbk10 : bk < g10 := by obtain ⟨_, _, _, h9, _⟩ := HMED.out; have := h9.lt; have := HG10.out; omega
  have hBg : B ≤ g10 := by omega
  have HMED : Hid (MedJ bk B md md.length X0) := HMED.out.below HBX0.out (by have := HG10.out; omega) (by have := HG10.out; omega)
  have hg10X := blk_lt HX0.out
  obtain ⟨en, hen⟩ : ∃ en : Nat, endC cs = (en : Int) := ⟨(endC cs).toNat, by have := endC_nn cs; omega⟩
  have HEN := Lib.hid hen
  have hen1 : en ≤ 100000 := by have := HOK.out.end_; omega
  have hn300 : n ≤ 300 := by have := HOK.out.few; have := hl.out; omega
  clear hen HBX0 HSX0 HGE2 HGS2 p0 p1 p2 hg2 hgr2 hg1 hgr1
  obtain ⟨p0, p1, p2, _, _, _⟩ := three_cells HGE.out
  go_wp2_with fail
  clear p0 p1 p2
  go_loopw [11, 43] (fun cl i wt => ∃ (t : Nat) (V : Value) (rows : List Value), t ≤ tn ∧ i = .int .i64 t ∧ cl = .int .i64 (renN md cs t) ∧ Hid (Below g10 X0 wt) ∧ Hid (wt.heap[g10]? = some (.cells #[.int .i64 rate, V] 33 (0, 0))) ∧ Hid (OwnRowsL wt (g10 + 1) V (renS md cs t) rows)) (fun _ i _ => tn - (intOf i).toNat)
  case atStart => exact ⟨0, .slice none 0 0, [], Nat.zero_le _, rfl, rfl, below_self2 (by omega), HX0.out, ⟨World.ownsRow_nil _ _ _ _, fun k r h => by simp at h, fun i j r r' _ h => by simp at h⟩⟩
  case round =>
    obtain ⟨t, V, rows, ht, rfl, rfl, HB, HBOX, HROWS⟩ := hrel
    have hszt : g10 < wr.heap.size := blk_lt HBOX.out
    have HBT := Lib.hid (HBR.out.trans (HB.out.mono hw10))
    by_cases hlt : t < tn
    · have hk0 : (0 : Int) ≤ (t : Int) := by omega
      have hkn : (t : Int) < (tn : Int) := by omega
      obtain ⟨p0, p1, p2, _, _, _⟩ := three_cells ((HB.out.block g hgg10).trans HGE.out)
      have HCL := Lib.hid (hh.out.below HBT.out hB)
      have HRNB := Lib.hid (renN_bd md cs (by rw [HEN.out]; omega) t)
      go_wp2_with fail
      refine (EEND_any A n cap cs (by omega) (Lib.hid (fun c hc => by have := HOK.out.rng c hc; unfold rangeC at this; omega)) wr B (by omega) HCL).mono ?_
      rintro e w3 ⟨rfl, hb3⟩
      rw [HEN.out]
      have hmk := mkRats en (by omega)
      have p2 := (hb3.cell (p := ⟨g, 2, none⟩) (by dsimp only; omega)).trans p2
      clear p0 p1
      go_upto_region 13 with (fail)
      clear hmk
      obtain ⟨g0, hg0⟩ : ∃ g0, w3.heap.size = g0 := ⟨_, rfl⟩
      obtain ⟨gm, hgm⟩ : ∃ gm, g0 + 1 = gm := ⟨_, rfl⟩
      obtain ⟨X1, hX1⟩ : ∃ X, X = ((w3.alloc (.cells (madeCells #[.bool false, .slice none 0 0, .slice none 0 0] (en * 3)) 88)).alloc (.cells #[.slice (some ⟨g0, 0, none⟩) en en] 77)) := ⟨_, rfl⟩
      have HJ0 : Hid (MixJ gm g0 en en g0 (fun _ => 0) (fun _ => 0) X1) := by
        rw [hX1, ← hgm, ← hg0]
        exact MixJ.made w3 en (by omega)
      have HB31 : Hid (Below wr.heap.size wr X1) := by
        rw [hX1]
        exact (hb3.alloc hb3.size _).alloc (by have := hb3.size; simp; omega) _
      rw [hg0, hgm, ← hX1]
      have HG0 : Hid (wr.heap.size ≤ g0 ∧ gm = g0 + 1) := ⟨by rw [← hg0]; exact hb3.size, hgm.symm⟩
      have hg0w : wr.heap.size ≤ g0 := HG0.out.1
      have p2 := (HB31.out.cell (p := ⟨g, 2, none⟩) (by dsimp only; omega)).trans ((HB.out.cell (p := ⟨g, 2, none⟩) hgg10).trans (three_cells HGE.out).2.2.1)
      clear hX1 hb3 hg0 hgm
      go_wp2_with fail
      clear p2
      obtain ⟨wt, hwt⟩ : ∃ wt : World, wt = wr := ⟨_, rfl⟩
      rw [← hwt] at HB HBOX HROWS hszt HBT HCL HB31 HG0 hg0w
      clear hwt
      go_loopw [54] (fun i wr => ∃ k : Nat, k ≤ n ∧ i = .int .i64 k ∧ Hid (Below wt.heap.size wt wr) ∧ Hid (MixJ gm g0 en en g0 (fun _ => k * 20003) (fun p => mixC md (t : Int) (p : Int) (cs.take k)) wr)) (fun i _ => n - (intOf i).toNat)
      case atStart => exact ⟨0, Nat.zero_le _, rfl, HB31.out, HJ0.out⟩
      case round =>
        obtain ⟨k, hk, rfl, HBK, HJ⟩ := hrel
        have hszk := HBK.out.size
        by_cases hkl : k < n
        · have hk0' : (0 : Int) ≤ (k : Int) := by omega
          have hkn' : (k : Int) < (n : Int) := by omega
          obtain ⟨b, o, A', n', c', e, hb, hk7, hn', hc', hp⟩ := (HCL.out.below HBK.out (by omega)).2 k hkl
          subst e
          obtain ⟨k0, k1, k2, k3, k4, k5, k6⟩ := hk7
          have hcm := cp_mem (l := cs) (k := k) (by rw [hl.out]; exact hkl)
          have HMIX := Lib.hid (fun p : Nat => mixC_take (l := md) (t := (t : Int)) (p := (p : Int)) (cs := cs) (k := k) (by rw [hl.out]; exact hkl))
          have HRG := Lib.hid (HOK.out.rng _ hcm)
          have HENV := Lib.hid (HOK.out.env _ hcm)
          have HTH := Lib.hid (HMOK.out.there _ hcm)
          have HZC := Lib.hid (hz.out _ hcm).1
          have HEC : Hid ((cpOf cs k).at_ + (cpOf cs k).len ≤ (en : Int)) := by show _ ≤ _; rw [← HEN.out]; exact endC_mem (by rw [hl.out]; exact hkl)
          obtain ⟨c, hc⟩ : ∃ c, cpOf cs k = c := ⟨_, rfl⟩
          rw [hc] at k0 k1 k2 k3 k4 k5 hp HRG HENV HTH HZC HEC HMIX
          have HP := Lib.hid hp
          clear hc hp hcm
          go_upto_region 16 with (fail)
          obtain ⟨X, gc, hX, hgc, HX, HBX, HSX⟩ := cell_new wr 58 #[.string c.media, .int .i64 c.chan, .int .i64 c.from_, .int .i64 c.track, .int .i64 c.at_, .int .i64 c.len, .slice A' n' c']
          rw [← hX, ← hgc]
          have HGC := Lib.hid hgc
          clear hX hgc k0 k1 k2 k3 k4 k5 k6
          obtain ⟨x0, x1, x2, x3, x4, x5, x6⟩ := seven_cells HX.out
          have HBKX := Lib.hid (HBK.out.trans (HBX.out.mono hszk))
          have HJX : Hid (MixJ gm g0 en en g0 (fun _ => k * 20003) (fun p => mixC md (t : Int) (p : Int) (cs.take k)) X) := HJ.out.below HBX.out
          have HPX : Hid (PtsAt X B A' n' c.env) := HP.out.below HBX.out (by omega)
          have hgcX := blk_lt HX.out
          have hszX := HBX.out.size
          by_cases htr : c.track = (t : Int)
          case neg =>
            have hd1 : (c.track != (t : Int)) = true := by simpa using htr
            have HNX : Hid (MixJ gm g0 en en g0 (fun _ => (k + 1) * 20003) (fun p => mixC md (t : Int) (p : Int) (cs.take (k + 1))) X) := by
              have e9 : (fun p : Nat => mixC md (t : Int) (p : Int) (cs.take (k + 1))) = (fun p : Nat => mixC md (t : Int) (p : Int) (cs.take k)) := funext fun p => by
                rw [HMIX.out p, conC, if_neg (by rintro ⟨h9, _⟩; exact htr h9), Rat.add_zero]
              show MixJ _ _ _ _ _ _ _ _
              rw [e9]
              exact HJX.out.more (fun _ => by omega)
            clear htr HBX HSX HX
            go_wp2_with fail
            go_roundw
            case rel => exact ⟨k + 1, by omega, by go_num, HBKX, HNX⟩
            case measure => simp [intOf]; omega
          have hd1 : (c.track != (t : Int)) = false := by simpa using htr
          have HTR := Lib.hid htr
          clear htr
          obtain ⟨mm, D, hmj, hown, hD⟩ := HMED.out.below (HB.out.trans (HBKX.out.mono (by omega))) hbk10 hBg
          have HOWN := Lib.hid hown
          have HD := Lib.hid hD
          clear hown hD
          obtain ⟨m9, hm9, hnm9, hch9⟩ := HTH.out
          obtain ⟨kk, hkk, hkm⟩ : ∃ kk, kk < md.length ∧ mdOf md kk = m9 := by
            obtain ⟨i, hi, e1⟩ := List.getElem_of_mem hm9
            exact ⟨i, hi, by rw [← e1]; simp [mdOf, List.getD, hi]⟩
          obtain ⟨A9, n9, c9, hat, hn9, hc9, hr9⟩ := HD.out.val kk hkk
          rw [hkm] at hat hr9
          have HTRK : Hid (trackOf md c.media c.chan = rowOf m9.xss c.chan.toNat) := by
            show _ = _
            unfold trackOf sndOf
            rw [← hnm9, find_md HMOK.out.apart hm9]
          have HRT : Hid (∀ x ∈ trackOf md c.media c.chan, smpB x = true) := fun x hx => by
            rw [HTRK.out] at hx
            have h8 := (chkS_ok (HMOK.out.right m9 hm9).2)
            have hcl : c.chan.toNat < m9.xss.length := by have := HRG.out; unfold rangeC at this; omega
            exact List.all_eq_true.1 (h8.row hcl).2 x hx
          rw [hnm9] at hat
          have HAT := Lib.hid hat
          obtain ⟨ch, hch⟩ : ∃ ch : Nat, c.chan = (ch : Int) := ⟨c.chan.toNat, by have := HRG.out; unfold rangeC at this; omega⟩
          have HCH := Lib.hid hch
          have hcn : ch < n9 := by have := hr9.1; omega
          obtain ⟨ad9, e9, had9, As, ns, cps, hcell9, hns, hcps, hi9⟩ := hr9.2.2 ch hcn
          subst e9
          have HXS : Hid (IntsAt X B As ns (trackOf md c.media c.chan)) := by show IntsAt _ _ _ _ _; rw [HTRK.out, HCH.out]; exact hi9
          have hkey := Lib.hid (keyS HZC.out)
          rw [hch] at x1
          have hch0 : (0 : Int) ≤ (ch : Int) := by omega
          have hchn : (ch : Int) < (n9 : Int) := by omega
          have HTL : Hid ((trackOf md c.media c.chan).length ≤ 100000) := by
            show _ ≤ _
            rw [HTRK.out]
            have h8 := (chkS_ok (HMOK.out.right m9 hm9).2)
            have hcl : c.chan.toNat < m9.xss.length := by have := HRG.out; unfold rangeC at this; omega
            rw [(h8.row hcl).1]; exact h8.long
          have hfld := fun W => fld_snd m9.rate (.slice (some ad9) n9 c9) W
          clear hat hm9 hnm9 hch9 hkk hkm hch hr9 hi9
          go_upto_region 18 with (at_lookup; refine wpList_lookup_any _ rfl _ _ 71 rfl 9 33 law Tryz.underlying71 (zeroSnd _) bk mm D rfl HOWN.out _ _ rfl hkey.out _ HAT.out ?_)
          obtain ⟨X3, gs, hX3, hgs, HX3, HBX3, HSX3⟩ := cell_new X 42 #[.slice As ns cps]
          rw [← hX3, ← hgs]
          have HGS3 := Lib.hid hgs
          clear hX3 hgs hfld hcell9 x0 x1 x2 x3 x4 x5 x6 hd1
          have HXC := Lib.hid ((HBX3.out.block gc hgcX).trans HX.out)
          obtain ⟨x0, x1, x2, x3, x4, x5, x6⟩ := seven_cells HXC.out
          have s0 : X3.cell? ⟨gs, 0, none⟩ = some (.slice As ns cps) := by rw [own_cell1 HX3.out 0]; rfl
          have hns9 : ns ≤ 100000 := by have := HXS.out.1; have := HTL.out; omega
          have hf0 : 0 ≤ c.from_ ∧ c.from_ ≤ 10000000000000 := by have := HRG.out; unfold rangeC at this; omega
          have hl0 : 1 ≤ c.len ∧ c.len ≤ 100000 := by have := HRG.out; unfold rangeC at this; omega
          have ha0 : 0 ≤ c.at_ := by have := HRG.out; unfold rangeC at this; omega
          have hw9 := IntWalk.i64_in ((ns : Int) - c.from_) (by omega)
          obtain ⟨mx, hmx⟩ : ∃ mx, max (0 : Int) ((ns : Int) - c.from_) = mx := ⟨_, rfl⟩
          obtain ⟨till, htl⟩ : ∃ till : Nat, min c.len mx = (till : Int) := ⟨(min c.len mx).toNat, by omega⟩
          have HTILL : Hid ((till : Int) = min c.len (max 0 (((trackOf md c.media c.chan).length : Int) - c.from_))) := by show _ = _; rw [HXS.out.1, hmx, htl]
          go_wp2_with fail
          have hgs3 := blk_lt HX3.out
          have hgc3 := blk_lt HXC.out
          have hszX3 := HBX3.out.size
          have hg0X : g0 < X.heap.size := HJX.out.lt
          have hgsg0 : gs ≠ g0 := by have := HGS3.out; omega
          have hgcg0 : gc ≠ g0 := by have := HGC.out; have := HJ.out.lt; omega
          have HG30 : Hid (MixJ gm g0 en en g0 (kC c k 0) (fun p => mixC md (t : Int) (p : Int) (cs.take k) + addC md c 0 p) X3) := by
            have e9 : (fun p : Nat => mixC md (t : Int) (p : Int) (cs.take k) + addC md c 0 p) = (fun p : Nat => mixC md (t : Int) (p : Int) (cs.take k)) := funext fun p => by rw [addC_zero, Rat.add_zero]
            show MixJ _ _ _ _ _ _ _ _
            rw [e9]
            exact (HJX.out.below HBX3.out).more (fun p => by unfold kC; split <;> omega)
          have HXS3 : Hid (IntsAt X3 B As ns (trackOf md c.media c.chan)) := HXS.out.below HBX3.out (by omega)
          have hk301 : (k + 1) * 20003 ≤ 8000000 := by omega
          have HPX3 : Hid (PtsAt X3 B A' n' c.env) := HPX.out.below HBX3.out (by omega)
          have HF : Hid (WalkF (fun i w9 => MixJ gm g0 en en g0 (kC c k i) (fun p => mixC md (t : Int) (p : Int) (cs.take k) + addC md c i p) w9) c till 28 #[.pointer (some ⟨gs, 0, none⟩), .pointer (some ⟨gc, 0, none⟩), .pointer (some ⟨gm, 0, none⟩)] g0 X3) := by
            intro i w9 neg A2 D2 n2 n2' m2 m2' z x hi hG hA hr hx hq hn2 hm2
            have hec := HEC.out
            obtain ⟨p, hp⟩ : ∃ p : Nat, c.at_ + (i : Int) = (p : Int) := ⟨(c.at_ + (i : Int)).toNat, by omega⟩
            obtain ⟨j, hj⟩ : ∃ j : Nat, c.from_ + (i : Int) = (j : Int) := ⟨(c.from_ + (i : Int)).toNat, by omega⟩
            refine (ERENDER1_any gs gc gm g0 en en g0 0 i (kC c k i) (fun p => mixC md (t : Int) (p : Int) (cs.take k) + addC md c i p) c (.slice A' n' c') As ns cps (trackOf md c.media c.chan) neg A2 D2 n2 n2' m2 m2' z x hx hn2 hm2 (by omega) hf0.1 (by omega) ha0 p hp (by omega) j hj (by omega) (by omega) (Nat.le_trans (kC_le _ _ _ _) hk301) HRT w9 B (by have := hA.size; omega) (Lib.hid ((hA.block gs hgs3 (by omega)).trans HX3.out)) (Lib.hid ((hA.block gc hgc3 (by omega)).trans HXC.out)) (Lib.hid (HXS3.out.below (hA.below (by omega) (by omega)) (Nat.le_refl _))) (Lib.hid hG) (Lib.hid hr) hgsg0 hgcg0).mono ?_
            rintro e w8 ⟨rfl, h1, h2⟩
            refine ⟨rfl, ?_, h2⟩
            have e1 : updP (fun p : Nat => mixC md (t : Int) (p : Int) (cs.take k) + addC md c i p) p ((mixC md (t : Int) (p : Int) (cs.take k) + addC md c i p) + mkRat z x * ((elOf (trackOf md c.media c.chan) j : Int) : Rat)) = (fun p : Nat => mixC md (t : Int) (p : Int) (cs.take k) + addC md c (i + 1) p) := funext fun q => by
              rw [addC_step hp q]
              unfold updP
              by_cases hqp : q = p
              · subst hqp
                rw [if_pos rfl, if_pos rfl, addC_at hp, Rat.add_zero, hq, hj, Int.toNat_natCast]
              · rw [if_neg hqp, if_neg hqp]
            rw [e1] at h1
            exact h1.more (fun q => kC_step hp q)
          clear x0 x1 x2 x3 x4 x5 x6 s0
          refine (EWALK_any (fun i w9 => MixJ gm g0 en en g0 (kC c k i) (fun p => mixC md (t : Int) (p : Int) (cs.take k) + addC md c i p) w9) c A' n' c' till 28 #[.pointer (some ⟨gs, 0, none⟩), .pointer (some ⟨gc, 0, none⟩), .pointer (some ⟨gm, 0, none⟩)] g0 HENV (by omega) hl0.2 X3 B (by omega) HPX3 (by omega) (by omega) HG30 (Lib.hid (fun i w8 w9 h hb => h.below hb)) (Lib.hid (fun i w8 q v0 v1 h ht => h.box2 ht v0 v1)) (Lib.hid (fun i w9 h => h.ty)) (fun _ _ => rfl) HF).mono ?_
          rintro e w5 ⟨rfl, hG5, hA5⟩
          have HB5 : Hid (Below wt.heap.size wt w5) := (HBKX.out.trans (HBX3.out.mono (by omega))).trans (hA5.below (by omega) hg0w)
          have HN5 : Hid (MixJ gm g0 en en g0 (fun _ => (k + 1) * 20003) (fun p => mixC md (t : Int) (p : Int) (cs.take (k + 1))) w5) := by
            have e9 : (fun p : Nat => mixC md (t : Int) (p : Int) (cs.take (k + 1))) = (fun p : Nat => mixC md (t : Int) (p : Int) (cs.take k) + addC md c till p) := funext fun p => by
              rw [HMIX.out p, addC_all HTR.out HTILL.out]
            show MixJ _ _ _ _ _ _ _ _
            rw [e9]
            exact hG5.more (fun p => kC_le _ _ _ _)
          clear hG5 hA5 hmx htl
          go_wp2_with fail
          go_roundw
          case rel => exact ⟨k + 1, by omega, by go_num, HB5, HN5⟩
          case measure => simp [intOf]; omega
        · obtain rfl : k = n := by omega
          have HJE : Hid (MixJ gm g0 en en g0 (fun _ => k * 20003) (fun p => mixC md (t : Int) (p : Int) cs) wr) := by
            have h9 := HJ.out
            rw [List.take_of_length_le (by rw [hl.out]; exact Nat.le_refl _)] at h9
            exact h9
          have hgmc : wr.cell? ⟨gm, 0, none⟩ = some (.slice (some ⟨g0, 0, none⟩) en en) := by rw [own_cell1 HJE.out.box 0]; rfl
          have hmk := mkIntsR en (by omega)
          have hgmr := blk_lt HJE.out.box
          clear HJ
          go_upto_region 21 with (fail)
          obtain ⟨gt, hgt⟩ : ∃ gt, wr.heap.size = gt := ⟨_, rfl⟩
          obtain ⟨X5, hX5⟩ : ∃ X, X = wr.alloc (.cells (mk0 (.int .i64 0) en) 3) := ⟨_, rfl⟩
          have HROW0 : Hid (X5.ownsRow wt.heap.size 3 1 (.slice (some ⟨gt, 0, none⟩) en en) en (List.replicate en (.int .i64 0))) := by
            rw [hX5, ← hgt]
            exact own_mk wr wt.heap.size 3 (.int .i64 0) en hszk (by unfold maxLen; omega)
          have HB5 : Hid (Below wr.heap.size wr X5) := by rw [hX5]; exact (Below.refl _ _).alloc (Nat.le_refl _) _
          rw [hgt, ← hX5]
          have HGT := Lib.hid hgt
          have hgmc := (HB5.out.cell (p := ⟨gm, 0, none⟩) hgmr).trans hgmc
          clear hX5 hgt hmk
          go_wp2_with fail
          clear hgmc
          obtain ⟨wm, hwm⟩ : ∃ wm : World, wm = wr := ⟨_, rfl⟩
          rw [← hwm] at HBK HJE HB5 HGT hszk hgmr
          clear hwm
          go_loopw [11, 91] (fun cl i wx => ∃ p : Nat, p ≤ en ∧ i = .int .i64 p ∧ cl = .int .i64 (renN md cs t + ((List.range p).map (nC md cs t)).sum) ∧ Hid (Below wm.heap.size wm wx) ∧ Hid (wx.ownsRow wt.heap.size 3 1 (.slice (some ⟨gt, 0, none⟩) en en) en ((List.range p).map (fun q => Value.int .i64 (vC md cs t q)) ++ List.replicate (en - p) (Value.int .i64 0)))) (fun _ i _ => en - (intOf i).toNat)
          case atStart => exact ⟨0, Nat.zero_le _, rfl, by rw [List.range_zero, List.map_nil, List.sum_nil, Int.add_zero], HB5.out, HROW0.out⟩
          case round =>
            obtain ⟨p, hp, rfl, rfl, HBX, HROW⟩ := hrel
            have hszx := HBX.out.size
            by_cases hpl : p < en
            · have hp0 : (0 : Int) ≤ (p : Int) := by omega
              have hpn : (p : Int) < (en : Int) := by omega
              have HJX := HJE.out.below HBX.out
              obtain ⟨ls, ho, hlen, hsum⟩ := HJX.own
              obtain ⟨neg0, A2, n2, c2, D2, m2, d2, hrec, hn2, hm2, hval⟩ := hsum p hpl
              have hpl2 : p < ls.length := by omega
              obtain ⟨k0, _⟩ := OwnK.cells ho hpl2 (by omega) 0 _ (by rw [hrec]; rfl)
              obtain ⟨k1, _⟩ := OwnK.cells ho hpl2 (by omega) 1 _ (by rw [hrec]; rfl)
              obtain ⟨k2, _⟩ := OwnK.cells ho hpl2 (by omega) 2 _ (by rw [hrec]; rfl)
              rw [Nat.add_zero] at k0
              have HS := Lib.hid (hsum p hpl)
              rw [hrec] at HS
              have hNB := renN_bd md cs (by rw [HEN.out]; omega) t
              have hSB := sumN_bd (nC md cs t) (nC_bd md cs t) p
              have HSTEP := Lib.hid (sumR_step (nC md cs t) p)
              have hnb := nC_bd md cs t p
              have HV : Hid (roundQ2 (mixC md (t : Int) (p : Int) cs) = (vC md cs t p, decide (nC md cs t p = 1))) := rfl
              obtain ⟨q, hq⟩ : ∃ q, mixC md (t : Int) (p : Int) cs = q := ⟨_, rfl⟩
              rw [hq] at HS HV
              obtain ⟨vp, hvp⟩ : ∃ v, vC md cs t p = v := ⟨_, rfl⟩
              obtain ⟨np, hnp⟩ : ∃ v, nC md cs t p = v := ⟨_, rfl⟩
              obtain ⟨s9, hs9⟩ : ∃ v, ((List.range p).map (nC md cs t)).sum = v := ⟨_, rfl⟩
              obtain ⟨r9, hr9⟩ : ∃ v, renN md cs t = v := ⟨_, rfl⟩
              rw [hvp, hnp] at HV
              rw [hnp] at hnb
              rw [hs9] at hSB
              rw [hs9, hnp] at HSTEP
              rw [hr9] at hNB
              rw [hs9]
              rw [hr9]
              have HVP := Lib.hid hvp
              have HR9 := Lib.hid hr9
              clear hq hvp hnp hs9 hr9 hrec hval hsum ho hlen hpl2 HJX hn2 hm2
              go_upto_region 24 with (fail)
              obtain ⟨X6, g6, hX6, hg6, HX6, HBX6, HSX6⟩ := cell_new wr 88 #[.bool neg0, .slice A2 n2 c2, .slice D2 m2 d2]
              rw [← hX6, ← hg6]
              clear hX6 hg6 k0 k1 k2
              obtain ⟨x0, x1, x2, _, _, _⟩ := three_cells HX6.out
              have HS6 : Hid (SumAt X6 X6.heap.size [.bool neg0, .slice A2 n2 c2, .slice D2 m2 d2] q (k * 20003)) := HS.out.below HBX6.out (Nat.le_refl _) HBX6.out.size
              go_wp2_with fail
              refine (EROUNDED_any neg0 A2 D2 n2 c2 m2 d2 (k * 20003) q (by omega) X6 X6.heap.size (Nat.le_refl _) HS6).mono ?_
              rintro e w7 ⟨rfl, hb7⟩
              have HB7 := Lib.hid (HBX6.out.trans (hb7.mono HBX6.out.size))
              rw [HV.out]
              have HBX7 := Lib.hid (HBX.out.trans (HB7.out.mono hszx))
              have HROW7 := Lib.hid (own_below HROW.out HB7.out)
              have hcell := HROW7.out.cellAt p (by omega)
              rw [List.getElem?_append_right (by simp), List.length_map, List.length_range, Nat.sub_self] at hcell
              have hcell2 : w7.cell? ⟨gt, p, none⟩ = some (.int .i64 0) := by rw [hcell]; obtain ⟨m9, hm9⟩ : ∃ m9, en - p = m9 + 1 := ⟨en - p - 1, by omega⟩; rw [hm9]; rfl
              have hfz := HROW7.out.frozenAt p
              have HST := (HROW7.out.stored p (.int .i64 vp)).1
              rw [← HVP.out, list_fill (vC md cs t) en p hpl] at HST
              rw [HVP.out] at HST
              have HST7 := Lib.hid HST
              have hgtw : wm.heap.size ≤ gt := by have := HGT.out; omega
              have HBS := Lib.hid (HBX7.out.setCell (p := ⟨gt, p, none⟩) hgtw (.int .i64 vp))
              clear hcell HST hb7 HBX6 HSX6 HX6 x0 x1 x2 HS6
              by_cases hn1 : np = 1
              · have hdec : decide (np = 1) = true := by simpa using hn1
                have hw1 := IntWalk.i64_in (r9 + s9 + 1) (by omega)
                have HSM : Hid (r9 + s9 + 1 = r9 + ((List.range (p + 1)).map (nC md cs t)).sum) := by show _ = _; rw [HSTEP.out, hn1]; omega
                rw [hdec]
                clear hdec hn1
                go_wp2_with fail
                go_roundw
                case rel => exact ⟨p + 1, by omega, by go_num, by rw [← HSM.out], HBS, HST7⟩
                case measure => simp [intOf]; omega
              · have hdec : decide (np = 1) = false := by simpa using hn1
                have HSM : Hid (r9 + s9 = r9 + ((List.range (p + 1)).map (nC md cs t)).sum) := by show _ = _; rw [HSTEP.out]; omega
                rw [hdec]
                clear hdec hn1
                go_wp2_with fail
                go_roundw
                case rel => exact ⟨p + 1, by omega, by go_num, by rw [← HSM.out], HBS, HST7⟩
                case measure => simp [intOf]; omega
            · obtain rfl : p = en := by omega
              have HROWF : Hid (wr.ownsRow wt.heap.size 3 1 (.slice (some ⟨gt, 0, none⟩) p p) p ((renT md cs (t : Int)).map (Value.int .i64))) := by
                have h9 := HROW.out
                rw [Nat.sub_self, List.replicate_zero, List.append_nil] at h9
                show World.ownsRow _ _ _ _ _ _ _
                rw [renT_eq HEN.out, List.map_map]
                exact h9
              have HNS := Lib.hid (renN_step (md := md) (t := t) HEN.out)
              have HBX1 := Lib.hid (HBK.out.trans (HBX.out.mono hszk))
              have HBOXX := Lib.hid ((HBX1.out.block g10 hszt).trans HBOX.out)
              have hVl : (renS md cs t).length = t := by simp [renS]
              have HOUT := HROWS.out.outer
              rw [hVl] at HOUT
              have HOUTX := Lib.hid (own_below HOUT HBX1.out)
              have hb1 : wr.cell? ⟨g10, 1, none⟩ = some V := by rw [own_cell1 HBOXX.out 1]; rfl
              have hg10x := blk_lt HBOXX.out
              obtain ⟨r9, hr9⟩ : ∃ v, renN md cs t + ((List.range p).map (nC md cs t)).sum = v := ⟨_, rfl⟩
              rw [hr9] at HNS ⊢
              clear hr9 HROW HOUT
              go_wp2_with (at_builtin; refine wpList_push_row rfl (.tmp 110) (.tmp 112) rfl (g10 + 1) V t rows (.slice (some ⟨gt, 0, none⟩) p p) rfl _ rfl rfl rfl HOUTX.out (by omega) (by omega) ?_; intro g9 cap9 w9 ho9 hg9; have HO9 := Lib.hid ho9; have HG9' := Lib.hid hg9; have hb9 := (hg9.block g10 (by simp; omega) (fun e => by have := (own_lt HOUTX.out e.symm).1; omega)).trans ((Below.heap_alloc _ _ _ hg10x).trans HBOXX.out); have HBOX9 := Lib.hid hb9; have c91 := own_cell1 hb9 1; have f91 := frozen_of_row w9 g10 1 _ _ hb9; simp at c91; clear ho9 hg9 hb9 hb1)
              have HB91 : Hid (Below g10 X0 w9) := HB.out.trans (((HBX1.out.mono (by omega)).alloc (by omega) _).grown HG9'.out (by simp; omega) (fun b e => by have := (own_lt HOUTX.out e).1; omega))
              have hlenT : (renT md cs (t : Int)).length = p := by rw [renT_eq HEN.out]; simp
              have hpush := HROWS.out.push (w := wr.alloc (.cells #[.slice (some ⟨gt, 0, none⟩) p p] 42)) (w' := w9) (xs := renT md cs (t : Int)) (HBX1.out.alloc HBX1.out.size _) (by omega) (by rw [hlenT]; exact HROWF.out.alloc _) (by rw [hVl]; exact HO9.out) HG9'.out
              rw [← renS_step md cs t] at hpush
              have HPUSH := Lib.hid hpush
              have hbx := heap_setCell_same w9 g10 1 _ _ (.slice (some ⟨g9, 0, none⟩) (t + 1) cap9) HBOX9.out
              have HBXS := Lib.hid hbx
              clear hpush hlenT hVl c91 f91 hbx
              go_roundw
              case rel =>
                refine ⟨t + 1, .slice (some ⟨g9, 0, none⟩) (t + 1) cap9, rows ++ [.slice (some ⟨gt, 0, none⟩) p p], by omega, by go_num, by rw [HNS.out], HB91.out.setCell (p := ⟨g10, 1, none⟩) (Nat.le_refl _) _, HBXS.out, ?_⟩
                exact HPUSH.out.set_below (p := ⟨g10, 1, none⟩) (by simp) _
              case measure => simp [intOf]; omega
    · obtain rfl : t = tn := by omega
      have hVl : (renS md cs t).length = t := by simp [renS]
      obtain ⟨AV, cV, hVe, _, _⟩ := own_form HROWS.out.outer
      rw [hVl] at hVe
      subst hVe
      have hb0 : wr.cell? ⟨g10, 0, none⟩ = some (.int .i64 rate) := by rw [own_cell1 HBOX.out 0]; rfl
      have hb1 : wr.cell? ⟨g10, 1, none⟩ = some (.slice AV t cV) := by rw [own_cell1 HBOX.out 1]; rfl
      obtain ⟨x0, x1, f0, f1⟩ := two_cells ((HB.out.block gr hgr10).trans HGS.out)
      clear hVl
      go_wp2_with fail
      refine end_snd3 rfl rfl rfl x0 x1 ?_
      refine ⟨set2_below HBT.out hgr0, .inr ⟨_, rfl, HF.out, HMOK.out, ⟨rows, ?_⟩⟩⟩
      exact ((HROWS.out.set_below (p := ⟨gr, 0, none⟩) (show gr < g10 + 1 by omega) _).set_below (p := ⟨gr, 1, none⟩) (show gr < g10 + 1 by omega) _).base (by omega)
end Go.Proofs.YtkmcohnhanphdaaGreatDoor
