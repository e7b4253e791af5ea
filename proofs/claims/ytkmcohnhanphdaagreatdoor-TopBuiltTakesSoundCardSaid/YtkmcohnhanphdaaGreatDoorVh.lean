/- What is built sounds as its pieces: plain, for the law's walk. -/
import Derived.Test.YtkmcohnhanphdaaGreatDoorVb
import Derived.Test.YtkmcohnhanphdaaGreatDoorJoin
import Derived.Test.YtkmcohnhanphdaaGreatDoorWa
import Derived.Test.YtkmcohnhanphdaaGreatDoorVf
import Derived.Test.YtkmcohnhanphdaaGreatDoorVd
import Derived.Test.YtkmcohnhanphdaaGreatDoorWb
import Derived.Test.YtkmcohnhanphdaaGreatDoorYl
import Derived.Deep.QuietTactic
import Derived.Test.YtkmcohnhanphdaaGreatDoorVg
import Derived.Test.YtkmcohnhanphdaaGreatDoorCut
set_option linter.unusedSimpArgs false
set_option linter.unusedVariables false
namespace Go.Proofs.YtkmcohnhanphdaaGreatDoor
open Go.RowKit Go.Dw
theorem smp_zero : smpB 0 = true := by decide
theorem el_smp {xs : List Int} (h : ∀ x ∈ xs, smpB x = true) (k : Nat) : smpB (elOf xs k) = true := by
  by_cases hk : k < xs.length
  · exact h _ (el_memB hk)
  · unfold elOf; rw [List.getD_eq_getElem?_getD, List.getElem?_eq_none (by omega)]; exact smp_zero
/-- every sum is a sample, in range or not -/
theorem mix_smp {md : List Md} {l : List Tk} {t p : Int} (hs : ∀ s ch, ∀ x ∈ trackOf md s ch, smpB x = true) : ∀ (rs : List Rw) (s : Int), RowsFit s rs → ∃ x : Int, smpB x = true ∧ mixC md t p (rs.map (bClip l t)) = (x : Rat)
  | [], _, _ => ⟨0, smp_zero, rfl⟩
  | r :: rs, s, ⟨h1, h2, h0, h3⟩ => by
    show ∃ x : Int, smpB x = true ∧ conC md t p (bClip l t r) + mixC md t p (rs.map (bClip l t)) = (x : Rat)
    by_cases hlt : p < s + r.len
    · rw [mix_ahead rs _ h3 hlt, Rat.add_zero]
      unfold conC
      by_cases hc : (bClip l t r).track = t ∧ (bClip l t r).at_ ≤ p ∧ p < (bClip l t r).at_ + (bClip l t r).len ∧ (bClip l t r).from_ + (p - (bClip l t r).at_) < ((trackOf md (bClip l t r).media (bClip l t r).chan).length : Int)
      · rw [if_pos hc]
        have ha : (bClip l t r).at_ ≤ p := hc.2.1
        refine ⟨_, el_smp (hs (bClip l t r).media (bClip l t r).chan) ((bClip l t r).from_ + (p - (bClip l t r).at_)).toNat, ?_⟩
        show envV one1 _ * _ = _
        rw [envV_one (by omega), Rat.one_mul]
      · rw [if_neg hc]; exact ⟨0, smp_zero, rfl⟩
    · obtain ⟨x, hx, he⟩ := mix_smp hs rs _ h3
      refine ⟨x, hx, ?_⟩
      rw [he, conC, if_neg (by rintro ⟨_, _, h5, _⟩; have : p < r.at_ + r.len := h5; omega), Rat.zero_add]
theorem mix_smpB {md : List Md} {l : List Tk} {t p : Int} {rs : List Rw} (hs : ∀ s ch, ∀ x ∈ trackOf md s ch, smpB x = true) (hf : RowsFit 0 rs) (h0 : 0 ≤ t) : ∀ n : Nat, ∃ x : Int, smpB x = true ∧ mixC md t p (bClips l rs n) = (x : Rat)
  | 0 => ⟨0, smp_zero, rfl⟩
  | n + 1 => by
    obtain ⟨x, hx, he⟩ := mix_smpB (l := l) (p := p) hs hf h0 n
    by_cases h : t = (n : Int)
    · obtain ⟨y, hy, hey⟩ := mix_smp (md := md) (l := l) (t := t) (p := p) hs rs 0 hf
      refine ⟨y, hy, ?_⟩
      show mixC md t p (bClips l rs n ++ rs.map (bClip l (n : Int))) = _
      rw [mixC_append, ← h, hey]
      have : mixC md t p (bClips l rs n) = 0 := mix_none h n (Nat.le_refl _)
      rw [this, Rat.zero_add]
    · refine ⟨x, hx, ?_⟩
      show mixC md t p (bClips l rs n ++ rs.map (bClip l (n : Int))) = _
      rw [mixC_append, mix_other (Ne.symm h), Rat.add_zero]
      exact he
where mix_none {md : List Md} {l : List Tk} {t p : Int} {rs : List Rw} {n : Nat} (h : t = (n : Int)) : ∀ k : Nat, k ≤ n → mixC md t p (bClips l rs k) = 0
  | 0, _ => rfl
  | k + 1, hk => by
    show mixC md t p (bClips l rs k ++ rs.map (bClip l (k : Int))) = 0
    rw [mixC_append, mix_none h k (by omega), mix_other (by omega)]; exact Rat.add_zero 0
theorem track_smp {rate : Int} {md : List Md} {cs : List Cp} (h : MediaOk rate md cs) : ∀ s ch, ∀ x ∈ trackOf md s ch, smpB x = true := by
  intro s ch x hx
  unfold trackOf sndOf at hx
  cases hf : findM md s with
  | none => rw [hf] at hx; simp [rowOf] at hx
  | some m =>
    rw [hf] at hx
    dsimp only at hx
    have hok := chkS_ok (h.right m (List.mem_of_find?_eq_some hf)).2
    by_cases hl : ch.toNat < m.xss.length
    · exact List.all_eq_true.1 (hok.row hl).2 x hx
    · unfold rowOf at hx; rw [List.getD_eq_getElem?_getD, List.getElem?_eq_none (by omega)] at hx; simp at hx
theorem renN_zero {rate : Int} {md : List Md} {l : List Tk} {lens takes : List Int} {cs : List Cp} (h : TakesOk l lens takes) (hm : MediaOk rate md cs) (ch : Nat) : renN md (bClips l (rowsK l lens takes lens.length) ch) ch = 0 := by
  obtain ⟨h1, _, _⟩ := rowsK_ok (md := md) h lens.length (Nat.le_refl _)
  have h0 : ∀ t ∈ List.range ch, renN1 md (bClips l (rowsK l lens takes lens.length) ch) ((t : Nat) : Int) = 0 := by
    intro t _
    unfold renN1
    have h5 : (List.range (endC (bClips l (rowsK l lens takes lens.length) ch)).toNat).map (fun p : Nat => clipN (nearQ (mixC md (t : Int) (p : Int) (bClips l (rowsK l lens takes lens.length) ch)))) = (List.range (endC (bClips l (rowsK l lens takes lens.length) ch)).toNat).map (fun _ => 0) := by
      refine List.map_congr_left fun p _ => ?_
      obtain ⟨x, hx, he⟩ := mix_smpB (md := md) (l := l) (t := (t : Int)) (p := (p : Int)) (track_smp hm) h1 (by omega) ch
      rw [he, nearQ_int]
      exact (clipV_in hx).2
    rw [h5]
    exact sum_zeros _
  unfold renN
  rw [List.map_congr_left h0]
  exact sum_zeros _
/-- what the pieces up to a section sound -/
def wantK (md : List Md) (l : List Tk) (lens takes : List Int) (ch i : Nat) : List (List Int) := (List.range ch).map fun t : Nat => piecesK md l lens takes (t : Int) i
theorem wantK_zero (md : List Md) (l : List Tk) (lens takes : List Int) (ch : Nat) : wantK md l lens takes ch 0 = zeroS ch 0 := by
  unfold wantK zeroS
  refine List.eq_replicate_iff.2 ⟨by simp, fun b hb => ?_⟩
  obtain ⟨t, _, rfl⟩ := List.mem_map.1 hb
  rfl
theorem wantK_row {md : List Md} {l : List Tk} {lens takes : List Int} {ch i t : Nat} (ht : t < ch) : rowOf (wantK md l lens takes ch i) t = piecesK md l lens takes (t : Int) i := by
  unfold wantK rowOf; simp [List.getD, ht]
/-- the pieces before i are in range -/
def InK (md : List Md) (l : List Tk) (lens takes : List Int) (ch i : Nat) : Prop := ∀ t : Nat, t < ch → ∀ j, j < i → frm l takes j + elOf lens j ≤ ((trackOf md (tkOf l (elOf takes j).toNat).media t).length : Int)
theorem pieces_len {md : List Md} {l : List Tk} {lens takes : List Int} (h : TakesOk l lens takes) {ch t : Nat} (ht : t < ch) : ∀ i, i ≤ lens.length → InK md l lens takes ch i → ((piecesK md l lens takes (t : Int) i).length : Int) = (lens.take i).sum
  | 0, _, _ => by simp [piecesK]
  | i + 1, hi, hin => by
    have ih := pieces_len h ht i (by omega) (fun t' ht' j hj => hin t' ht' j (by omega))
    obtain ⟨g1, g2, g3, g4, g5, g6⟩ := frm_rng h (i := i) (by omega)
    have h9 := hin t ht i (by omega)
    rw [sum_take (by omega)]
    show ((piecesK md l lens takes (t : Int) i ++ _).length : Int) = _
    rw [List.length_append, List.length_take, List.length_drop]
    omega
theorem pieces_smp {md : List Md} {l : List Tk} {lens takes : List Int} (hs : ∀ s ch, ∀ x ∈ trackOf md s ch, smpB x = true) (t : Int) : ∀ i, ∀ x ∈ piecesK md l lens takes t i, smpB x = true
  | 0, x, hx => by simp [piecesK] at hx
  | i + 1, x, hx => by
    rcases List.mem_append.1 hx with hx | hx
    · exact pieces_smp hs t i x hx
    · exact hs _ _ x (List.mem_of_mem_drop (List.mem_of_mem_take hx))
theorem wantK_ok {rate : Int} {md : List Md} {l : List Tk} {lens takes : List Int} (h : TakesOk l lens takes) (hs : ∀ s ch, ∀ x ∈ trackOf md s ch, smpB x = true) (hr : rateB rate = true) {ch i : Nat} (hc1 : 1 ≤ ch) (hc2 : ch ≤ 16) (hi : i ≤ lens.length) (hin : InK md l lens takes ch i) (hsum : (lens.take i).sum ≤ 100000) :
    chkS rate (wantK md l lens takes ch i) = 0 ∧ (len0 (wantK md l lens takes ch i) : Int) = (lens.take i).sum ∧ (wantK md l lens takes ch i).length = ch := by
  have hl : (wantK md l lens takes ch i).length = ch := by simp [wantK]
  have h0 : (len0 (wantK md l lens takes ch i) : Int) = (lens.take i).sum := by
    have : len0 (wantK md l lens takes ch i) = (rowOf (wantK md l lens takes ch i) 0).length := rfl
    rw [this, wantK_row (by omega)]
    exact pieces_len h (show 0 < ch by omega) i hi hin
  refine ⟨chkS_mk ⟨hr, by omega, by omega, by omega, fun xs hx => ?_⟩, h0, hl⟩
  obtain ⟨t, ht, rfl⟩ := List.mem_map.1 hx
  have ht' := List.mem_range.1 ht
  refine ⟨?_, List.all_eq_true.2 (pieces_smp hs _ i)⟩
  have := pieces_len h ht' i hi hin
  omega
theorem join_step {rate : Int} {md : List Md} {l : List Tk} {lens takes : List Int} (h : TakesOk l lens takes) (hs : ∀ s ch, ∀ x ∈ trackOf md s ch, smpB x = true) (hr : rateB rate = true) {ch i : Nat} (hc1 : 1 ≤ ch) (hc2 : ch ≤ 16) (hi : i < lens.length) (hin : InK md l lens takes ch i) (hsum : (lens.take (i + 1)).sum ≤ 100000)
    {xss : List (List Int)} (hx : xss = sndOf md (tkOf l (elOf takes i).toNat).media) (hl : xss.length = ch) (hck : chkS rate xss = 0) (hq : (frm l takes i + elOf lens i) ≤ (len0 xss : Int)) :
    joinS rate rate (wantK md l lens takes ch i) (cutXs (frm l takes i) (frm l takes i + elOf lens i) xss) = (rate, wantK md l lens takes ch (i + 1), 0) ∧ InK md l lens takes ch (i + 1) := by
  obtain ⟨g1, g2, g3, g4, g5, g6⟩ := frm_rng h (i := i) hi
  have hok := chkS_ok hck
  have htr : ∀ t : Nat, t < ch → trackOf md (tkOf l (elOf takes i).toNat).media (t : Int) = rowOf xss t := fun t _ => by unfold trackOf; rw [← hx, Int.toNat_natCast]
  have hin2 : InK md l lens takes ch (i + 1) := fun t ht j hj => by
    rcases Nat.lt_or_ge j i with h3 | h3
    · exact hin t ht j h3
    · obtain rfl : j = i := by omega
      rw [htr t ht, (hok.row (by omega)).1]; exact hq
  have hs1 := sum_take (lens := lens) hi
  obtain ⟨k1, k2, k3⟩ := wantK_ok (rate := rate) h hs hr hc1 hc2 (by omega) hin (by omega)
  have hcl : (cutXs (frm l takes i) (frm l takes i + elOf lens i) xss).length = ch := by rw [cutXs_length, hl]
  have hcr : ∀ t : Nat, t < ch → rowOf (cutXs (frm l takes i) (frm l takes i + elOf lens i) xss) t = ((rowOf xss t).drop (frm l takes i).toNat).take ((frm l takes i + elOf lens i).toNat - (frm l takes i).toNat) := fun t ht => by
    unfold cutXs rowOf; simp [List.getD, show t < xss.length by omega]
  have hlen : ∀ t : Nat, t < ch → (rowOf (cutXs (frm l takes i) (frm l takes i + elOf lens i) xss) t).length = (elOf lens i).toNat := fun t ht => by
    rw [hcr t ht, List.length_take, List.length_drop, (hok.row (by omega)).1]; omega
  have hl0 : len0 (cutXs (frm l takes i) (frm l takes i + elOf lens i) xss) = (elOf lens i).toNat := hlen 0 (by omega)
  have hcc : chkS rate (cutXs (frm l takes i) (frm l takes i + elOf lens i) xss) = 0 := by
    refine chkS_mk ⟨hr, by omega, by omega, by omega, fun xs hxs => ?_⟩
    obtain ⟨t, ht, e⟩ := List.getElem_of_mem hxs
    have ht' : t < ch := by omega
    have e2 : rowOf (cutXs (frm l takes i) (frm l takes i + elOf lens i) xss) t = xs := by rw [← e]; simp [rowOf, List.getD, ht]
    rw [← e2, hlen t ht', hl0]
    refine ⟨rfl, ?_⟩
    rw [hcr t ht']
    exact List.all_eq_true.2 (fun x hx => List.all_eq_true.1 (hok.row (by omega)).2 x (List.mem_of_mem_drop (List.mem_of_mem_take hx)))
  refine ⟨?_, hin2⟩
  have hb1 : both1 rate rate (wantK md l lens takes ch i) (cutXs (frm l takes i) (frm l takes i + elOf lens i) xss) = 0 := by unfold both1; rw [if_neg (by rw [k1]; simp)]; exact hcc
  have hb2 : both2 rate rate (wantK md l lens takes ch i) (cutXs (frm l takes i) (frm l takes i + elOf lens i) xss) = 0 := by
    unfold both2
    rw [hb1, if_neg (by simp)]
    unfold alikeB
    rw [k3, hcl, if_neg (by simp)]
  unfold joinS
  rw [if_neg (by rw [hb2]; simp), if_neg (by omega)]
  congr 2
  unfold jnK wantK
  rw [List.length_map, List.length_range]
  refine List.map_congr_left fun t ht => ?_
  have ht' := List.mem_range.1 ht
  have := wantK_row (md := md) (l := l) (lens := lens) (takes := takes) (i := i) ht'
  unfold wantK at this
  rw [this, hcr t ht']
  show _ = piecesK md l lens takes (t : Int) i ++ _
  rw [htr t ht']
end Go.Proofs.YtkmcohnhanphdaaGreatDoor

/- What the law of takes calls: alive, MediumOf, SameTracks. -/
set_option linter.unusedSimpArgs false
set_option linter.unusedVariables false
namespace Go.Proofs.YtkmcohnhanphdaaGreatDoor
open Go.RowKit Go.Dw
attribute [local go_sem ↓] Go.wp_at_zero Go.wp_at_succ
theorem TALIVE_any (w : World) : Calls Tryz.prog 7 #[] w fun e w' => e = .returned (.bool true) ∧ Below w.heap.size w w' := by
  go_enter Tryz.func7, Tryz.ntmps7
  go_wp2_with fail
  refine (CONVERT_any 3 2 1 1 w).mono ?_
  rintro e w1 ⟨rfl, hb⟩
  have h9 : convS 3 2 1 1 = (1, 0) := by decide +kernel
  rw [h9]
  go_wp2_with fail
  go_ret
  exact ⟨rfl, hb⟩
theorem find_none_md {l : List Md} {s : ByteArray} (h : ∀ j, j < l.length → (mdOf l j).name ≠ s) : findM l s = none := by
  refine List.find?_eq_none.2 fun m hm => ?_
  obtain ⟨i, hi, e⟩ := List.getElem_of_mem hm
  have := h i hi
  rw [show mdOf l i = m by rw [← e]; simp [mdOf, List.getD, hi]] at this
  simpa using this
theorem find_first_md {l : List Md} {s : ByteArray} {k : Nat} (hk : k < l.length) (h : ∀ j, j < k → (mdOf l j).name ≠ s) (he : (mdOf l k).name = s) : findM l s = some (mdOf l k) := by
  induction l generalizing k with
  | nil => simp at hk
  | cons m l ih =>
    unfold findM
    rw [List.find?_cons]
    match k with
    | 0 =>
      have : decide (m.name = s) = true := decide_eq_true he
      rw [this]; rfl
    | k + 1 =>
      have h0 : decide (m.name = s) = false := decide_eq_false (h 0 (by omega))
      rw [h0]
      exact ih (by simpa using hk) (fun j hj => h (j + 1) (by omega)) he
def rateOf (l : List Md) (s : ByteArray) : Int := match findM l s with
  | some m => m.rate
  | none => 0
set_option maxRecDepth 100000 in
set_option maxHeartbeats 4000000 in
theorem MEDIUMOF_any (A1 : Option Addr) (n1 cap1 : Nat) (md : List Md) (s : ByteArray) (hz : Hid (n1 ≤ 1000000)) (w : World) (B : Nat) (hB : B ≤ w.heap.size) (hm : Hid (MediaAt w B A1 n1 md)) :
    Calls Tryz.prog 14 #[.slice A1 n1 cap1, .string s] w fun e w' => Below w.heap.size w w' ∧ ∃ A n c, e = .returned (.agg #[.int .i64 (rateOf md s), .slice A n c]) ∧ n ≤ c ∧ c ≤ maxLen ∧ RowsAt w' B A n (sndOf md s) := by
  have hl := Lib.hid hm.out.1
  have hn1 := hz.out
  obtain ⟨W, g, hW, hg, HG, HBW, HSW⟩ := cell_new w 33 #[.int .i64 0, .slice none 0 0]
  have hgW := blk_lt HG.out
  have hgw : w.heap.size ≤ g := by omega
  have hBg : B ≤ g := by omega
  go_enter Tryz.func14, Tryz.ntmps14
  go_upto_region 1 with (fail)
  rw [← hW, ← hg]
  clear hW hg
  go_wp2_with fail
  go_loopw [9] (fun i wr => ∃ j : Nat, j ≤ n1 ∧ i = .int .i64 j ∧ Hid (Below W.heap.size W wr) ∧ Hid (∀ i, i < j → (mdOf md i).name ≠ s)) (fun i _ => n1 - (intOf i).toNat)
  case atStart => exact ⟨0, Nat.zero_le _, rfl, Below.refl _ _, fun i hi => by omega⟩
  case round =>
    obtain ⟨j, hj, rfl, HB, HNO⟩ := hrel
    have hsz := HB.out.size
    have HBX : Hid (Below w.heap.size w wr) := HBW.out.trans (HB.out.mono HBW.out.size)
    have HGX := Lib.hid ((HB.out.block g hgW).trans HG.out)
    have hgX := blk_lt HGX.out
    by_cases hlt : j < n1
    · have hk0 : (0 : Int) ≤ (j : Int) := by omega
      have hkn : (j : Int) < (n1 : Int) := by omega
      obtain ⟨b, o, A', n', c', e, hb, ⟨k0, k1, k2⟩, hn', hc', hr⟩ := (hm.out.below HBX.out hB).2 j hlt
      subst e
      have HJ := Lib.hid (show ∀ q, (mdOf md j).name = s → findM md s = some (mdOf md j) ∨ q = 0 from fun q h => .inl (find_first_md (by rw [hl.out]; exact hlt) HNO.out h))
      have HFD := Lib.hid (show (mdOf md j).name = s → findM md s = some (mdOf md j) from fun h => find_first_md (by rw [hl.out]; exact hlt) HNO.out h)
      have HNX := Lib.hid (show (mdOf md j).name ≠ s → ∀ i, i < j + 1 → (mdOf md i).name ≠ s from fun h i hi => by
        rcases Nat.lt_or_ge i j with h3 | h3
        · exact HNO.out i h3
        · obtain rfl : i = j := by omega
          exact h)
      clear HJ
      obtain ⟨m, hmm⟩ : ∃ m, mdOf md j = m := ⟨_, rfl⟩
      rw [hmm] at k0 k1 hr HFD HNX
      have HR := Lib.hid hr
      clear hmm hr
      go_upto_region 4 with (fail)
      obtain ⟨X, g8, hX, hg8, HX, HBX8, HSX⟩ := cell_new wr 38 #[.string m.name, .int .i64 m.rate, .slice A' n' c']
      rw [← hX, ← hg8]
      clear hX k0 k1 k2
      obtain ⟨x0, x1, x2, _, _, _⟩ := three_cells HX.out
      have HG8 := Lib.hid hg8
      clear hg8
      have HGX8 := Lib.hid ((HBX8.out.block g hgX).trans HGX.out)
      have HBX9 := Lib.hid (HBX.out.trans (HBX8.out.mono HBX.out.size))
      have HB9 := Lib.hid (HB.out.trans (HBX8.out.mono hsz))
      have HR9 := Lib.hid (HR.out.below HBX8.out (by omega))
      by_cases he : m.name = s
      · have hd : (m.name.toList == s.toList) = true := by rw [he]; exact beq_self_eq_true _
        obtain ⟨c0, c1, _, _⟩ := two_cells HGX8.out
        have HS : Hid (rateOf md s = m.rate ∧ sndOf md s = m.xss) := by
          have h9 := HFD.out he
          constructor
          · unfold rateOf; rw [h9]
          · unfold sndOf; rw [h9]
        clear he
        go_wp2_with fail
        refine end_snd1 rfl rfl rfl c0 c1 ?_
        have hbb : Below w.heap.size w ((X.setCell ⟨g, 0, none⟩ (.int .i64 m.rate)).setCell ⟨g, 1, none⟩ (.slice A' n' c')) := (HBX9.out.setCell (p := ⟨g, 0, none⟩) hgw _).setCell (p := ⟨g, 1, none⟩) hgw _
        refine ⟨hbb, A', n', c', by rw [HS.out.1], hn', hc', ?_⟩
        rw [HS.out.2]
        have hb0 : Below g X X := Below.refl g X
        exact HR9.out.below ((hb0.setCell (p := ⟨g, 0, none⟩) (Nat.le_refl _) _).setCell (p := ⟨g, 1, none⟩) (Nat.le_refl _) _) hBg
      · have hd : (m.name.toList == s.toList) = false := beq_eq_false_iff_ne.2 (fun e => he (ByteArray.ext (Array.toList_inj.1 (by rw [← ByteArray.toList_eq, ← ByteArray.toList_eq]; exact e))))
        have HN9 := Lib.hid (HNX.out he)
        clear he
        go_wp2_with fail
        go_roundw
        case rel => exact ⟨j + 1, by omega, by go_num, HB9, HN9⟩
        case measure => simp [intOf]; omega
    · obtain rfl : j = n1 := by omega
      obtain ⟨c0, c1, _, _⟩ := two_cells HGX.out
      have HS : Hid (rateOf md s = 0 ∧ sndOf md s = []) := by
        have h9 : findM md s = none := find_none_md (by rw [hl.out]; exact HNO.out)
        constructor
        · unfold rateOf; rw [h9]
        · unfold sndOf; rw [h9]
      go_wp2_with fail
      refine end_snd1 rfl rfl rfl c0 c1 ?_
      have hbb : Below w.heap.size w ((wr.setCell ⟨g, 0, none⟩ (.int .i64 0)).setCell ⟨g, 1, none⟩ (.slice none 0 0)) := (HBX.out.setCell (p := ⟨g, 0, none⟩) hgw _).setCell (p := ⟨g, 1, none⟩) hgw _
      refine ⟨hbb, none, 0, 0, by rw [HS.out.1], Nat.le_refl _, Nat.zero_le _, ?_⟩
      rw [HS.out.2]
      exact ⟨rfl, Nat.zero_le _, fun k hk => by omega⟩
set_option maxRecDepth 100000 in
set_option maxHeartbeats 4000000 in
theorem SAMETRACKS_eq (r : Int) (A A' : Option Addr) (n c c' : Nat) (xss : List (List Int)) (w : World) (B : Nat) (hB : B ≤ w.heap.size) (hx : Hid (RowsAt w B A n xss)) (hy : Hid (RowsAt w B A' n xss)) :
    Calls Tryz.prog 16 #[.agg #[.int .i64 r, .slice A n c], .agg #[.int .i64 r, .slice A' n c']] w fun e w' => e = .returned (.bool true) ∧ Below w.heap.size w w' := by
  have hq0 : (r != r) = false := by simp
  have hq : ((n : Int) != (n : Int)) = false := by simp
  have hxl := Lib.hid hx.out.1
  have hn63 : n ≤ 9223372036854775807 := by have := hx.out.2.1; unfold maxLen at this; omega
  go_enter Tryz.func16, Tryz.ntmps16
  go_wp2_with fail
  refine wp_later (w.heap.size + 2) ?_
  intro W hW hsW
  obtain ⟨hcW, hfW⟩ := bcell hW
  simp only [World.size_alloc] at hsW
  have hbB : Below B w W := (((Below.refl B w).alloc hB _).alloc (by simp; omega) _).trans (hW.mono (by omega))
  have hbW : Below w.heap.size w W := (((Below.refl _ w).alloc (Nat.le_refl _) _).alloc (by simp) _).trans (hW.mono (by omega))
  go_wp2
  go_loopw [23] (fun i wr => ∃ k : Nat, k ≤ n ∧ i = .int .i64 k ∧ Hid (Below (w.heap.size + 2) W wr)) (fun i _ => n - (intOf i).toNat)
  case atStart => exact ⟨0, Nat.zero_le _, rfl, Below.refl _ _⟩
  case round =>
    obtain ⟨k, hk, rfl, hb⟩ := hrel
    have hz := pcell hb.out
    by_cases hlt : k < n
    · obtain ⟨ad, rfl⟩ := hx.out.addr (by omega)
      obtain ⟨ad', rfl⟩ := hy.out.addr (by omega)
      obtain ⟨A1, n1, c1, hb1, hc1, hn1, hm1, hi1⟩ := (hx.out.below hbB (Nat.le_refl _)).row hlt
      obtain ⟨A2, n2, c2, hb2, hc2, hn2, hm2, hi2⟩ := (hy.out.below hbB (Nat.le_refl _)).row hlt
      unfold maxLen at hm1 hm2
      have hi1' := Lib.hid hi1
      have hi2' := Lib.hid hi2
      clear hi1 hi2
      have hk0 : (0 : Int) ≤ (k : Int) := by omega
      have hkn : (k : Int) < (n : Int) := by omega
      have hadk : (ad.add k).block < w.heap.size + 2 := by rw [block_of_add]; omega
      have hadk' : (ad'.add k).block < w.heap.size + 2 := by rw [block_of_add]; omega
      go_wp2
      go_quiet ((go_at_call 47; exact Calls.quiet_of ((EQINTS_any A1 A2 n1 c1 n2 c2 (rowOf xss k) (rowOf xss k) _ B (by omega) ((hi1'.out.below hb.out (by omega)).below (belowN (Below.refl _ _) _) (Nat.le_refl _)) ((hi2'.out.below hb.out (by omega)).below (belowN (Below.refl _ _) _) (Nat.le_refl _))).mono fun e w' h => (⟨h.1.trans (ret_bool (by simp)), h.2⟩ : e = .returned (.bool true) ∧ _))))
      go_wp2
      go_roundw
      case rel => exact ⟨k + 1, by omega, by go_num, belowN hb.out _⟩
      case measure => simp [intOf]; omega
    · obtain rfl : k = n := by omega
      go_wp2
      go_ret
      exact ⟨rfl, hbW.trans (hb.out.mono (by omega))⟩
end Go.Proofs.YtkmcohnhanphdaaGreatDoor

/- The law of takes: plain facts, gathered. -/
set_option linter.unusedSimpArgs false
set_option linter.unusedVariables false
namespace Go.Proofs.YtkmcohnhanphdaaGreatDoor
open Go.RowKit Go.Dw
theorem bone {l : List Tk} {R : List Rw} : ∀ ch : Nat, ∀ c ∈ bClips l R ch, c.env.length = 1
  | 0, c, h => by simp [bClips] at h
  | ch + 1, c, h => by
    rcases List.mem_append.1 h with h | h
    · exact bone ch c h
    · obtain ⟨r, _, rfl⟩ := List.mem_map.1 h
      rfl
theorem sum_mono {l : List Tk} {lens takes : List Int} (h : TakesOk l lens takes) (i : Nat) : ∀ k, i + k ≤ lens.length → (lens.take i).sum ≤ (lens.take (i + k)).sum
  | 0, _ => Int.le_refl _
  | k + 1, hk => by
    have ih := sum_mono h i k (by omega)
    have := sum_take (lens := lens) (i := i + k) (by omega)
    have := (frm_rng h (i := i + k) (by omega)).2.2.1
    rw [show i + (k + 1) = i + k + 1 by omega]
    omega
theorem sum_le {rate : Int} {l : List Tk} {lens takes : List Int} (h : TakesOk l lens takes) {ch : Nat} (hc : 1 ≤ ch) (hok : EditOk rate (ch : Int) (bClips l (rowsK l lens takes lens.length) ch)) {i : Nat} (hi : i ≤ lens.length) : (lens.take i).sum ≤ 100000 := by
  obtain ⟨h1, h2, _⟩ := rowsK_ok (md := []) h lens.length (Nat.le_refl _)
  have h3 := end_built (l := l) h1 ch
  have h4 := hok.end_
  have h5 := sum_mono h i (lens.length - i) (by omega)
  rw [show i + (lens.length - i) = lens.length by omega] at h5
  rw [h3, if_neg (by omega), h2] at h4
  omega
theorem MediaAt.mono {w : World} {B B' : Nat} {A : Option Addr} {n : Nat} {l : List Md} (h : MediaAt w B A n l) (hB : B ≤ B') : MediaAt w B' A n l := by
  refine ⟨h.1, fun k hk => ?_⟩
  obtain ⟨b, o, A', n', c', e, h1, hk3, h3, h4, h5⟩ := h.2 k hk
  exact ⟨b, o, A', n', c', e, by omega, hk3, h3, h4, h5.mono hB⟩
/-- a cut that goes well: the medium is there, at the edit's rate -/
theorem cut_there {rate : Int} {md : List Md} {cs : List Cp} (hm : MediaOk rate md cs) {s : ByteArray} {p q : Int} {r5 : Int} {xs5 : List (List Int)} (h : cutS (rateOf md s) (sndOf md s) p q = (r5, xs5, 0)) :
    r5 = rate ∧ xs5 = cutXs p q (sndOf md s) ∧ chkS rate (sndOf md s) = 0 ∧ q ≤ (len0 (sndOf md s) : Int) := by
  unfold cutS at h
  by_cases hc : chkS (rateOf md s) (sndOf md s) = 0
  · rw [if_neg (by simp [hc])] at h
    by_cases hd : cutF p q (len0 (sndOf md s)) = 0
    · rw [if_neg (by simp [hd])] at h
      injection h with h1 h2
      injection h2 with h2 _
      have hr : rateOf md s = rate := by
        cases hf : findM md s with
        | none =>
          have := (chkS_ok hc).some
          unfold sndOf at this
          rw [hf] at this
          simp at this
        | some m =>
          unfold rateOf
          rw [hf]
          exact (hm.right m (List.mem_of_find?_eq_some hf)).1
      exact ⟨by rw [← h1, hr], h2.symm, by rw [← hr]; exact hc, (cutF_zero hd).2.2⟩
    · rw [if_pos hd] at h
      injection h with _ h2
      injection h2 with _ h3
      exact absurd h3 hd
  · rw [if_pos hc] at h
    injection h with _ h2
    injection h2 with _ h3
    exact absurd h3 hc
theorem want_all {rate : Int} {md : List Md} {l : List Tk} {lens takes : List Int} {cs : List Cp} (h : TakesOk l lens takes) (hm : MediaOk rate md cs) {ch : Nat} (hin : InK md l lens takes ch lens.length) :
    renS md (bClips l (rowsK l lens takes lens.length) ch) ch = wantK md l lens takes ch lens.length := by
  refine (ren_built h (fun m hm' xs hx x hxx => ?_) hin).1
  have := chkS_ok (hm.right m hm').2
  obtain ⟨i, hi, e⟩ := List.getElem_of_mem hx
  have h9 := (this.row hi).2
  have e2 : rowOf m.xss i = xs := by rw [← e]; simp [rowOf, List.getD, hi]
  rw [e2] at h9
  exact List.all_eq_true.1 h9 x hxx
end Go.Proofs.YtkmcohnhanphdaaGreatDoor
