/- clock.Read. -/
import Derived.Test.YthgjgiccoobcgaaGreatDoorTxw
import Derived.Test.YthgjgiccoobcgaaGreatDoorIbx
import Derived.Test.YthgjgiccoobcgaaGreatDoorTof
import Derived.Deep.CutBlock
set_option linter.unusedSimpArgs false
set_option linter.unusedVariables false
namespace Go.Proofs.YthgjgiccoobcgaaGreatDoor
open Go.RowKit Go.Dw Go.Joins
/-- a text in its parts -/
def PartsC (c : UInt8) (s : ByteArray) (P : List ByteArray) : Prop := P.length = Lib.count s.data.toList [c] + 1 ∧ P.map (·.data.toList) = Lib.splitK [c] 0 (Lib.count s.data.toList [c]) s.data.toList
theorem SPLITC_any (c : UInt8) (s : ByteArray) (m : Int) (hs : s.size ≤ 1048576) (w : World) (hm : Hid (w.cell? ⟨0, 0, none⟩ = some (.int .i64 m))) :
    Calls Tryz.prog 39 #[.string s, .string ⟨#[c]⟩] w fun e w' => ∃ (g k : Nat) (P : List ByteArray), e = .returned (.slice (some ⟨g, 0, none⟩) k k) ∧ P.length = k ∧ Hid (PartsC c s P) ∧ Hid (w'.heap[g]? = some (.cells (P.map Value.string).toArray 9 (0, 0))) ∧ Hid (Below w.heap.size w w') := by
  refine (Tryz.strings_Split s ⟨#[c]⟩ m w (by omega) hm.out (by show 1 ≤ 1; omega)).mono ?_
  rintro e w' ⟨rfl, rfl⟩
  have hl := Lib.splitB_all ⟨#[c]⟩ (by show 1 ≤ 1; omega) 0 (Lib.countB s ⟨#[c]⟩) s rfl
  exact ⟨_, _, _, rfl, hl, ⟨hl, Lib.splitB_data _ _ _ _⟩, heap_alloc_new _ _, (Below.refl _ _).alloc (Nat.le_refl _) _⟩
theorem partsC3 {c : UInt8} {s : ByteArray} {P : List ByteArray} (h : PartsC c s P) (h3 : P.length = 3) : ∃ p0 p1 p2, P = [p0, p1, p2] ∧ Lib.count s.data.toList [c] = 2 ∧ Lib.splitK [c] 0 2 s.data.toList = [p0.data.toList, p1.data.toList, p2.data.toList] := by
  obtain ⟨h1, h2⟩ := h
  have hc : Lib.count s.data.toList [c] = 2 := by omega
  rw [hc] at h2
  match P, h3 with
  | [p0, p1, p2], _ => exact ⟨p0, p1, p2, rfl, hc, h2.symm⟩
theorem splitC_le (c : UInt8) : ∀ (k : Nat) (l : List UInt8), ∀ p ∈ Lib.splitK [c] 0 k l, p.length ≤ l.length
  | 0, l, p, h => by simp [Lib.splitK] at h; subst h; exact Nat.le_refl _
  | k + 1, l, p, h => by
    unfold Lib.splitK at h
    split at h
    · simp at h; subst h; exact Nat.le_refl _
    · rw [List.mem_cons] at h
      rcases h with rfl | h
      · rw [List.length_take]; omega
      · have := splitC_le c k _ p h
        rw [List.length_drop] at this; omega
theorem SCUT_any (c : UInt8) (s : ByteArray) (m : Int) (hs : s.size ≤ 1048576) (w : World) (hm : Hid (w.cell? ⟨0, 0, none⟩ = some (.int .i64 m))) :
    Calls Tryz.prog 38 #[.string s, .string ⟨#[c]⟩] w fun e w' => ∃ (l r : ByteArray) (ok : Bool), e = .returned (.tuple #[.string l, .string r, .bool ok]) ∧ Hid (Lib.cut s.data.toList [c] = (l.data.toList, r.data.toList, ok)) ∧ l.size ≤ s.size ∧ r.size ≤ s.size ∧ Below w.heap.size w w' := by
  refine (Tryz.strings_Cut s ⟨#[c]⟩ m w (by omega) hm.out).mono ?_
  rintro e w' ⟨rfl, q, rfl⟩
  have hl : (Lib.cut s.data.toList [c]).1.length ≤ s.size ∧ (Lib.cut s.data.toList [c]).2.1.length ≤ s.size := by
    rw [← len_data]
    unfold Lib.cut
    split
    · rw [List.length_take, List.length_drop]; omega
    · simp
  exact ⟨_, _, _, rfl, rfl, by rw [← len_data]; exact hl.1, by rw [← len_data]; exact hl.2, belowN (Below.refl _ _) q⟩
theorem PARSED_any (s : ByteArray) (hd : Hid (AllDig s.data.toList)) (hs : s.size ≤ 1000000) (w : World) : Calls Tryz.prog 42 #[.string s] w (OutI w ((decV s.data.toList : Nat) : Int) s.size) := by
  have hn := good_noneg hd.out
  have hb : bodyT s = s.data.toList := by unfold bodyT Lib.trimPrefix; rw [hn]; rfl
  have hz : parseZ s = ((decV s.data.toList : Nat) : Int) := by unfold parseZ negT; rw [hn, hb]; rfl
  rw [← hz]
  exact IPARSE_any s (by rw [hb]; exact hd) hs w
/-- what Read leaves -/
def ReadOut (rate : Int) (txt : List UInt8) (w : World) (e : Ending) (w' : World) : Prop := ∃ z : Int × Int, e = .returned (.tuple #[.int .i64 z.1, .int .i64 z.2]) ∧ ReadS rate txt z ∧ Below w.heap.size w w'
set_option maxRecDepth 100000 in
set_option maxHeartbeats 16000000 in
theorem READ_any (s : ByteArray) (rate : Int) (m : Int) (hs : s.size ≤ 1048576) (w : World) (hm : Hid (w.cell? ⟨0, 0, none⟩ = some (.int .i64 m))) (hmx : 0 < w.heap.size) (ht : Hid (TabAt w)) :
    Calls Tryz.prog 10 #[.string s, .int .i64 rate] w (ReadOut rate s.data.toList w) := by
  cases hr : okRate rate with
  | false =>
    have HT : Hid (ReadS rate s.data.toList (0, 1)) := ⟨fun _ => rfl, fun h => absurd h (by rw [hr]; decide)⟩
    have HR : Hid ((decide (1 ≤ rate) && decide (rate ≤ 1000000)) = false) := hr
    clear hr
    go_enter Tryz.func10, Tryz.ntmps10
    go_wp2_with (go_at_call 31; refine (ISRATE_any _ _).mono ?_; rintro e w2 ⟨rfl, rfl⟩; rw [HR.out])
    refine bodyPost_ret (v := .tuple #[.int .i64 0, .int .i64 1]) (by simp [results, Tryz.results10, go_sem]) rfl ?_
    unfold ReadOut
    exact ⟨(0, 1), rfl, HT.out, Below.refl _ _⟩
  | true =>
  have HR : Hid ((decide (1 ≤ rate) && decide (rate ≤ 1000000)) = true) := hr
  have HRT := Lib.hid hr
  obtain ⟨r1, r2⟩ := okRate_le hr
  clear hr
  obtain ⟨r, rfl⟩ : ∃ r : Nat, rate = (r : Int) := ⟨rate.toNat, by omega⟩
  have HTS : Hid (∀ z, ReadP r s.data.toList z → ReadS (r : Int) s.data.toList z) := fun z hz => ⟨fun h => absurd h (by rw [HRT.out]; decide), fun _ => by rw [Int.toNat_natCast]; exact hz⟩
  have HNO := Lib.hid (fun (hn : ∀ t : Int, okPos t = true → showTxt t r ≠ s.data.toList) => HTS.out (0, 10) (.inr ⟨rfl, hn⟩))
  obtain ⟨t, HTX⟩ : ∃ t : ByteArray, Hid (t = ⟨(bodyT s).toArray⟩) := ⟨_, rfl⟩
  obtain ⟨ng, HNG⟩ : ∃ b, Hid (negT s = b) := ⟨_, rfl⟩
  have htd : t.data.toList = bodyT s := by rw [HTX.out]
  have hts : t.size ≤ s.size := by
    rw [← len_data, ← len_data, htd]
    unfold bodyT Lib.trimPrefix
    split
    · rw [List.length_drop]; omega
    · exact Nat.le_refl _
  have HTD := Lib.hid htd
  clear htd
  go_enter Tryz.func10, Tryz.ntmps10
  go_upto_region 4 with (first
    | (go_at_call 31; refine (ISRATE_any _ _).mono ?_; rintro e w2 ⟨rfl, rfl⟩; rw [HR.out])
    | (go_at_call 37; refine (CUT_eq HTX HNG _).mono ?_; rintro e w1 ⟨rfl, rfl⟩))
  go_upto_region 5 with (go_at_call 38; refine (SCUT_any 43 t m (by omega) _ hm).mono ?_; rintro e w1 ⟨left, smp, ok, rfl, HCUT, hlz, hsz, hb1⟩)
  have HB1 := Lib.hid hb1
  have hs1 := hb1.size
  have hm1 : Hid (w1.cell? ⟨0, 0, none⟩ = some (.int .i64 m)) := (HB1.out.cell (p := ⟨0, 0, none⟩) hmx).trans hm.out
  clear hb1
  go_upto_region 6 with (go_at_call 39; refine (SPLITC_any 58 left m (by omega) _ hm1).mono ?_; rintro e w2 ⟨gs, k, P, rfl, hk, HP, HPC, hb2⟩)
  obtain ⟨W2, rfl⟩ : ∃ x : World, x = w2 := ⟨_, rfl⟩
  have hs2 := hb2.out.size
  have HB2 := Lib.hid (HB1.out.trans (hb2.out.mono HB1.out.size))
  have hw02 : w.heap.size ≤ W2.heap.size := HB2.out.size
  have ht2 : Hid (TabAt W2) := ht.out.below HB2.out
  have hgs := blk_lt HPC.out
  have HPA : Hid (∀ t : Int, okPos t = true → showTxt t r = s.data.toList → ReadsAs r s.data.toList ng ok left.data.toList smp.data.toList t) := fun x hx e => by
    have h := read_parts (txt := s.data.toList) (by omega) (by omega) (show Lib.cut (Lib.trimPrefix s.data.toList [45]) [43] = (left.data.toList, smp.data.toList, ok) by have h9 := HCUT.out; rw [HTD.out] at h9; exact h9) hx e
    rw [show Lib.hasPrefix s.data.toList [45] = ng from HNG.out] at h
    exact h
  clear hb2 hm1
  -- STOP1
  cases ok with
  | false =>
    have HT := Lib.hid (HNO.out (fun t h e => absurd (HPA.out t h e).ok (by decide)))
    go_wp2_with fail
    refine bodyPost_ret (v := .tuple #[.int .i64 0, .int .i64 10]) (by simp [results, Tryz.results10, go_sem]) rfl ?_
    unfold ReadOut
    exact ⟨(0, 10), rfl, HT.out, HB2.out⟩
  | true =>
  -- STOP2
  by_cases h3 : k = 3
  rotate_left
  · have HT := Lib.hid (HNO.out (fun t h e => h3 (by have h1 := (HPA.out t h e).cnt; have h2 := HP.out.1; omega)))
    have hq : ((k : Int) != 3) = true := by simp; omega
    clear hk h3
    go_wp2_with fail
    refine bodyPost_ret (v := .tuple #[.int .i64 0, .int .i64 10]) (by simp [results, Tryz.results10, go_sem]) rfl ?_
    unfold ReadOut
    exact ⟨(0, 10), rfl, HT.out, HB2.out⟩
  subst h3
  by_cases h60 : s.size ≤ 60
  rotate_left
  · have HT := Lib.hid (HNO.out (fun t h e => h60 (by have h1 := (HPA.out t h e).few; rw [len_data] at h1; exact h1)))
    have hq : decide ((s.size : Int) > 60) = true := by simp; omega
    clear hk
    go_wp2_with fail
    refine bodyPost_ret (v := .tuple #[.int .i64 0, .int .i64 10]) (by simp [results, Tryz.results10, go_sem]) rfl ?_
    unfold ReadOut
    exact ⟨(0, 10), rfl, HT.out, HB2.out⟩
  -- STOP3
  obtain ⟨p0, p1, p2, rfl, hc3, hs3⟩ := partsC3 HP.out hk
  have hz0 : p0.size ≤ left.size := by have := splitC_le 58 2 _ p0.data.toList (by rw [hs3]; simp); rw [len_data, len_data] at this; omega
  have hz1 : p1.size ≤ left.size := by have := splitC_le 58 2 _ p1.data.toList (by rw [hs3]; simp); rw [len_data, len_data] at this; omega
  have hz2 : p2.size ≤ left.size := by have := splitC_le 58 2 _ p2.data.toList (by rw [hs3]; simp); rw [len_data, len_data] at this; omega
  have HPT : Hid (∀ t : Int, okPos t = true → showTxt t r = s.data.toList → (GoodD p0.data.toList ∧ p0.data.toList.length ≤ 11) ∧ PairD p1.data.toList ∧ PairD p2.data.toList ∧
    (if ng then -((((decV p0.data.toList * 60 + decV p1.data.toList) * 60 + decV p2.data.toList) * r + decV smp.data.toList : Nat) : Int) else ((((decV p0.data.toList * 60 + decV p1.data.toList) * 60 + decV p2.data.toList) * r + decV smp.data.toList : Nat) : Int)) = t) := fun t h e => (HPA.out t h e).parts _ _ _ hs3
  obtain ⟨q0, q1, q2, _, _, _⟩ := tri_cells HPC.out
  clear hk hc3 hs3
  by_cases g0 : GoodD p0.data.toList
  rotate_left
  · have HT := Lib.hid (HNO.out (fun t h e => g0 (HPT.out t h e).1.1))
    have HG0 := Lib.hid (goodD_false g0)
    clear g0
    go_wp2_with (first
      | (go_at_call 40; (with_reducible refine (CDIGITS_any p0 ?_ _).mono ?_); (unfold maxLen; omega); rintro e w5 ⟨rfl, rfl⟩; rw [HG0.out])
      | (go_at_call 40; (with_reducible refine (CDIGITS_any smp ?_ _).mono ?_); (unfold maxLen; omega); rintro e w5 ⟨rfl, rfl⟩; rw [HG1.out])
      | (go_at_call 41; (with_reducible refine (PAIR_any p1 ?_ _).mono ?_); omega; rintro e w6 ⟨rfl, hb6⟩; rw [HG2.out]; have HQC6 := Lib.hid ((hb6.block gs hgs).trans HPC.out); obtain ⟨q0', q1', q2', _, _, _⟩ := tri_cells HQC6.out)
      | (go_at_call 41; (with_reducible refine (PAIR_any p2 ?_ _).mono ?_); omega; rintro e w7 ⟨rfl, hb7⟩; rw [HG3.out]))
    refine bodyPost_ret (v := .tuple #[.int .i64 0, .int .i64 10]) (by simp [results, Tryz.results10, go_sem]) rfl ?_
    unfold ReadOut
    exact ⟨(0, 10), rfl, HT.out, HB2.out⟩
  have HG0 := Lib.hid (goodD_true g0)
  -- STOP4
  by_cases g1 : GoodD smp.data.toList
  rotate_left
  · have HT := Lib.hid (HNO.out (fun t h e => g1 (HPA.out t h e).gs))
    have HG1 := Lib.hid (goodD_false g1)
    clear g1
    go_wp2_with (first
      | (go_at_call 40; (with_reducible refine (CDIGITS_any p0 ?_ _).mono ?_); (unfold maxLen; omega); rintro e w5 ⟨rfl, rfl⟩; rw [HG0.out])
      | (go_at_call 40; (with_reducible refine (CDIGITS_any smp ?_ _).mono ?_); (unfold maxLen; omega); rintro e w5 ⟨rfl, rfl⟩; rw [HG1.out])
      | (go_at_call 41; (with_reducible refine (PAIR_any p1 ?_ _).mono ?_); omega; rintro e w6 ⟨rfl, hb6⟩; rw [HG2.out]; have HQC6 := Lib.hid ((hb6.block gs hgs).trans HPC.out); obtain ⟨q0', q1', q2', _, _, _⟩ := tri_cells HQC6.out)
      | (go_at_call 41; (with_reducible refine (PAIR_any p2 ?_ _).mono ?_); omega; rintro e w7 ⟨rfl, hb7⟩; rw [HG3.out]))
    refine bodyPost_ret (v := .tuple #[.int .i64 0, .int .i64 10]) (by simp [results, Tryz.results10, go_sem]) rfl ?_
    unfold ReadOut
    exact ⟨(0, 10), rfl, HT.out, HB2.out⟩
  have HG1 := Lib.hid (goodD_true g1)
  by_cases g2 : PairD p1.data.toList
  rotate_left
  · have HT := Lib.hid (HNO.out (fun t h e => g2 (HPT.out t h e).2.1))
    have HG2 := Lib.hid (pairD_false g2)
    clear g2
    go_wp2_with (first
      | (go_at_call 40; (with_reducible refine (CDIGITS_any p0 ?_ _).mono ?_); (unfold maxLen; omega); rintro e w5 ⟨rfl, rfl⟩; rw [HG0.out])
      | (go_at_call 40; (with_reducible refine (CDIGITS_any smp ?_ _).mono ?_); (unfold maxLen; omega); rintro e w5 ⟨rfl, rfl⟩; rw [HG1.out])
      | (go_at_call 41; (with_reducible refine (PAIR_any p1 ?_ _).mono ?_); omega; rintro e w6 ⟨rfl, hb6⟩; rw [HG2.out]; have HQC6 := Lib.hid ((hb6.block gs hgs).trans HPC.out); obtain ⟨q0', q1', q2', _, _, _⟩ := tri_cells HQC6.out)
      | (go_at_call 41; (with_reducible refine (PAIR_any p2 ?_ _).mono ?_); omega; rintro e w7 ⟨rfl, hb7⟩; rw [HG3.out]))
    refine bodyPost_ret (v := .tuple #[.int .i64 0, .int .i64 10]) (by simp [results, Tryz.results10, go_sem]) rfl ?_
    unfold ReadOut
    exact ⟨(0, 10), rfl, HT.out, HB2.out.trans (hb6.mono hw02)⟩
  have HG2 := Lib.hid (pairD_true g2)
  -- STOP5
  by_cases g3 : PairD p2.data.toList
  rotate_left
  · have HT := Lib.hid (HNO.out (fun t h e => g3 (HPT.out t h e).2.2.1))
    have HG3 := Lib.hid (pairD_false g3)
    clear g3
    go_wp2_with (first
      | (go_at_call 40; (with_reducible refine (CDIGITS_any p0 ?_ _).mono ?_); (unfold maxLen; omega); rintro e w5 ⟨rfl, rfl⟩; rw [HG0.out])
      | (go_at_call 40; (with_reducible refine (CDIGITS_any smp ?_ _).mono ?_); (unfold maxLen; omega); rintro e w5 ⟨rfl, rfl⟩; rw [HG1.out])
      | (go_at_call 41; (with_reducible refine (PAIR_any p1 ?_ _).mono ?_); omega; rintro e w6 ⟨rfl, hb6⟩; rw [HG2.out]; have HQC6 := Lib.hid ((hb6.block gs hgs).trans HPC.out); obtain ⟨q0', q1', q2', _, _, _⟩ := tri_cells HQC6.out)
      | (go_at_call 41; (with_reducible refine (PAIR_any p2 ?_ _).mono ?_); omega; rintro e w7 ⟨rfl, hb7⟩; rw [HG3.out]))
    refine bodyPost_ret (v := .tuple #[.int .i64 0, .int .i64 10]) (by simp [results, Tryz.results10, go_sem]) rfl ?_
    unfold ReadOut
    exact ⟨(0, 10), rfl, HT.out, HB2.out.trans ((hb6.trans (hb7.mono hb6.size)).mono hw02)⟩
  have HG3 := Lib.hid (pairD_true g3)
  -- STOP6
  have HVAL := Lib.hid (fun t h e => (HPT.out t h e).2.2.2)
  have D0 : Hid (AllDig p0.data.toList) := g0.1
  have DS : Hid (AllDig smp.data.toList) := g1.1
  have D1 : Hid (AllDig p1.data.toList) := g2.2
  have D2 : Hid (AllDig p2.data.toList) := g3.2
  clear g0 g1 g2 g3 HPT HPA
  go_upto_region 8 with (first
    | (go_at_call 40; (with_reducible refine (CDIGITS_any p0 ?_ _).mono ?_); (unfold maxLen; omega); rintro e w5 ⟨rfl, rfl⟩; rw [HG0.out])
    | (go_at_call 40; (with_reducible refine (CDIGITS_any smp ?_ _).mono ?_); (unfold maxLen; omega); rintro e w5 ⟨rfl, rfl⟩; rw [HG1.out])
    | (go_at_call 41; (with_reducible refine (PAIR_any p1 ?_ _).mono ?_); omega; rintro e w6 ⟨rfl, hb6⟩; rw [HG2.out]; have HQC6 := Lib.hid ((hb6.block gs hgs).trans HPC.out); obtain ⟨q0', q1', q2', _, _, _⟩ := tri_cells HQC6.out)
    | (go_at_call 41; (with_reducible refine (PAIR_any p2 ?_ _).mono ?_); omega; rintro e w7 ⟨rfl, hb7⟩; rw [HG3.out]))
  have HB7 := Lib.hid ((hb6.trans (hb7.mono hb6.size)))
  have hs7 := HB7.out.size
  have HPC7 := Lib.hid ((HB7.out.block gs hgs).trans HPC.out)
  clear q0 q1 q2 q0' q1' q2' hb6 hb7 HG0 HG1 HG2 HG3 HQC6
  obtain ⟨q0, q1, q2, _, _, _⟩ := tri_cells HPC7.out
  go_upto_region 9 with (go_at_call 42; refine (PARSED_any p0 D0 (by omega) _).mono ?_; rintro e w8 ⟨ng8, A8, n8, c8, rfl, h8, k8, hb8⟩)
  obtain ⟨W8, g12, hW8, hg12e, HG8, HBW8, HSW8⟩ := cell_new0 w8 41 #[.bool ng8, .slice A8 n8 c8]
  have H8 := Lib.hid h8
  have HI0 : Hid (IBox W8 g12 ((decV p0.data.toList : Nat) : Int) 60) := ⟨ng8, A8, n8, c8, HG8.out, H8.out.to HBW8.out (Nat.le_refl _) HBW8.out.size, by omega⟩
  have hs8 := Nat.le_trans hs7 hb8.size
  have HB8 : Hid (Below W2.heap.size W2 W8) := (HB7.out.trans (hb8.mono hs7)).trans (HBW8.out.mono hs8)
  have hg12 : W2.heap.size ≤ g12 := by rw [hg12e]; exact hs8
  rw [← hW8, ← hg12e]
  clear hW8 hg12e HG8 HBW8 HSW8 H8 h8 hb8 q0 q1 q2 HP HCUT HPC7
  go_wp2_with fail
  go_loopw [80] (fun i wr => (i = .int .i64 0 ∧ Hid (IBox wr g12 ((decV p0.data.toList : Nat) : Int) 60) ∧ Hid (Below W2.heap.size W2 wr)) ∨
    (i = .int .i64 1 ∧ Hid (IBox wr g12 (((decV p0.data.toList : Nat) : Int) * 60 + ((decV p1.data.toList : Nat) : Int)) 70) ∧ Hid (Below W2.heap.size W2 wr)) ∨
    (i = .int .i64 2 ∧ Hid (IBox wr g12 ((((decV p0.data.toList : Nat) : Int) * 60 + ((decV p1.data.toList : Nat) : Int)) * 60 + ((decV p2.data.toList : Nat) : Int)) 80) ∧ Hid (Below W2.heap.size W2 wr))) (fun i _ => 2 - (intOf i).toNat)
  case atStart => exact .inl ⟨rfl, HI0, HB8⟩
  case round =>
    rcases hrel with ⟨rfl, HI, hb⟩ | ⟨rfl, HI, hb⟩ | ⟨rfl, HI, hb⟩
    · skip
      obtain ⟨W, rfl⟩ : ∃ x : World, x = wr := ⟨_, rfl⟩
      obtain ⟨ngX, AX, nX, cX, bX, hX, kX⟩ := HI.out
      have HBX := Lib.hid bX
      have HX := Lib.hid hX
      obtain ⟨qX0, qX1, _, _⟩ := two_cells bX
      clear bX hX HI
      obtain ⟨q0, q1, q2, _, _, _⟩ := tri_cells ((hb.out.block gs hgs).trans HPC.out)
      go_upto_region 12 with (fail)
      refine wp_region_text 6 (fun x9 => x9.cell? ⟨g12, 0, none⟩ = some (.bool ngX) ∧ x9.cell? ⟨g12, 1, none⟩ = some (.slice AX nX cX)) (by kernel_rfl) (by kernel_rfl) ?_
      obtain ⟨wc, hwc⟩ : ∃ x : World, x = W.drew := ⟨_, rfl⟩
      have hbn : Below W.heap.size W W.drew := (Below.refl _ _).drew
      have HX := Lib.hid (HX.out.to hbn (Nat.le_refl _) hbn.size)
      clear hbn
      have HBc : Hid (Below W.heap.size W wc) := by show Below _ _ _; rw [hwc]; exact (Below.refl _ _).drew
      have hS : wc.cell? ⟨g12, 0, none⟩ = some (.bool ngX) ∧ wc.cell? ⟨g12, 1, none⟩ = some (.slice AX nX cX) := by rw [hwc]; exact ⟨qX0, qX1⟩
      have hg_0 : g12 < wc.heap.size := by rw [hwc]; exact blk_lt HBX.out
      rw [← hwc] at HX
      rw [← hwc]
      clear hwc
      refine HT.load (i := 0) (oi := _) (v := ?_) rfl (by kernel_rfl) (by kernel_rfl) (by decide) (fun _ _ _ h => h) (by kernel_rfl) (Or.inl ⟨by rfl, ?_⟩) hS ?_
      rotate_left
      · intro wz hwz
        try dsimp only at hwz
        go_simp
        try with_reducible rfl
      simp only [List.getElem_toArray, List.getElem_cons_succ, List.getElem_cons_zero, Act.put, List.setIfInBounds_toArray, List.set_cons_zero, List.set_cons_succ]
      refine HT.take (i := 3) (oi := _) (v := ?_) rfl (by kernel_rfl) (by kernel_rfl) (by decide) (fun _ _ _ h => h) (Or.inl ⟨by rfl, ?_⟩) hS ?_
      rotate_left
      · intro wz
        go_simp
        try with_reducible rfl
      simp only [List.getElem_toArray, List.getElem_cons_succ, List.getElem_cons_zero, Act.put, List.setIfInBounds_toArray, List.set_cons_zero, List.set_cons_succ]
      refine HT.one (i := 1) (o := _) rfl (by kernel_rfl) (by decide) (by rfl) ?_
      intro K hK
      go_simp
      refine (IOF_any 60 (by omega) (by omega) _).mono ?_
      rintro e wn ⟨ng1, A1, n1, c1, rfl, hH1, k1, hbn⟩
      have H1 := Lib.hid hH1
      clear hH1
      replace HX := Lib.hid (HX.out.to hbn (Nat.le_refl _) hbn.size)
      have HBn := Lib.hid (HBc.out.trans (hbn.mono HBc.out.size))
      have hSn : wn.cell? ⟨g12, 0, none⟩ = some (.bool ngX) ∧ wn.cell? ⟨g12, 1, none⟩ = some (.slice AX nX cX) := ⟨(hbn.cell (p := ⟨g12, 0, none⟩) hg_0).trans hS.1, (hbn.cell (p := ⟨g12, 1, none⟩) hg_0).trans hS.2⟩
      have hgn_0 := Nat.lt_of_lt_of_le hg_0 hbn.size
      refine hK.out _ _ hSn ?_
      clear hK K hS HBc hg_0
      try simp only [List.getElem_toArray, List.getElem_cons_succ, List.getElem_cons_zero, Act.put, List.setIfInBounds_toArray, List.set_cons_zero, List.set_cons_succ]
      have hS := hSn
      have HBc := HBn
      have hg_0 := hgn_0
      clear hSn HBn hbn hgn_0
      obtain ⟨wc, rfl⟩ : ∃ x : World, x = wn := ⟨_, rfl⟩
      refine HT.one (i := 2) (o := _) rfl (by kernel_rfl) (by decide) (by rfl) ?_
      intro K hK
      go_simp
      refine (IMUL_any ngX ng1 AX A1 nX cX n1 c1 _ _ (by omega) (by omega) _ wc.heap.size (Nat.le_refl _) HX H1).mono ?_
      rintro e wn ⟨ng2, A2, n2, c2, rfl, hH2, k2, hbn⟩
      have H2 := Lib.hid hH2
      clear hH2
      clear HX H1
      have HBn := Lib.hid (HBc.out.trans (hbn.mono HBc.out.size))
      have hSn : wn.cell? ⟨g12, 0, none⟩ = some (.bool ngX) ∧ wn.cell? ⟨g12, 1, none⟩ = some (.slice AX nX cX) := ⟨(hbn.cell (p := ⟨g12, 0, none⟩) hg_0).trans hS.1, (hbn.cell (p := ⟨g12, 1, none⟩) hg_0).trans hS.2⟩
      have hgn_0 := Nat.lt_of_lt_of_le hg_0 hbn.size
      refine hK.out _ _ hSn ?_
      clear hK K hS HBc hg_0
      try simp only [List.getElem_toArray, List.getElem_cons_succ, List.getElem_cons_zero, Act.put, List.setIfInBounds_toArray, List.set_cons_zero, List.set_cons_succ]
      have hS := hSn
      have HBc := HBn
      have hg_0 := hgn_0
      clear hSn HBn hbn hgn_0
      obtain ⟨wc, rfl⟩ : ∃ x : World, x = wn := ⟨_, rfl⟩
      refine HT.one (i := 4) (o := _) rfl (by kernel_rfl) (by decide) (by rfl) ?_
      intro K hK
      go_simp
      refine (PARSED_any p1 D1 (by omega) _).mono ?_
      rintro e wn ⟨ng3, A3, n3, c3, rfl, hH3, k3, hbn⟩
      have H3 := Lib.hid hH3
      clear hH3
      replace H2 := Lib.hid (H2.out.to hbn (Nat.le_refl _) hbn.size)
      have HBn := Lib.hid (HBc.out.trans (hbn.mono HBc.out.size))
      have hSn : wn.cell? ⟨g12, 0, none⟩ = some (.bool ngX) ∧ wn.cell? ⟨g12, 1, none⟩ = some (.slice AX nX cX) := ⟨(hbn.cell (p := ⟨g12, 0, none⟩) hg_0).trans hS.1, (hbn.cell (p := ⟨g12, 1, none⟩) hg_0).trans hS.2⟩
      have hgn_0 := Nat.lt_of_lt_of_le hg_0 hbn.size
      refine hK.out _ _ hSn ?_
      clear hK K hS HBc hg_0
      try simp only [List.getElem_toArray, List.getElem_cons_succ, List.getElem_cons_zero, Act.put, List.setIfInBounds_toArray, List.set_cons_zero, List.set_cons_succ]
      have hS := hSn
      have HBc := HBn
      have hg_0 := hgn_0
      clear hSn HBn hbn hgn_0
      obtain ⟨wc, rfl⟩ : ∃ x : World, x = wn := ⟨_, rfl⟩
      refine HT.one (i := 5) (o := _) rfl (by kernel_rfl) (by decide) (by rfl) ?_
      intro K hK
      go_simp
      refine (IADD_any ng2 ng3 A2 A3 n2 c2 n3 c3 _ _ (by omega) (by omega) _ wc.heap.size (Nat.le_refl _) H2 H3).mono ?_
      rintro e wn ⟨ng4, A4, n4, c4, rfl, hH4, k4, hbn⟩
      have H4 := Lib.hid hH4
      clear hH4
      clear H2 H3
      have HBn := Lib.hid (HBc.out.trans (hbn.mono HBc.out.size))
      have hSn : wn.cell? ⟨g12, 0, none⟩ = some (.bool ngX) ∧ wn.cell? ⟨g12, 1, none⟩ = some (.slice AX nX cX) := ⟨(hbn.cell (p := ⟨g12, 0, none⟩) hg_0).trans hS.1, (hbn.cell (p := ⟨g12, 1, none⟩) hg_0).trans hS.2⟩
      have hgn_0 := Nat.lt_of_lt_of_le hg_0 hbn.size
      refine hK.out _ _ hSn ?_
      clear hK K hS HBc hg_0
      try simp only [List.getElem_toArray, List.getElem_cons_succ, List.getElem_cons_zero, Act.put, List.setIfInBounds_toArray, List.set_cons_zero, List.set_cons_succ]
      have hS := hSn
      have HBc := HBn
      have hg_0 := hgn_0
      clear hSn HBn hbn hgn_0
      obtain ⟨wc, rfl⟩ : ∃ x : World, x = wn := ⟨_, rfl⟩
      have eX := Lib.hid ((HBc.out.block g12 (blk_lt HBX.out)).trans HBX.out)
      obtain ⟨r0, r1, f0, f1⟩ := two_cells eX.out
      refine HT.done (by kernel_rfl) ?_
      clear hS
      simp only [List.drop_succ_cons, List.drop_zero]
      obtain ⟨V, hV⟩ : ∃ V, V = (wc.setCell ⟨g12, 0, none⟩ (.bool ng4)).setCell ⟨g12, 1, none⟩ (.slice A4 n4 c4) := ⟨_, rfl⟩
      have HI := Lib.hid (IBox.store (k := 70) eX.out H4.out (by omega))
      have HB9 : Hid (Below W2.heap.size W2 V) := by show Below _ _ _; rw [hV]; exact box2_below (hb.out.trans (HBc.out.mono hb.out.size)) hg12
      rw [← hV] at HI
      go_wp2_with fail
      rw [← hV]
      go_roundw
      case rel => exact .inr (.inl ⟨rfl, HI, HB9⟩)
      case measure => simp [intOf]
      -- H4
    · skip
      obtain ⟨W, rfl⟩ : ∃ x : World, x = wr := ⟨_, rfl⟩
      obtain ⟨ngX, AX, nX, cX, bX, hX, kX⟩ := HI.out
      have HBX := Lib.hid bX
      have HX := Lib.hid hX
      obtain ⟨qX0, qX1, _, _⟩ := two_cells bX
      clear bX hX HI
      obtain ⟨q0, q1, q2, _, _, _⟩ := tri_cells ((hb.out.block gs hgs).trans HPC.out)
      go_upto_region 12 with (fail)
      refine wp_region_text 6 (fun x9 => x9.cell? ⟨g12, 0, none⟩ = some (.bool ngX) ∧ x9.cell? ⟨g12, 1, none⟩ = some (.slice AX nX cX)) (by kernel_rfl) (by kernel_rfl) ?_
      obtain ⟨wc, hwc⟩ : ∃ x : World, x = W.drew := ⟨_, rfl⟩
      have hbn : Below W.heap.size W W.drew := (Below.refl _ _).drew
      have HX := Lib.hid (HX.out.to hbn (Nat.le_refl _) hbn.size)
      clear hbn
      have HBc : Hid (Below W.heap.size W wc) := by show Below _ _ _; rw [hwc]; exact (Below.refl _ _).drew
      have hS : wc.cell? ⟨g12, 0, none⟩ = some (.bool ngX) ∧ wc.cell? ⟨g12, 1, none⟩ = some (.slice AX nX cX) := by rw [hwc]; exact ⟨qX0, qX1⟩
      have hg_0 : g12 < wc.heap.size := by rw [hwc]; exact blk_lt HBX.out
      rw [← hwc] at HX
      rw [← hwc]
      clear hwc
      refine HT.load (i := 0) (oi := _) (v := ?_) rfl (by kernel_rfl) (by kernel_rfl) (by decide) (fun _ _ _ h => h) (by kernel_rfl) (Or.inl ⟨by rfl, ?_⟩) hS ?_
      rotate_left
      · intro wz hwz
        try dsimp only at hwz
        go_simp
        try with_reducible rfl
      simp only [List.getElem_toArray, List.getElem_cons_succ, List.getElem_cons_zero, Act.put, List.setIfInBounds_toArray, List.set_cons_zero, List.set_cons_succ]
      refine HT.take (i := 3) (oi := _) (v := ?_) rfl (by kernel_rfl) (by kernel_rfl) (by decide) (fun _ _ _ h => h) (Or.inl ⟨by rfl, ?_⟩) hS ?_
      rotate_left
      · intro wz
        go_simp
        try with_reducible rfl
      simp only [List.getElem_toArray, List.getElem_cons_succ, List.getElem_cons_zero, Act.put, List.setIfInBounds_toArray, List.set_cons_zero, List.set_cons_succ]
      refine HT.one (i := 1) (o := _) rfl (by kernel_rfl) (by decide) (by rfl) ?_
      intro K hK
      go_simp
      refine (IOF_any 60 (by omega) (by omega) _).mono ?_
      rintro e wn ⟨ng1, A1, n1, c1, rfl, hH1, k1, hbn⟩
      have H1 := Lib.hid hH1
      clear hH1
      replace HX := Lib.hid (HX.out.to hbn (Nat.le_refl _) hbn.size)
      have HBn := Lib.hid (HBc.out.trans (hbn.mono HBc.out.size))
      have hSn : wn.cell? ⟨g12, 0, none⟩ = some (.bool ngX) ∧ wn.cell? ⟨g12, 1, none⟩ = some (.slice AX nX cX) := ⟨(hbn.cell (p := ⟨g12, 0, none⟩) hg_0).trans hS.1, (hbn.cell (p := ⟨g12, 1, none⟩) hg_0).trans hS.2⟩
      have hgn_0 := Nat.lt_of_lt_of_le hg_0 hbn.size
      refine hK.out _ _ hSn ?_
      clear hK K hS HBc hg_0
      try simp only [List.getElem_toArray, List.getElem_cons_succ, List.getElem_cons_zero, Act.put, List.setIfInBounds_toArray, List.set_cons_zero, List.set_cons_succ]
      have hS := hSn
      have HBc := HBn
      have hg_0 := hgn_0
      clear hSn HBn hbn hgn_0
      obtain ⟨wc, rfl⟩ : ∃ x : World, x = wn := ⟨_, rfl⟩
      refine HT.one (i := 2) (o := _) rfl (by kernel_rfl) (by decide) (by rfl) ?_
      intro K hK
      go_simp
      refine (IMUL_any ngX ng1 AX A1 nX cX n1 c1 _ _ (by omega) (by omega) _ wc.heap.size (Nat.le_refl _) HX H1).mono ?_
      rintro e wn ⟨ng2, A2, n2, c2, rfl, hH2, k2, hbn⟩
      have H2 := Lib.hid hH2
      clear hH2
      clear HX H1
      have HBn := Lib.hid (HBc.out.trans (hbn.mono HBc.out.size))
      have hSn : wn.cell? ⟨g12, 0, none⟩ = some (.bool ngX) ∧ wn.cell? ⟨g12, 1, none⟩ = some (.slice AX nX cX) := ⟨(hbn.cell (p := ⟨g12, 0, none⟩) hg_0).trans hS.1, (hbn.cell (p := ⟨g12, 1, none⟩) hg_0).trans hS.2⟩
      have hgn_0 := Nat.lt_of_lt_of_le hg_0 hbn.size
      refine hK.out _ _ hSn ?_
      clear hK K hS HBc hg_0
      try simp only [List.getElem_toArray, List.getElem_cons_succ, List.getElem_cons_zero, Act.put, List.setIfInBounds_toArray, List.set_cons_zero, List.set_cons_succ]
      have hS := hSn
      have HBc := HBn
      have hg_0 := hgn_0
      clear hSn HBn hbn hgn_0
      obtain ⟨wc, rfl⟩ : ∃ x : World, x = wn := ⟨_, rfl⟩
      refine HT.one (i := 4) (o := _) rfl (by kernel_rfl) (by decide) (by rfl) ?_
      intro K hK
      go_simp
      refine (PARSED_any p2 D2 (by omega) _).mono ?_
      rintro e wn ⟨ng3, A3, n3, c3, rfl, hH3, k3, hbn⟩
      have H3 := Lib.hid hH3
      clear hH3
      replace H2 := Lib.hid (H2.out.to hbn (Nat.le_refl _) hbn.size)
      have HBn := Lib.hid (HBc.out.trans (hbn.mono HBc.out.size))
      have hSn : wn.cell? ⟨g12, 0, none⟩ = some (.bool ngX) ∧ wn.cell? ⟨g12, 1, none⟩ = some (.slice AX nX cX) := ⟨(hbn.cell (p := ⟨g12, 0, none⟩) hg_0).trans hS.1, (hbn.cell (p := ⟨g12, 1, none⟩) hg_0).trans hS.2⟩
      have hgn_0 := Nat.lt_of_lt_of_le hg_0 hbn.size
      refine hK.out _ _ hSn ?_
      clear hK K hS HBc hg_0
      try simp only [List.getElem_toArray, List.getElem_cons_succ, List.getElem_cons_zero, Act.put, List.setIfInBounds_toArray, List.set_cons_zero, List.set_cons_succ]
      have hS := hSn
      have HBc := HBn
      have hg_0 := hgn_0
      clear hSn HBn hbn hgn_0
      obtain ⟨wc, rfl⟩ : ∃ x : World, x = wn := ⟨_, rfl⟩
      refine HT.one (i := 5) (o := _) rfl (by kernel_rfl) (by decide) (by rfl) ?_
      intro K hK
      go_simp
      refine (IADD_any ng2 ng3 A2 A3 n2 c2 n3 c3 _ _ (by omega) (by omega) _ wc.heap.size (Nat.le_refl _) H2 H3).mono ?_
      rintro e wn ⟨ng4, A4, n4, c4, rfl, hH4, k4, hbn⟩
      have H4 := Lib.hid hH4
      clear hH4
      clear H2 H3
      have HBn := Lib.hid (HBc.out.trans (hbn.mono HBc.out.size))
      have hSn : wn.cell? ⟨g12, 0, none⟩ = some (.bool ngX) ∧ wn.cell? ⟨g12, 1, none⟩ = some (.slice AX nX cX) := ⟨(hbn.cell (p := ⟨g12, 0, none⟩) hg_0).trans hS.1, (hbn.cell (p := ⟨g12, 1, none⟩) hg_0).trans hS.2⟩
      have hgn_0 := Nat.lt_of_lt_of_le hg_0 hbn.size
      refine hK.out _ _ hSn ?_
      clear hK K hS HBc hg_0
      try simp only [List.getElem_toArray, List.getElem_cons_succ, List.getElem_cons_zero, Act.put, List.setIfInBounds_toArray, List.set_cons_zero, List.set_cons_succ]
      have hS := hSn
      have HBc := HBn
      have hg_0 := hgn_0
      clear hSn HBn hbn hgn_0
      obtain ⟨wc, rfl⟩ : ∃ x : World, x = wn := ⟨_, rfl⟩
      have eX := Lib.hid ((HBc.out.block g12 (blk_lt HBX.out)).trans HBX.out)
      obtain ⟨r0, r1, f0, f1⟩ := two_cells eX.out
      refine HT.done (by kernel_rfl) ?_
      clear hS
      simp only [List.drop_succ_cons, List.drop_zero]
      obtain ⟨V, hV⟩ : ∃ V, V = (wc.setCell ⟨g12, 0, none⟩ (.bool ng4)).setCell ⟨g12, 1, none⟩ (.slice A4 n4 c4) := ⟨_, rfl⟩
      have HI := Lib.hid (IBox.store (k := 80) eX.out H4.out (by omega))
      have HB9 : Hid (Below W2.heap.size W2 V) := by show Below _ _ _; rw [hV]; exact box2_below (hb.out.trans (HBc.out.mono hb.out.size)) hg12
      rw [← hV] at HI
      go_wp2_with fail
      rw [← hV]
      go_roundw
      case rel => exact .inr (.inr ⟨rfl, HI, HB9⟩)
      case measure => simp [intOf]
      -- H4
    · skip
      obtain ⟨W, rfl⟩ : ∃ x : World, x = wr := ⟨_, rfl⟩
      obtain ⟨ngX, AX, nX, cX, bX, hX, kX⟩ := HI.out
      have HBX := Lib.hid bX
      have HX := Lib.hid hX
      obtain ⟨qX0, qX1, _, _⟩ := two_cells bX
      clear bX hX HI
      go_upto_region 14 with (fail)
      refine wp_region_text 7 (fun x9 => x9.cell? ⟨g12, 0, none⟩ = some (.bool ngX) ∧ x9.cell? ⟨g12, 1, none⟩ = some (.slice AX nX cX)) (by kernel_rfl) (by kernel_rfl) ?_
      obtain ⟨wc, hwc⟩ : ∃ x : World, x = W.drew := ⟨_, rfl⟩
      have hbn : Below W.heap.size W W.drew := (Below.refl _ _).drew
      have HX := Lib.hid (HX.out.to hbn (Nat.le_refl _) hbn.size)
      clear hbn
      have HBc : Hid (Below W.heap.size W wc) := by show Below _ _ _; rw [hwc]; exact (Below.refl _ _).drew
      have hS : wc.cell? ⟨g12, 0, none⟩ = some (.bool ngX) ∧ wc.cell? ⟨g12, 1, none⟩ = some (.slice AX nX cX) := by rw [hwc]; exact ⟨qX0, qX1⟩
      have hg_0 : g12 < wc.heap.size := by rw [hwc]; exact blk_lt HBX.out
      rw [← hwc] at HX
      rw [← hwc]
      clear hwc
      refine HT.load (i := 0) (oi := _) (v := ?_) rfl (by kernel_rfl) (by kernel_rfl) (by decide) (fun _ _ _ h => h) (by kernel_rfl) (Or.inl ⟨by rfl, ?_⟩) hS ?_
      rotate_left
      · intro wz hwz
        try dsimp only at hwz
        go_simp
        try with_reducible rfl
      simp only [List.getElem_toArray, List.getElem_cons_succ, List.getElem_cons_zero, Act.put, List.setIfInBounds_toArray, List.set_cons_zero, List.set_cons_succ]
      refine HT.take (i := 1) (oi := _) (v := ?_) rfl (by kernel_rfl) (by kernel_rfl) (by decide) (fun _ _ _ h => h) (Or.inl ⟨by rfl, ?_⟩) hS ?_
      rotate_left
      · intro wz
        go_simp
        try with_reducible rfl
      simp only [List.getElem_toArray, List.getElem_cons_succ, List.getElem_cons_zero, Act.put, List.setIfInBounds_toArray, List.set_cons_zero, List.set_cons_succ]
      refine HT.take (i := 4) (oi := _) (v := ?_) rfl (by kernel_rfl) (by kernel_rfl) (by decide) (fun _ _ _ h => h) (Or.inl ⟨by rfl, ?_⟩) hS ?_
      rotate_left
      · intro wz
        go_simp
        try with_reducible rfl
      simp only [List.getElem_toArray, List.getElem_cons_succ, List.getElem_cons_zero, Act.put, List.setIfInBounds_toArray, List.set_cons_zero, List.set_cons_succ]
      refine HT.one (i := 2) (o := _) rfl (by kernel_rfl) (by decide) (by rfl) ?_
      intro K hK
      go_simp
      refine (IOF_any r (by omega) (by omega) _).mono ?_
      rintro e wn ⟨ng1, A1, n1, c1, rfl, hH1, k1, hbn⟩
      have H1 := Lib.hid hH1
      clear hH1
      replace HX := Lib.hid (HX.out.to hbn (Nat.le_refl _) hbn.size)
      have HBn := Lib.hid (HBc.out.trans (hbn.mono HBc.out.size))
      have hSn : wn.cell? ⟨g12, 0, none⟩ = some (.bool ngX) ∧ wn.cell? ⟨g12, 1, none⟩ = some (.slice AX nX cX) := ⟨(hbn.cell (p := ⟨g12, 0, none⟩) hg_0).trans hS.1, (hbn.cell (p := ⟨g12, 1, none⟩) hg_0).trans hS.2⟩
      have hgn_0 := Nat.lt_of_lt_of_le hg_0 hbn.size
      refine hK.out _ _ hSn ?_
      clear hK K hS HBc hg_0
      try simp only [List.getElem_toArray, List.getElem_cons_succ, List.getElem_cons_zero, Act.put, List.setIfInBounds_toArray, List.set_cons_zero, List.set_cons_succ]
      have hS := hSn
      have HBc := HBn
      have hg_0 := hgn_0
      clear hSn HBn hbn hgn_0
      obtain ⟨wc, rfl⟩ : ∃ x : World, x = wn := ⟨_, rfl⟩
      refine HT.one (i := 3) (o := _) rfl (by kernel_rfl) (by decide) (by rfl) ?_
      intro K hK
      go_simp
      refine (IMUL_any ngX ng1 AX A1 nX cX n1 c1 _ _ (by omega) (by omega) _ wc.heap.size (Nat.le_refl _) HX H1).mono ?_
      rintro e wn ⟨ng2, A2, n2, c2, rfl, hH2, k2, hbn⟩
      have H2 := Lib.hid hH2
      clear hH2
      clear HX H1
      have HBn := Lib.hid (HBc.out.trans (hbn.mono HBc.out.size))
      have hSn : wn.cell? ⟨g12, 0, none⟩ = some (.bool ngX) ∧ wn.cell? ⟨g12, 1, none⟩ = some (.slice AX nX cX) := ⟨(hbn.cell (p := ⟨g12, 0, none⟩) hg_0).trans hS.1, (hbn.cell (p := ⟨g12, 1, none⟩) hg_0).trans hS.2⟩
      have hgn_0 := Nat.lt_of_lt_of_le hg_0 hbn.size
      refine hK.out _ _ hSn ?_
      clear hK K hS HBc hg_0
      try simp only [List.getElem_toArray, List.getElem_cons_succ, List.getElem_cons_zero, Act.put, List.setIfInBounds_toArray, List.set_cons_zero, List.set_cons_succ]
      have hS := hSn
      have HBc := HBn
      have hg_0 := hgn_0
      clear hSn HBn hbn hgn_0
      obtain ⟨wc, rfl⟩ : ∃ x : World, x = wn := ⟨_, rfl⟩
      refine HT.one (i := 5) (o := _) rfl (by kernel_rfl) (by decide) (by rfl) ?_
      intro K hK
      go_simp
      refine (PARSED_any smp DS (by omega) _).mono ?_
      rintro e wn ⟨ng3, A3, n3, c3, rfl, hH3, k3, hbn⟩
      have H3 := Lib.hid hH3
      clear hH3
      replace H2 := Lib.hid (H2.out.to hbn (Nat.le_refl _) hbn.size)
      have HBn := Lib.hid (HBc.out.trans (hbn.mono HBc.out.size))
      have hSn : wn.cell? ⟨g12, 0, none⟩ = some (.bool ngX) ∧ wn.cell? ⟨g12, 1, none⟩ = some (.slice AX nX cX) := ⟨(hbn.cell (p := ⟨g12, 0, none⟩) hg_0).trans hS.1, (hbn.cell (p := ⟨g12, 1, none⟩) hg_0).trans hS.2⟩
      have hgn_0 := Nat.lt_of_lt_of_le hg_0 hbn.size
      refine hK.out _ _ hSn ?_
      clear hK K hS HBc hg_0
      try simp only [List.getElem_toArray, List.getElem_cons_succ, List.getElem_cons_zero, Act.put, List.setIfInBounds_toArray, List.set_cons_zero, List.set_cons_succ]
      have hS := hSn
      have HBc := HBn
      have hg_0 := hgn_0
      clear hSn HBn hbn hgn_0
      obtain ⟨wc, rfl⟩ : ∃ x : World, x = wn := ⟨_, rfl⟩
      refine HT.one (i := 6) (o := _) rfl (by kernel_rfl) (by decide) (by rfl) ?_
      intro K hK
      go_simp
      refine (IADD_any ng2 ng3 A2 A3 n2 c2 n3 c3 _ _ (by omega) (by omega) _ wc.heap.size (Nat.le_refl _) H2 H3).mono ?_
      rintro e wn ⟨ng4, A4, n4, c4, rfl, hH4, k4, hbn⟩
      have H4 := Lib.hid hH4
      clear hH4
      clear H2 H3
      have HBn := Lib.hid (HBc.out.trans (hbn.mono HBc.out.size))
      have hSn : wn.cell? ⟨g12, 0, none⟩ = some (.bool ngX) ∧ wn.cell? ⟨g12, 1, none⟩ = some (.slice AX nX cX) := ⟨(hbn.cell (p := ⟨g12, 0, none⟩) hg_0).trans hS.1, (hbn.cell (p := ⟨g12, 1, none⟩) hg_0).trans hS.2⟩
      have hgn_0 := Nat.lt_of_lt_of_le hg_0 hbn.size
      refine hK.out _ _ hSn ?_
      clear hK K hS HBc hg_0
      try simp only [List.getElem_toArray, List.getElem_cons_succ, List.getElem_cons_zero, Act.put, List.setIfInBounds_toArray, List.set_cons_zero, List.set_cons_succ]
      have hS := hSn
      have HBc := HBn
      have hg_0 := hgn_0
      clear hSn HBn hbn hgn_0
      obtain ⟨wc, rfl⟩ : ∃ x : World, x = wn := ⟨_, rfl⟩
      have eX := Lib.hid ((HBc.out.block g12 (blk_lt HBX.out)).trans HBX.out)
      obtain ⟨r0, r1, f0, f1⟩ := two_cells eX.out
      refine HT.done (by kernel_rfl) ?_
      clear hS
      simp only [List.drop_succ_cons, List.drop_zero]
      obtain ⟨V, hV⟩ : ∃ V, V = (wc.setCell ⟨g12, 0, none⟩ (.bool ng4)).setCell ⟨g12, 1, none⟩ (.slice A4 n4 c4) := ⟨_, rfl⟩
      have HI := Lib.hid (IBox.store (k := 90) eX.out H4.out (by omega))
      have HB9 : Hid (Below W2.heap.size W2 V) := by show Below _ _ _; rw [hV]; exact box2_below (hb.out.trans (HBc.out.mono hb.out.size)) hg12
      rw [← hV] at HI
      go_upto_region 15 with (fail)
      rw [← hV]
      clear hV r0 r1 f0 f1 eX
      cases ng with
      | false =>
        have HTV : Hid (∀ t : Int, okPos t = true → showTxt t r = s.data.toList → (((((decV p0.data.toList : Nat) : Int) * 60 + ((decV p1.data.toList : Nat) : Int)) * 60 + ((decV p2.data.toList : Nat) : Int)) * (r : Int) + ((decV smp.data.toList : Nat) : Int)) = t) := fun t h e => by
          have h1 := HVAL.out t h e
          rw [if_neg (by decide)] at h1
          rw [← h1, Int.natCast_add, Int.natCast_mul, show (((decV p0.data.toList * 60 + decV p1.data.toList) * 60 + decV p2.data.toList : Nat) : Int) = (((decV p0.data.toList : Nat) : Int) * 60 + ((decV p1.data.toList : Nat) : Int)) * 60 + ((decV p2.data.toList : Nat) : Int) by omega]
        go_upto_region 17 with (fail)
        have HTT : Hid (∀ t : Int, okPos t = true → showTxt t r = s.data.toList → (((((decV p0.data.toList : Nat) : Int) * 60 + ((decV p1.data.toList : Nat) : Int)) * 60 + ((decV p2.data.toList : Nat) : Int)) * (r : Int) + ((decV smp.data.toList : Nat) : Int)) = t) := HTV
        obtain ⟨Z, hZ⟩ : ∃ Z : Int, (((((decV p0.data.toList : Nat) : Int) * 60 + ((decV p1.data.toList : Nat) : Int)) * 60 + ((decV p2.data.toList : Nat) : Int)) * (r : Int) + ((decV smp.data.toList : Nat) : Int)) = Z := ⟨_, rfl⟩
        rw [hZ] at HTT HI
        clear hZ HTV
        obtain ⟨ngZ, AZ, nZ, cZ, bZ, hZ, kZ⟩ := HI.out
        obtain ⟨u0, u1, _, _⟩ := two_cells bZ
        have HZ9 := Lib.hid hZ
        clear bZ hZ
        by_cases hP : Z.natAbs ≤ 10000000000000
        rotate_left
        · have HPI : Hid (posI Z = (0, 1)) := if_neg hP
          have HT := Lib.hid (HNO.out (fun t h e => by
            have h1 := HTT.out t h e
            have h2 := okPos_le h
            omega))
          go_wp2_with (go_at_call 44; refine (POSITION_any ngZ AZ nZ cZ Z _ _ (Nat.le_refl _) HZ9).mono ?_; rw [HPI.out]; rintro e w7 ⟨rfl, hb7⟩)
          refine bodyPost_ret (v := .tuple #[.int .i64 0, .int .i64 10]) (by simp [results, Tryz.results10, go_sem]) rfl ?_
          unfold ReadOut
          exact ⟨(0, 10), rfl, HT.out, HB2.out.trans ((HB9.out.trans (hb7.mono HB9.out.size)).mono hw02)⟩
        have HPI : Hid (posI Z = (Z, 0)) := if_pos hP
        have hok : okPos Z = true := by unfold okPos; simp; omega
        have HOK := Lib.hid hok
        have HSH : Hid (showS Z r = (showTxt Z r, 0)) := by show _ = _; unfold showS; rw [if_neg (by rw [HOK.out, HRT.out]; simp), Int.toNat_natCast]
        clear hP hok
        go_upto_region 20 with (go_at_call 44; refine (POSITION_any ngZ AZ nZ cZ Z _ _ (Nat.le_refl _) HZ9).mono ?_; rw [HPI.out]; rintro e w7 ⟨rfl, hb7⟩)
        have HB7 := Lib.hid (HB2.out.trans ((HB9.out.trans (hb7.mono HB9.out.size)).mono hw02))
        have ht7 : Hid (TabAt w7) := ht.out.below HB7.out
        clear hb7 u0 u1
        go_upto_region 21 with (go_at_call 8; refine (SHOW_any Z r _ ht7).mono ?_; rw [HSH.out]; rintro e w8 ⟨z9, rfl, hz9, hb8⟩)
        have HZ : Hid (z9.data.toList = showTxt Z r) := hz9
        have HB8 := Lib.hid (HB7.out.trans (hb8.mono HB7.out.size))
        clear hz9 hb8
        by_cases hzs : z9 = s
        · subst hzs
          have HT : Hid (ReadS (r : Int) z9.data.toList (Z, 0)) := HTS.out (Z, 0) (.inl ⟨rfl, HOK.out, HZ.out.symm⟩)
          go_wp2_with fail
          refine bodyPost_ret (v := .tuple #[.int .i64 Z, .int .i64 0]) (by simp [results, Tryz.results10, go_sem]) rfl ?_
          unfold ReadOut
          exact ⟨(Z, 0), rfl, HT.out, HB8.out⟩
        · have HT := Lib.hid (HNO.out (fun t h e => hzs (by
            have h1 := HTT.out t h e
            subst h1
            exact ByteArray.ext (Array.toList_inj.1 (by rw [HZ.out]; exact e)))))
          have hz1 : (z9.toList == s.toList) = false := by
            rw [ByteArray.toList_eq, ByteArray.toList_eq]
            simp only [beq_eq_false_iff_ne, ne_eq]
            exact fun e => hzs (ByteArray.ext (Array.toList_inj.1 e))
          go_wp2_with fail
          refine bodyPost_ret (v := .tuple #[.int .i64 0, .int .i64 10]) (by simp [results, Tryz.results10, go_sem]) rfl ?_
          unfold ReadOut
          exact ⟨(0, 10), rfl, HT.out, HB8.out⟩
      | true =>
        have HTV : Hid (∀ t : Int, okPos t = true → showTxt t r = s.data.toList → -(((((decV p0.data.toList : Nat) : Int) * 60 + ((decV p1.data.toList : Nat) : Int)) * 60 + ((decV p2.data.toList : Nat) : Int)) * (r : Int) + ((decV smp.data.toList : Nat) : Int)) = t) := fun t h e => by
          have h1 := HVAL.out t h e
          rw [if_pos rfl] at h1
          rw [← h1, Int.natCast_add, Int.natCast_mul, show (((decV p0.data.toList * 60 + decV p1.data.toList) * 60 + decV p2.data.toList : Nat) : Int) = (((decV p0.data.toList : Nat) : Int) * 60 + ((decV p1.data.toList : Nat) : Int)) * 60 + ((decV p2.data.toList : Nat) : Int) by omega]
        obtain ⟨ngY, AY, nY, cY, bY, hY, kY⟩ := HI.out
        obtain ⟨v0, v1, y0, y1⟩ := two_cells bY
        have HY := Lib.hid hY
        have HBY := Lib.hid bY
        clear bY hY HI
        go_upto_region 17 with (go_at_call 43; refine (IMINUS_any ngY AY nY cY _ _ _ (Nat.le_refl _) HY).mono ?_; rintro e w6 ⟨ng6, A6, n6, c6, rfl, h6, k6, hb6⟩; have HE6 := Lib.hid ((hb6.block g12 (blk_lt HBY.out)).trans HBY.out); have H6 := Lib.hid h6; have HB6 := Lib.hid (HB9.out.trans (hb6.mono HB9.out.size)); clear h6 hb6; obtain ⟨x0, x1, z0, z1⟩ := two_cells HE6.out)
        obtain ⟨X, hX⟩ : ∃ X, X = (w6.setCell ⟨g12, 0, none⟩ (.bool ng6)).setCell ⟨g12, 1, none⟩ (.slice A6 n6 c6) := ⟨_, rfl⟩
        have HI := Lib.hid (IBox.store (k := 90) HE6.out H6.out (by omega))
        have HB9 : Hid (Below W2.heap.size W2 X) := by show Below _ _ _; rw [hX]; exact box2_below HB6.out hg12
        rw [← hX] at HI
        rw [← hX]
        clear hX x0 x1 z0 z1 v0 v1 y0 y1 HE6 H6 HB6 HY HBY
        have HTT : Hid (∀ t : Int, okPos t = true → showTxt t r = s.data.toList → -(((((decV p0.data.toList : Nat) : Int) * 60 + ((decV p1.data.toList : Nat) : Int)) * 60 + ((decV p2.data.toList : Nat) : Int)) * (r : Int) + ((decV smp.data.toList : Nat) : Int)) = t) := HTV
        obtain ⟨Z, hZ⟩ : ∃ Z : Int, -(((((decV p0.data.toList : Nat) : Int) * 60 + ((decV p1.data.toList : Nat) : Int)) * 60 + ((decV p2.data.toList : Nat) : Int)) * (r : Int) + ((decV smp.data.toList : Nat) : Int)) = Z := ⟨_, rfl⟩
        rw [hZ] at HTT HI
        clear hZ HTV
        obtain ⟨ngZ, AZ, nZ, cZ, bZ, hZ, kZ⟩ := HI.out
        obtain ⟨u0, u1, _, _⟩ := two_cells bZ
        have HZ9 := Lib.hid hZ
        clear bZ hZ
        by_cases hP : Z.natAbs ≤ 10000000000000
        rotate_left
        · have HPI : Hid (posI Z = (0, 1)) := if_neg hP
          have HT := Lib.hid (HNO.out (fun t h e => by
            have h1 := HTT.out t h e
            have h2 := okPos_le h
            omega))
          go_wp2_with (go_at_call 44; refine (POSITION_any ngZ AZ nZ cZ Z _ _ (Nat.le_refl _) HZ9).mono ?_; rw [HPI.out]; rintro e w7 ⟨rfl, hb7⟩)
          refine bodyPost_ret (v := .tuple #[.int .i64 0, .int .i64 10]) (by simp [results, Tryz.results10, go_sem]) rfl ?_
          unfold ReadOut
          exact ⟨(0, 10), rfl, HT.out, HB2.out.trans ((HB9.out.trans (hb7.mono HB9.out.size)).mono hw02)⟩
        have HPI : Hid (posI Z = (Z, 0)) := if_pos hP
        have hok : okPos Z = true := by unfold okPos; simp; omega
        have HOK := Lib.hid hok
        have HSH : Hid (showS Z r = (showTxt Z r, 0)) := by show _ = _; unfold showS; rw [if_neg (by rw [HOK.out, HRT.out]; simp), Int.toNat_natCast]
        clear hP hok
        go_upto_region 20 with (go_at_call 44; refine (POSITION_any ngZ AZ nZ cZ Z _ _ (Nat.le_refl _) HZ9).mono ?_; rw [HPI.out]; rintro e w7 ⟨rfl, hb7⟩)
        have HB7 := Lib.hid (HB2.out.trans ((HB9.out.trans (hb7.mono HB9.out.size)).mono hw02))
        have ht7 : Hid (TabAt w7) := ht.out.below HB7.out
        clear hb7 u0 u1
        go_upto_region 21 with (go_at_call 8; refine (SHOW_any Z r _ ht7).mono ?_; rw [HSH.out]; rintro e w8 ⟨z9, rfl, hz9, hb8⟩)
        have HZ : Hid (z9.data.toList = showTxt Z r) := hz9
        have HB8 := Lib.hid (HB7.out.trans (hb8.mono HB7.out.size))
        clear hz9 hb8
        by_cases hzs : z9 = s
        · subst hzs
          have HT : Hid (ReadS (r : Int) z9.data.toList (Z, 0)) := HTS.out (Z, 0) (.inl ⟨rfl, HOK.out, HZ.out.symm⟩)
          go_wp2_with fail
          refine bodyPost_ret (v := .tuple #[.int .i64 Z, .int .i64 0]) (by simp [results, Tryz.results10, go_sem]) rfl ?_
          unfold ReadOut
          exact ⟨(Z, 0), rfl, HT.out, HB8.out⟩
        · have HT := Lib.hid (HNO.out (fun t h e => hzs (by
            have h1 := HTT.out t h e
            subst h1
            exact ByteArray.ext (Array.toList_inj.1 (by rw [HZ.out]; exact e)))))
          have hz1 : (z9.toList == s.toList) = false := by
            rw [ByteArray.toList_eq, ByteArray.toList_eq]
            simp only [beq_eq_false_iff_ne, ne_eq]
            exact fun e => hzs (ByteArray.ext (Array.toList_inj.1 e))
          go_wp2_with fail
          refine bodyPost_ret (v := .tuple #[.int .i64 0, .int .i64 10]) (by simp [results, Tryz.results10, go_sem]) rfl ?_
          unfold ReadOut
          exact ⟨(0, 10), rfl, HT.out, HB8.out⟩
      -- H4
end Go.Proofs.YthgjgiccoobcgaaGreatDoor
