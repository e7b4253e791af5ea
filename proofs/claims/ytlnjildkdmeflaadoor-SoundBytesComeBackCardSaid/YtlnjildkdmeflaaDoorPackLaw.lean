/- The plain law of Pack and Chunks: chunks come back. -/
import Derived.Test.YtlnjildkdmeflaaDoorPlaced1
import Derived.Test.YtlnjildkdmeflaaDoorSameC
set_option linter.unusedSimpArgs false
set_option linter.unusedVariables false
namespace Go.Proofs.YtlnjildkdmeflaaDoor
open Go.RowKit Go.Dw
theorem numB_leZ : ∀ (k m : Nat), m < 256 ^ k → numB (leZ (m : Int) k) = m
  | 0, m, h => by simp at h; subst h; rfl
  | k + 1, m, h => by
    have e : ((m : Int) / 256) = ((m / 256 : Nat) : Int) := by omega
    have hb : (byteZ (m : Int)).toNat = m % 256 := by have := byteZ_toNat (m : Int); omega
    show (byteZ (m : Int)).toNat + 256 * numB (leZ ((m : Int) / 256) k) = m
    rw [e, numB_leZ k (m / 256) (by rw [Nat.pow_succ] at h; omega), hb]
    omega
theorem leZ_numB : ∀ (bs : By), leZ ((numB bs : Nat) : Int) bs.length = bs
  | [] => rfl
  | b :: t => by
    have hb := b.toNat_lt
    have e : (((b.toNat + 256 * numB t : Nat) : Int) / 256) = ((numB t : Nat) : Int) := by omega
    have h2 : byteZ ((b.toNat + 256 * numB t : Nat) : Int) = b := by
      unfold byteZ
      have h3 : (((b.toNat + 256 * numB t : Nat) : Int) % 256).toNat = b.toNat := by omega
      rw [h3]; simp
    show byteZ ((b.toNat + 256 * numB t : Nat) : Int) :: leZ (((b.toNat + 256 * numB t : Nat) : Int) / 256) t.length = b :: t
    rw [e, h2, leZ_numB t]
theorem cutB_add (b : By) (at_ p q : Nat) : cutB b (at_ + p) (at_ + p + q) = ((b.drop at_).drop p).take q := by
  unfold cutB; rw [List.drop_drop, show at_ + p + q - (at_ + p) = q by omega]
theorem take_seg {x y z : By} {n : Nat} (h : x.length = n) : (x ++ y).take n = x := by rw [← h]; simp
theorem drop_seg {x y : By} {n : Nat} (h : x.length = n) : (x ++ y).drop n = y := by rw [← h]; simp
/-- what stands at a place is read there -/
theorem chunkS_pack {x rest : By} {at_ : Nat} {c : Ck} (hat : at_ ≤ x.length) (hn : nameB c.1 = true) (hm : c.2.length < 4294967296) (hx : x.drop at_ = pack1 c ++ rest) : chunkS x at_ = some (c, at_ + roomN c) := by
  have h4 := nameB_four hn
  have hlen : x.length = at_ + (roomN c + rest.length) := by
    have h := congrArg List.length hx
    rw [List.length_drop, List.length_append, pack1_length hn] at h
    omega
  have hr : 8 ≤ roomN c := by unfold roomN; omega
  have hY : x.drop at_ = c.1 ++ (leZ c.2.length 4 ++ (c.2 ++ (padB c.2.length ++ rest))) := by
    rw [hx]; unfold pack1; simp only [List.append_assoc]
  have e1 : cutB x at_ (at_ + 4) = c.1 := by
    have := cutB_add x at_ 0 4
    rw [Nat.add_zero] at this
    rw [this, hY, List.drop_zero]
    exact take_seg (z := []) h4
  have e2 : cutB x (at_ + 4) (at_ + 8) = leZ c.2.length 4 := by
    have := cutB_add x at_ 4 4
    rw [show at_ + 4 + 4 = at_ + 8 by omega] at this
    rw [this, hY, drop_seg h4]
    exact take_seg (z := []) (leZ_length _ _)
  have e3 : lenN x at_ = c.2.length := by
    unfold lenN
    rw [e2]
    exact numB_leZ 4 _ hm
  have e4 : cutB x (at_ + 8) (at_ + 8 + c.2.length) = c.2 := by
    rw [cutB_add x at_ 8 c.2.length, hY, show (8 : Nat) = 4 + 4 by rfl, ← List.drop_drop, drop_seg h4, drop_seg (leZ_length _ _)]
    exact take_seg (z := []) rfl
  have hnx : nextN at_ c.2.length = at_ + roomN c := by unfold nextN roomN; omega
  have e5 : c.2.length % 2 = 1 → byOf x (nextN at_ c.2.length - 1) = 0 := by
    intro ho
    have h1 : nextN at_ c.2.length - 1 = at_ + (8 + c.2.length) := by unfold nextN; omega
    rw [h1]
    have h2 : byOf x (at_ + (8 + c.2.length)) = byOf (x.drop at_) (8 + c.2.length) := by simp [byOf, List.getD, List.getElem?_drop]
    have h3 : x.drop at_ = (c.1 ++ leZ c.2.length 4 ++ c.2) ++ (0 :: rest) := by
      rw [hY]; unfold padB; rw [if_pos ho]; simp
    have h6 : (c.1 ++ leZ c.2.length 4 ++ c.2).length = 8 + c.2.length := by simp [leZ_length, h4]; omega
    rw [h2, h3]
    simp only [byOf, List.getD]
    rw [List.getElem?_append_right (by omega), h6, Nat.sub_self]
    rfl
  unfold chunkS
  rw [e1, e3, if_neg (by rw [hn]; rintro (h | h); omega; cases h), if_neg (by rw [hnx]; rintro (h | h); omega; exact h.2 (by rw [← hnx]; exact e5 h.1)), e4, hnx]
theorem packK_split (l : List Ck) (k : Nat) (hk : k < l.length) : ∃ rest, packK l l.length = packK l k ++ (pack1 (ckOf l k) ++ rest) := by
  refine ⟨(l.drop (k + 1)).flatMap pack1, ?_⟩
  have h : l.take l.length = l.take k ++ (ckOf l k :: l.drop (k + 1)) := by
    rw [List.take_length]
    have h1 : l.drop k = ckOf l k :: l.drop (k + 1) := by rw [List.drop_eq_getElem_cons hk]; simp [ckOf, List.getD, List.getElem?_eq_getElem hk]
    rw [← h1, List.take_append_drop]
  unfold packK
  rw [h, List.flatMap_append, List.flatMap_cons]
theorem plS_pack {l : List Ck} (hl : l.length ≤ 1000) (hn : namesB l l.length = true) (hs : sizeK l l.length ≤ 8000000) : ∀ (d k f : Nat) (ps : List Int), l.length - k = d → k ≤ l.length → (packK l l.length).length - sizeK l k < f →
    ∃ ps', plS (packK l l.length) f (l.take k) ps (sizeK l k) = ((l, ps'), 0, 0)
  | 0, k, f, ps, hd, hk, hf => by
    obtain rfl : k = l.length := by omega
    have hlen := packK_length hn (Nat.le_refl l.length)
    rw [List.take_length]
    exact ⟨ps, plS_end (by omega) (by rw [hlen]; omega)⟩
  | d + 1, k, f, ps, hd, hk, hf => by
    have hk' : k < l.length := by omega
    have hlen := packK_length hn (Nat.le_refl l.length)
    have hlk := packK_length hn hk
    obtain ⟨rest, hr⟩ := packK_split l k hk'
    have hm : sizeK l (k + 1) ≤ sizeK l l.length := sizeK_mono
    have hsz := sizeK_succ hk'
    have hroom : 8 + (ckOf l k).2.length ≤ roomN (ckOf l k) := by unfold roomN; omega
    have hc := chunkS_pack (x := packK l l.length) (rest := rest) (at_ := sizeK l k) (c := ckOf l k) (by rw [hlen]; omega) (namesB_at hk' hn) (by omega) (by rw [hr, ← hlk]; simp)
    rw [← hsz] at hc
    obtain ⟨f', rfl⟩ : ∃ f', f = f' + 1 := ⟨f - 1, by omega⟩
    rw [plS_next (by rw [hlen]; omega) (by rw [List.length_take]; omega) hc, ← take_ck hk']
    exact plS_pack hl hn hs d (k + 1) f' _ (by omega) (by omega) (by omega)
theorem placed_pack {l : List Ck} {x : By} (h : packS l = (x, 0)) : ∃ ps, placedS x = ((l, ps), 0, 0) := by
  unfold packS at h
  split at h
  · cases h
  · rename_i h1
    split at h
    · cases h
    · rename_i h2
      split at h
      · cases h
      · rename_i h3
        injection h with h _
        subst h
        have hn : namesB l l.length = true := by simpa using h2
        have hlen := packK_length hn (Nat.le_refl l.length)
        unfold placedS
        rw [if_neg (by rw [hlen]; omega)]
        obtain ⟨ps, hp⟩ := plS_pack (by omega) hn (by omega) l.length 0 ((packK l l.length).length + 1) [] (by omega) (by omega) (by omega)
        exact ⟨ps, hp⟩
/-- what is read at a place is what stands there -/
theorem chunkS_some {b nm dt : By} {at_ nx : Nat} (h : chunkS b at_ = some ((nm, dt), nx)) (hat : at_ ≤ b.length) : nameB nm = true ∧ nx ≤ b.length ∧ at_ + 8 ≤ nx ∧ b.take nx = b.take at_ ++ pack1 (nm, dt) := by
  unfold chunkS at h
  split at h
  · cases h
  · rename_i h1
    split at h
    · cases h
    · rename_i h2
      injection h with h
      injection h with h h3
      injection h with h4 h5
      have g1 : 8 ≤ b.length - at_ := by
        rcases Nat.lt_or_ge (b.length - at_) 8 with g | g
        · exact absurd (.inl g) h1
        · exact g
      have g2 : nameB nm = true := by
        rw [← h4]
        cases hh : nameB (cutB b at_ (at_ + 4)) with
        | true => rfl
        | false => exact absurd (.inr hh) h1
      have g3 : nx ≤ b.length := by
        rw [← h3]
        rcases Nat.lt_or_ge b.length (nextN at_ (lenN b at_)) with g | g
        · exact absurd (.inl g) h2
        · exact g
      obtain ⟨m, hm⟩ : ∃ m, lenN b at_ = m := ⟨_, rfl⟩
      have hpad : m % 2 = 1 → byOf b (at_ + 8 + m) = 0 := by
        intro ho
        have e : nextN at_ (lenN b at_) - 1 = at_ + 8 + m := by unfold nextN; rw [hm]; omega
        cases Classical.em (byOf b (at_ + 8 + m) = 0) with
        | inl h => exact h
        | inr h => exact absurd (.inr ⟨by rw [hm]; exact ho, by rw [e]; exact h⟩) h2
      have hnx : nx = at_ + (8 + m + m % 2) := by rw [← h3, hm]; unfold nextN; omega
      have hle : leZ (m : Int) 4 = cutB b (at_ + 4) (at_ + 8) := by
        have h6 := leZ_numB (cutB b (at_ + 4) (at_ + 8))
        rw [cutB_length (by omega) (by omega), show at_ + 8 - (at_ + 4) = 4 by omega] at h6
        rw [← hm]; exact h6
      have hdl : dt.length = m := by rw [← h5, hm, cutB_length (by omega) (by omega)]; omega
      refine ⟨g2, g3, by omega, ?_⟩
      have s0 : b.take nx = b.take at_ ++ (b.drop at_).take (8 + m + m % 2) := by rw [hnx, List.take_add]
      have hD : (b.drop at_).length = b.length - at_ := List.length_drop
      have s1 : (b.drop at_).take (8 + m + m % 2) = nm ++ (leZ (m : Int) 4 ++ (dt ++ padB m)) := by
        rw [show 8 + m + m % 2 = 4 + (4 + (m + m % 2)) by omega, List.take_add, List.take_add (i := 4), List.take_add (i := m)]
        have t1 : (b.drop at_).take 4 = nm := by
          rw [← h4]; have := cutB_add b at_ 0 4; rw [Nat.add_zero] at this; rw [this, List.drop_zero]
        have t2 : ((b.drop at_).drop 4).take 4 = leZ (m : Int) 4 := by
          rw [hle]; have := cutB_add b at_ 4 4; rw [show at_ + 4 + 4 = at_ + 8 by omega] at this; rw [this]
        have t3 : (((b.drop at_).drop 4).drop 4).take m = dt := by
          rw [← h5, hm, cutB_add b at_ 8 m, List.drop_drop (i := 4)]
        have t4 : ((((b.drop at_).drop 4).drop 4).drop m).take (m % 2) = padB m := by
          unfold padB
          by_cases ho : m % 2 = 1
          · rw [if_pos ho, ho]
            simp only [List.drop_drop]
            have hlt : at_ + (4 + (4 + m)) < b.length := by omega
            rw [List.drop_eq_getElem_cons (by omega)]
            have hz := hpad ho
            simp only [byOf, List.getD, show at_ + 8 + m = at_ + (4 + (4 + m)) by omega, List.getElem?_eq_getElem hlt, Option.getD_some] at hz
            simp only [List.take_succ_cons, List.take_zero]
            congr 1
            rw [← hz]
            congr 1
            omega
          · rw [if_neg ho, show m % 2 = 0 by omega]; rfl
        rw [t1, t2, t3, t4]
      rw [s0, s1]
      unfold pack1
      dsimp only
      rw [hdl]
      simp only [List.append_assoc]
theorem namesB_all (l : List Ck) : namesB l l.length = l.all fun c => nameB c.1 := by unfold namesB; rw [List.take_length]
theorem packK_all (l : List Ck) : packK l l.length = l.flatMap pack1 := by unfold packK; rw [List.take_length]
theorem plS_back {b : By} {m : List Ck} {ps' : List Int} {z : Nat} : ∀ (f : Nat) (acc : List Ck) (ps : List Int) (at_ : Nat), at_ ≤ b.length → b.length - at_ < f → namesB acc acc.length = true → packK acc acc.length = b.take at_ → acc.length ≤ 1000 →
    plS b f acc ps at_ = ((m, ps'), z, 0) → namesB m m.length = true ∧ packK m m.length = b ∧ m.length ≤ 1000
  | 0, _, _, _, _, h, _, _, _, _ => by omega
  | f + 1, acc, ps, at_, hat, hf, hn, hp, hl, h => by
    unfold plS at h
    split at h
    · rename_i hlt
      split at h
      · cases h
      · rename_i h1
        split at h
        · cases h
        · rename_i c nx hc
          obtain ⟨nm, dt⟩ := c
          obtain ⟨g1, g2, g3, g4⟩ := chunkS_some hc hat
          refine plS_back f _ _ nx g2 (by omega) ?_ ?_ (by rw [List.length_append]; simp; omega) h
          · rw [namesB_all, List.all_append, ← namesB_all, hn]; simp [g1]
          · rw [packK_all, List.flatMap_append, ← packK_all, hp, g4]; simp
    · rename_i hlt
      injection h with h _
      injection h with h _
      subst h
      exact ⟨hn, by rw [hp, List.take_of_length_le (by omega)], hl⟩
theorem placed_back {b : By} {m : List Ck} {ps : List Int} {z : Nat} (h : placedS b = ((m, ps), z, 0)) : packS m = (b, 0) ∧ b.length ≤ 8000000 ∧ m.length ≤ 1000 ∧ ∀ c ∈ m, c.2.length ≤ 8000000 := by
  unfold placedS at h
  split at h
  · cases h
  · rename_i hb
    obtain ⟨h1, h2, h3⟩ := plS_back (b.length + 1) [] [] 0 (Nat.zero_le _) (by omega) rfl (by simp [packK]) (by simp) h
    have hlen := packK_length h1 (Nat.le_refl m.length)
    rw [h2] at hlen
    refine ⟨?_, by omega, h3, fun c hc => ?_⟩
    · unfold packS
      rw [if_neg (by omega), if_neg (by rw [h1]; simp), if_neg (by omega), h2]
    · obtain ⟨k, hk, rfl⟩ := List.getElem_of_mem hc
      have hs := sizeK_succ (l := m) hk
      have hm : sizeK m (k + 1) ≤ sizeK m m.length := sizeK_mono
      have e : ckOf m k = m[k] := by simp [ckOf, List.getD, List.getElem?_eq_getElem hk]
      rw [e] at hs
      unfold roomN at hs
      omega
theorem plS_err {b : By} : ∀ (f : Nat) (acc : List Ck) (ps : List Int) (at_ : Nat), (plS b f acc ps at_).2.2 ≠ 0 → (plS b f acc ps at_).1 = ([], [])
  | 0, _, _, _, h => absurd rfl h
  | f + 1, acc, ps, at_, h => by
    unfold plS at h ⊢
    split at h
    · rename_i h1
      rw [if_pos h1]
      split at h
      · rename_i h2; rw [if_pos h2]
      · rename_i h2
        rw [if_neg h2]
        split at h
        · rfl
        · exact plS_err f _ _ _ h
    · exact absurd rfl h
theorem placed_err {b : By} (h : (placedS b).2.2 ≠ 0) : (placedS b).1.1 = [] := by
  unfold placedS at h ⊢
  split at h
  · rename_i h1; rw [if_pos h1]
  · rename_i h1; rw [if_neg h1, plS_err _ _ _ _ h]
end Go.Proofs.YtlnjildkdmeflaaDoor
