/- placed and Chunks, the sound's. -/
import Derived.Test.YtlnjildkdmeflaaDoorChunk2
import Derived.Test.YtlnjildkdmeflaaDoorCks
import Derived.RegionTactic
import Derived.BigRegion
import Derived.Deep.Cut
set_option linter.unusedSimpArgs false
set_option linter.unusedVariables false
namespace Go.Proofs.YtlnjildkdmeflaaDoor
open Go.RowKit Go.Dw
/-- what placed returns -/
def OutP (w : World) (Z : (List Ck × List Int) × Nat × Int) (e : Ending) (w' : World) : Prop :=
  ∃ v u, e = .returned (.tuple #[v, u, .int .i64 (Z.2.1 : Nat), .int .i64 Z.2.2]) ∧ OwnCks w' w.heap.size v Z.1.1 ∧ w'.ownsRow w.heap.size 3 1 u Z.1.2.length (Z.1.2.map (Value.int .i64)) ∧ Below w.heap.size w w'
theorem plS_end {b : By} {f : Nat} {acc : List Ck} {ps : List Int} {at_ : Nat} (hf : 0 < f) (h : ¬ at_ < b.length) : plS b f acc ps at_ = ((acc, ps), 0, 0) := by
  cases f with
  | zero => omega
  | succ f => unfold plS; rw [if_neg h]
theorem plS_many {b : By} {f : Nat} {acc : List Ck} {ps : List Int} {at_ : Nat} (hf : 0 < f) (h : at_ < b.length) (h1 : acc.length = 1000) : plS b f acc ps at_ = (([], []), 0, 2) := by
  cases f with
  | zero => omega
  | succ f => unfold plS; rw [if_pos h, if_pos h1]
theorem plS_bad {b : By} {f : Nat} {acc : List Ck} {ps : List Int} {at_ : Nat} (hf : 0 < f) (h : at_ < b.length) (h1 : acc.length ≠ 1000) (h2 : chunkS b at_ = none) : plS b f acc ps at_ = (([], []), at_, 10) := by
  cases f with
  | zero => omega
  | succ f => unfold plS; rw [if_pos h, if_neg h1, h2]
theorem plS_next {b : By} {f : Nat} {acc : List Ck} {ps : List Int} {at_ nx : Nat} {c : Ck} (h : at_ < b.length) (h1 : acc.length ≠ 1000) (h2 : chunkS b at_ = some (c, nx)) : plS b (f + 1) acc ps at_ = plS b f (acc ++ [c]) (ps ++ [(at_ : Int)]) nx := by
  show (if at_ < b.length then _ else _) = _
  rw [if_pos h, if_neg h1, h2]
structure PlR (w wr : World) (b : By) (n : Nat) (at_ : Nat) (A6 : Option Addr) (n6 c6 : Nat) (A7 : Option Addr) (n7 c7 : Nat) (f : Nat) (acc : List Ck) (ps : List Int) (rows : List Value) : Prop where
  le : at_ ≤ n
  fuel : n - at_ < f
  eq : plS b (b.length + 1) [] [] 0 = plS b f acc ps at_
  out : OwnCksL wr w.heap.size (.slice A6 n6 c6) acc rows
  pl : wr.ownsRow w.heap.size 3 1 (.slice A7 n7 c7) n7 (ps.map (Value.int .i64))
  below : Below w.heap.size w wr
  few : n6 ≤ 1000
  len : ps.length = n7 ∧ n7 = n6
theorem own_len_ck {w : World} {base : Nat} {A : Option Addr} {n c : Nat} {l : List Ck} {rows : List Value} (h : OwnCksL w base (.slice A n c) l rows) : n = l.length := by
  obtain ⟨A', c', e, _, _⟩ := own_form h.outer
  injection e
set_option maxRecDepth 100000 in
set_option maxHeartbeats 4000000 in
theorem PLACED_ok (A : Option Addr) (n c : Nat) (b : By) (hn : n ≤ 8000000) (hc9 : n ≤ c ∧ c ≤ maxLen) (w : World) (B : Nat) (hB : B ≤ w.heap.size) (hh : Hid (BysAt w B A n b)) :
    Calls Tryd.prog 25 #[.slice A n c] w (OutP w (plS b (b.length + 1) [] [] 0)) := by
  have hl := Lib.hid hh.out.1
  have d1 : decide ((8000000 : Int) < (n : Int)) = false := by simp; omega
  have HC9 := Lib.hid hc9
  clear hc9
  go_enter Tryd.func25, Tryd.ntmps25
  go_wp2_with fail
  go_loopw [6, 7, 8] (fun v u i wr => ∃ (at_ : Nat) (A6 : Option Addr) (n6 c6 : Nat) (A7 : Option Addr) (n7 c7 f : Nat) (acc : List Ck) (ps : List Int) (rows : List Value), i = .int .i64 at_ ∧ v = .slice A6 n6 c6 ∧ u = .slice A7 n7 c7 ∧ Hid (PlR w wr b n at_ A6 n6 c6 A7 n7 c7 f acc ps rows)) (fun _ _ i _ => n - (intOf i).toNat)
  case atStart => exact ⟨0, none, 0, 0, none, 0, 0, n + 1, [], [], [], rfl, rfl, rfl, Lib.hid ⟨Nat.zero_le _, by omega, by rw [hl.out], OwnCksL.nil _ _, World.ownsRow_nil _ _ _ _, Below.refl _ _, by omega, rfl, rfl⟩⟩
  case round =>
    obtain ⟨at_, A6, n6, c6, A7, n7, c7, f, acc, ps, rows, rfl, rfl, rfl, hR⟩ := hrel
    have hle := hR.out.le
    have hfw := hR.out.few
    have hsw := hR.out.below.size
    by_cases hlt : at_ < n
    · by_cases hfull : n6 = 1000
      · have hE : Hid (plS b (b.length + 1) [] [] 0 = (([], []), 0, 2)) := by
          show _ = _
          rw [hR.out.eq, plS_many (by have := hR.out.fuel; omega) (by rw [hl.out]; exact hlt) (by rw [← own_len_ck hR.out.out]; exact hfull)]
        have dI : (at_ : Int) < (n : Int) := by omega
        have HB := Lib.hid hR.out.below
        clear hR hle hfw hlt
        subst hfull
        go_wp2_with fail
        refine bodyPost_ret (v := .tuple #[.slice none 0 0, .slice none 0 0, .int .i64 0, .int .i64 2]) (by simp [results, Tryd.results25, go_sem]) rfl ?_
        unfold OutP
        rw [hE.out]
        exact ⟨_, _, rfl, OwnCks.nil _ _, World.ownsRow_nil _ _ _ _, HB.out⟩
      · have d2 : ((n6 : Int) == 1000) = false := by simp; omega
        have dI : (at_ : Int) < (n : Int) := by omega
        have HF := Lib.hid hfull
        have HLT := Lib.hid hlt
        clear hfull hlt
        go_wp2_with fail
        refine (CHUNKAT_any A n c at_ b hn hle HC9.out _ B (Nat.le_trans hB hsw) (hh.out.below (hR.out.below.mono hB) (Nat.le_refl _))).mono ?_
        rintro e w1 ⟨hb1, h1⟩
        have HB1 := Lib.hid hb1
        clear hb1
        rcases h1 with ⟨hno, rfl⟩ | ⟨nm, dt, nx, v1, hyes, rfl, ho1, hx1, hx2⟩
        · have hE : Hid (plS b (b.length + 1) [] [] 0 = (([], []), at_, 10)) := by
            show _ = _
            rw [hR.out.eq, plS_bad (by have := hR.out.fuel; omega) (by rw [hl.out]; exact HLT.out) (by rw [← own_len_ck hR.out.out]; exact HF.out) hno]
          have HB := Lib.hid (hR.out.below.trans (HB1.out.mono hsw))
          clear hR hno
          go_wp2_with fail
          refine bodyPost_ret (v := .tuple #[.slice none 0 0, .slice none 0 0, .int .i64 at_, .int .i64 10]) (by simp [results, Tryd.results25, go_sem]) rfl ?_
          unfold OutP
          rw [hE.out]
          exact ⟨_, _, rfl, OwnCks.nil _ _, World.ownsRow_nil _ _ _ _, HB.out.alloc (Nat.le_trans hsw HB1.out.size) _⟩
        · obtain ⟨A5, c5, rfl, hc5a, hc5b⟩ := ho1.form
          have HO1 := Lib.hid ho1
          have HYES := Lib.hid hyes
          obtain ⟨m, hm⟩ : ∃ m, dt.length = m := ⟨_, rfl⟩
          have HM := Lib.hid hm
          rw [hm] at HO1 ⊢
          obtain ⟨s, hs⟩ : ∃ s, ByteArray.mk nm.toArray = s := ⟨_, rfl⟩
          have HS := Lib.hid hs
          unfold strOf
          rw [hs]
          clear hs hm ho1 hyes hc5a hc5b
          go_upto_region 12 with (fail)
          obtain ⟨X, hX⟩ : ∃ X, X = w1.alloc (.cells #[.string s, .slice A5 m c5] 42) := ⟨_, rfl⟩
          rw [← hX]
          have hX0 : X.cell? ⟨w1.heap.size, 0, none⟩ = some (.string s) := by rw [hX]; simp [go_sem]
          have hX1 : X.cell? ⟨w1.heap.size, 1, none⟩ = some (.slice A5 m c5) := by rw [hX]; simp [go_sem]
          have hs1 := HB1.out.size
          have hXb : Below wr.heap.size wr X := by rw [hX]; exact HB1.out.alloc hs1 _
          have hXs : w.heap.size ≤ X.heap.size := Nat.le_trans hsw hXb.size
          have HXB := Lib.hid hXb
          have HOX : Hid (OwnBys X wr.heap.size (.slice A5 m c5) dt) := by rw [hX]; exact World.ownsRow.alloc HO1.out _
          have hn6 := own_len_ck hR.out.out
          have HCX := Lib.hid (hR.out.out.below hXb)
          have HPX := Lib.hid (own_below hR.out.pl hXb)
          have hownX : X.ownsRow w.heap.size 42 2 (.slice A6 n6 c6) n6 (cksC acc rows) := by have h := HCX.out.outer; rw [← hn6] at h; exact h
          have HOWNX := Lib.hid hownX
          have HN6 := Lib.hid hn6
          have h7 : n7 ≤ 1000000000 := by have := hR.out.len.2; omega
          obtain ⟨gx, hgx⟩ : ∃ gx, gx = w1.heap.size := ⟨_, rfl⟩
          rw [← hgx] at hX0 hX1 ⊢
          clear hX hgx hXb hn6 hownX hs1
          have hoc1 : Hid ((Value.string s).oneCell' = true) := rfl
          have hoc2 : Hid ((Value.slice A5 m c5).oneCell' = true) := rfl
          have ARM1 : Hid (∀ (g8 cap8 : Nat) (w8 : World), w8.ownsRow w.heap.size 42 2 (.slice (some ⟨g8, 0, none⟩) (n6 + 1) cap8) (n6 + 1) (cksC acc rows ++ [.string s, .slice A5 m c5]) → (X.alloc (.cells #[.string s, .slice A5 m c5] 42)).grownBy w8 (Value.slice A6 n6 c6).ownBlock →
              OwnCksL w8 w.heap.size (.slice (some ⟨g8, 0, none⟩) (n6 + 1) cap8) (acc ++ [(nm, dt)]) (rows ++ [.slice A5 m c5]) ∧ w8.ownsRow w.heap.size 3 1 (.slice A7 n7 c7) n7 (ps.map (Value.int .i64)) ∧ Below w.heap.size w w8) := fun g8 cap8 w8 ho8 hg8 => by
            refine ⟨?_, ?_, ?_⟩
            · exact hR.out.out.push (w := X.alloc (.cells #[.string s, .slice A5 m c5] 42)) (HXB.out.alloc HXB.out.size _) hsw (World.ownsRow.alloc HOX.out _) (by rw [← HN6.out]; unfold ckV strOf; rw [HS.out]; exact ho8) hg8
            · exact (World.ownsRow.alloc HPX.out _).kept hg8 (own_ne HPX.out HOWNX.out (by decide))
            · exact ((hR.out.below.trans (HXB.out.mono hsw)).alloc hXs _).grown hg8 (by simp; omega) (fun k hk => (own_lt HOWNX.out hk).1)
          have ARM2 : Hid (∀ (g9 cap9 : Nat) (w8 w9 : World) (u : Int) (V8 : Value), OwnCksL w8 w.heap.size V8 (acc ++ [(nm, dt)]) (rows ++ [.slice A5 m c5]) ∧ w8.ownsRow w.heap.size 3 1 (.slice A7 n7 c7) n7 (ps.map (Value.int .i64)) ∧ Below w.heap.size w w8 → (w8.alloc (.cells #[.int .i64 u] 3)).grownBy w9 (Value.slice A7 n7 c7).ownBlock →
              OwnCksL w9 w.heap.size V8 (acc ++ [(nm, dt)]) (rows ++ [.slice A5 m c5]) ∧ Below w.heap.size w w9) := fun g9 cap9 w8 w9 u V8 ⟨h1, h2, h3⟩ hg9 => by
            refine ⟨?_, ?_⟩
            · exact (h1.below ((Below.refl _ w8).alloc (Nat.le_refl _) _)).kept_int (World.ownsRow.alloc h2 _) hg9
            · exact (h3.alloc h3.size _).grown hg9 (by simp; have := h3.size; omega) (fun k hk => (own_lt h2 hk).1)
          go_wp2_with (first | (with_reducible refine wpList_push_ck rfl (.tmp 32) (.tmp 34) rfl w.heap.size A6 n6 c6 (cksC acc rows) (.string s) (.slice A5 m c5) hoc1.out hoc2.out X.heap.size rfl rfl rfl HOWNX.out hfw hXs ?_; intro g8 cap8 w8 ho8 hg8; have H8 := Lib.hid (ARM1.out g8 cap8 w8 ho8 hg8); have h8s : w.heap.size ≤ w8.heap.size := H8.out.2.2.size; clear ho8 hg8 hX0 hX1) | (with_reducible refine wpList_push_int2 rfl (.tmp 36) (.tmp 38) rfl w.heap.size A7 n7 c7 (ps.map (Value.int .i64)) (at_ : Int) w8.heap.size rfl rfl rfl H8.out.2.1 h7 h8s ?_; intro g9 cap9 w9 ho9 hg9; have H9 := Lib.hid (ARM2.out g9 cap9 w8 w9 at_ _ H8.out hg9); have HP9 := Lib.hid ho9; clear ho9 hg9))
          clear ARM1 ARM2
          have HN : Hid (plS b (b.length + 1) [] [] 0 = plS b (f - 1) (acc ++ [(nm, dt)]) (ps ++ [(at_ : Int)]) nx) := by
            show _ = _
            rw [hR.out.eq, ← plS_next (by rw [hl.out]; exact HLT.out) (by rw [← HN6.out]; exact HF.out) HYES.out]
            rw [show f - 1 + 1 = f by have := hR.out.fuel; omega]
          have hn7 := hR.out.len
          have hf := hR.out.fuel
          rw [hl.out] at hx2
          have h61 : n6 + 1 ≤ 1000 := by have := HF.out; omega
          go_roundw
          case rel => exact ⟨nx, _, _, _, _, _, _, f - 1, acc ++ [(nm, dt)], ps ++ [(at_ : Int)], rows ++ [.slice A5 m c5], rfl, rfl, rfl, Lib.hid ⟨hx2, by omega, HN.out, H9.out.1, by have h := HP9.out; rw [List.map_append]; exact h, H9.out.2, h61, by rw [List.length_append, hn7.1]; exact ⟨rfl, by omega⟩⟩⟩
          case measure => simp [intOf]; omega
    · obtain rfl : at_ = n := by omega
      have hE : Hid (plS b (b.length + 1) [] [] 0 = ((acc, ps), 0, 0)) := by
        show _ = _
        rw [hR.out.eq, plS_end (by have := hR.out.fuel; omega) (by rw [hl.out]; exact hlt)]
      go_wp2_with fail
      refine bodyPost_ret (v := .tuple #[.slice A6 n6 c6, .slice A7 n7 c7, .int .i64 0, .int .i64 0]) (by simp [results, Tryd.results25, go_sem]) rfl ?_
      unfold OutP
      rw [hE.out]
      refine ⟨_, _, rfl, ⟨rows, hR.out.out⟩, ?_, hR.out.below⟩
      have h := hR.out.pl
      rw [← hR.out.len.1] at h ⊢
      exact h
theorem PLACED_any (A : Option Addr) (n c : Nat) (b : By) (hc9 : n ≤ c ∧ c ≤ maxLen) (w : World) (B : Nat) (hB : B ≤ w.heap.size) (hh : Hid (BysAt w B A n b)) :
    Calls Tryd.prog 25 #[.slice A n c] w (OutP w (placedS b)) := by
  have hl := hh.out.1
  by_cases hn : n ≤ 8000000
  · have hp : placedS b = plS b (b.length + 1) [] [] 0 := by unfold placedS; rw [if_neg (by omega)]
    rw [hp]
    exact PLACED_ok A n c b hn hc9 w B hB hh
  · have hp : placedS b = (([], []), 0, 2) := by unfold placedS; rw [if_pos (by omega)]
    rw [hp]
    have d1 : decide ((8000000 : Int) < (n : Int)) = true := by simp; omega
    clear hn hl hp hc9 hh
    go_enter Tryd.func25, Tryd.ntmps25
    go_wp2_with fail
    refine bodyPost_ret (v := .tuple #[.slice none 0 0, .slice none 0 0, .int .i64 0, .int .i64 2]) (by simp [results, Tryd.results25, go_sem]) rfl ?_
    unfold OutP
    exact ⟨_, _, rfl, OwnCks.nil _ _, World.ownsRow_nil _ _ _ _, Below.refl _ _⟩
end Go.Proofs.YtlnjildkdmeflaaDoor
