/- Reversed on the sound's side. -/
import Derived.Test.YtpnbkkpbgpcgiaaRev1
import Derived.Test.YtpnbkkpbgpcgiaaFill
import Derived.Test.YtpnbkkpbgpcgiaaEnds2
set_option linter.unusedSimpArgs false
set_option linter.unusedVariables false
namespace Go.Proofs.Ytpnbkkpbgpcgiaa
open Go.RowKit Go.Dw
attribute [local go_sem ↓] Go.wp_at_zero Go.wp_at_succ

theorem REV1_any (x : Int) (w : World) : Calls Try.prog 73 #[.int .i64 x] w fun e w' => e = .returned (.int .i64 x) ∧ w = w' := by
  go_enter Try.func73, Try.ntmps73
  go_wp2
  go_ret
  exact ⟨rfl, rfl⟩
theorem FillI.rewrite {N : Nat} {W : World} {g : Nat} {o0 : Value} {gv n cV : Nat} {rows : List Value} {wr w' : World} {yss : List (List Int)} {k b m cap : Nat} {xs : List Int} (h : FillI N W g o0 gv n cV rows wr yss) (hN : N ≤ wr.heap.size)
    (hr : rows[k]? = some (.slice (some ⟨b, 0, none⟩) m cap)) (hg : wr.grownBy w' (some b)) (hm : xs.length = m) (hn : w'.ownsRow N 3 1 (.slice (some ⟨b, 0, none⟩) m cap) m (xs.map (Value.int .i64))) : FillI N W g o0 gv n cV rows w' (yss.set k xs) := by
  subst hm
  have hin := h.own.inner k _ hr
  have hb : N ≤ b := (own_lt hin rfl).1
  have hne : b ≠ g := fun e => own_ne_blk hin h.box (by decide) (by rw [e]; rfl)
  exact ⟨h.below.trans (grown_below hg hN (fun j e => by injection e with e; omega)), (hg.block g (blk_lt h.box) (fun e => by injection e with e; omega)).trans h.box, OwnRowsL.rewrite h.own hr rfl hg hn, h.ge⟩
set_option maxHeartbeats 800000 in
theorem REVERSED_chk (r : Int) (A : Option Addr) (n c : Nat) (xss : List (List Int)) (hc : chkS r xss ≠ 0) (w : World) (B : Nat) (hB : B ≤ w.heap.size) (hh : Hid (RowsAt w B A n xss)) :
    Calls Try.prog 35 #[.agg #[.int .i64 r, .slice A n c]] w (OutS w 0 [] (chkS r xss)) := by
  have hq : (chkS r xss != 0) = true := by simpa using hc
  clear hc
  go_enter Try.func35, Try.ntmps35
  go_wp2_with fail
  refine calls_later (w.heap.size + 2) ?_
  intro W hW hsW
  obtain ⟨hcW, hfW⟩ := bcell hW
  simp only [World.size_alloc] at hsW
  have hbW : Below w.heap.size w W := (((Below.refl _ w).alloc (Nat.le_refl _) _).alloc (by simp) _).trans (hW.mono (by omega))
  go_wp2_with (go_at_call 37; refine (CHECK_any r A n c xss _ B (by omega) (hh.out.below hbW hB)).mono ?_; rintro e w1 ⟨rfl, hb1⟩; have hz1 := pcell (hb1.mono hsW); have hz2 := fun b o => (bcell (hb1.mono hsW)).2 b o)
  refine end_snd2 (o0 := .int .i64 0) (o1 := .slice none 0 0) rfl rfl rfl ?_ ?_ ?_
  · rw [hz1 _ (by simp), hcW _ _ (by simp)]; simp [go_sem]
  · rw [hz1 _ (by simp), hcW _ _ (by simp)]; simp [go_sem]
  · exact OutS.err rfl (set2_below (hbW.trans (hb1.mono (by omega))) (by omega))

theorem fst_id (xss : List (List Int)) : xss.map (List.map fun x : Int => x) = xss := by simp
/-- what each leaves where the function value only computes -/
theorem EACH_id (fid : FuncId) (r : Int) (ad : Addr) (n c : Nat) (xss : List (List Int)) (hok : Hid (OkS r xss)) (w : World) (B : Nat) (hB : B ≤ w.heap.size) (hh : Hid (RowsAt w B (some ad) n xss))
    (hcf : ∀ (args : Array Value) (W : World), (callFunc fid args).run Try.prog W = .ok (.enter fid args) W)
    (hf : ∀ x w1, Calls Try.prog fid #[.int .i64 x] w1 fun e w2 => e = .returned (.int .i64 x) ∧ w1 = w2) :
    Calls Try.prog 69 #[.agg #[.int .i64 r, .slice (some ad) n c], .func (.func fid) #[] #[]] w (OutS1 w r xss) := by
  refine (EACH_any (σ := Unit) (fun _ _ => True) (fun x => x) (fun _ _ => ()) () fid #[] none r ad n c xss hok w B hB hh (fun k e => by cases e) trivial (fun _ _ _ _ _ => trivial) hcf (fun x s w1 _ _ => (hf x w1).mono fun e w2 ⟨h1, h2⟩ => ⟨h1, trivial, by subst h2; exact World.grownBy.refl _ _⟩)).mono ?_
  rintro e w' ⟨⟨v, he, ho⟩, _, hg⟩
  rw [fst_id] at ho
  exact ⟨v, he, ho, grown_below hg (Nat.le_refl _) (fun k e => by cases e)⟩

set_option maxHeartbeats 2000000 in
theorem REVERSED_ok (r : Int) (ad : Addr) (n c : Nat) (xss : List (List Int)) (hok : Hid (OkS r xss)) (hc : Hid (chkS r xss = 0)) (w : World) (B : Nat) (hB : B ≤ w.heap.size) (hh : Hid (RowsAt w B (some ad) n xss)) :
    Calls Try.prog 35 #[.agg #[.int .i64 r, .slice (some ad) n c]] w (OutS w r (xss.map List.reverse) 0) := by
  have hl := Lib.hid hh.out.1
  have hn16 : n ≤ 16 := by have := hok.out.few; have := hl.out; omega
  have hn0 : 0 < n := by have := hok.out.some; have := hl.out; omega
  have hm := hok.out.long
  have hq : (chkS r xss != 0) = false := by rw [hc.out]; rfl
  go_enter Try.func35, Try.ntmps35
  go_wp2_with fail
  refine calls_later (w.heap.size + 2) ?_
  intro W hW hsW
  obtain ⟨hcW, hfW⟩ := bcell hW
  simp only [World.size_alloc] at hsW
  have hbW : Below w.heap.size w W := (((Below.refl _ w).alloc (Nat.le_refl _) _).alloc (by simp) _).trans (hW.mono (by omega))
  refine (CHECK_any r (some ad) n c xss _ B (by omega) (hh.out.below hbW hB)).mono ?_
  rintro e w1 ⟨rfl, hb1⟩
  have hz1 := pcell (hb1.mono hsW)
  have hs1 := hb1.size
  go_wp2_with fail
  refine (EACH_id 73 r ad n c xss hok _ B (by omega) ((hh.out.below hbW hB).below hb1 (by omega)) (fun _ _ => rfl) REV1_any).mono ?_
  rintro e w2 ⟨v2, rfl, ho2, hb2⟩
  obtain ⟨A2, c2, rfl, _, _⟩ := ho2.form
  have hbS : Below (w.heap.size + 2) W w2 := (hb1.mono hsW).trans (hb2.mono (by omega))
  have hs2 := hb2.size
  have ho2' := ho2.base (show w.heap.size + 2 ≤ w1.heap.size by omega)
  obtain ⟨rows, hL⟩ := ho2'
  rw [hl.out] at hL ⊢
  obtain ⟨gv, hgv⟩ : ∃ gv, A2 = some ⟨gv, 0, none⟩ := by
    have h1 := hL.outer
    rw [hl.out] at h1
    obtain ⟨gv, cap, e, _⟩ := own_slot h1 hn0
    exact ⟨gv, by injection e⟩
  subst hgv
  have HF0 : Hid (FillI (w.heap.size + 2) W w2.heap.size (.int .i64 r) gv n c2 rows (w2.alloc (.cells #[.int .i64 r, .slice (some ⟨gv, 0, none⟩) n c2] 24)) xss) :=
    ⟨hbS.alloc (by omega) _, heap_alloc_new _ _, hL.alloc _, by omega⟩
  have hlt1 : w.heap.size + 1 < w2.heap.size := by omega
  have hcn : n ≤ c2 ∧ c2 ≤ maxLen := by
    obtain ⟨A, c, e, h1, h2⟩ := own_form hL.outer
    injection e with _ _ e3; subst e3; exact ⟨by rw [hl.out] at h1; exact h1, h2⟩
  obtain ⟨hcn1, hcn2⟩ := hcn
  clear hL ho2 hb2 hbS hz1
  go_wp2_with fail
  obtain ⟨g, hg⟩ : ∃ g, w2.heap.size = g := ⟨_, rfl⟩
  have hgge : w.heap.size + 2 ≤ g := by omega
  rw [hg] at HF0 hlt1 ⊢
  have Hg := Lib.hid hg
  clear hg
  go_loopw [19] (fun i wr => ∃ k : Nat, k ≤ n ∧ i = .int .i64 k ∧ Hid (FillI (w.heap.size + 2) W g (.int .i64 r) gv n c2 rows wr (revRows xss k))) (fun i _ => n - (intOf i).toNat)
  case atStart => exact ⟨0, Nat.zero_le _, rfl, by rw [revRows_start]; exact HF0.out⟩
  case round =>
    obtain ⟨k, hk, rfl, hF⟩ := hrel
    have hlR : Hid ((revRows xss k).length = n) := revRows_length.trans hl.out
    by_cases hlt : k < n
    · have hkx : Hid (k < xss.length) := by show _ < _; have := hl.out; omega
      obtain ⟨q, hr1, hr2⟩ := hF.out.own.row (k := k) (by rw [hlR.out]; exact hlt)
      rw [revRows_row hkx.out, (hok.out.row hkx.out).1] at hr2
      have ho := hF.out.own.outer
      rw [hlR.out] at ho
      have hcv := (ho.cellAt k (by omega)).trans hr1
      have hN : Hid (w.heap.size + 2 ≤ wr.heap.size) := Nat.le_trans hsW hF.out.below.size
      have HR := Lib.hid hr1
      have hk0 : (0 : Int) ≤ (k : Int) := by omega
      have hkn : (k : Int) < (n : Int) := by omega
      clear ho
      by_cases h0 : len0 xss = 0
      · obtain ⟨A9, c9, rfl, _, _⟩ := own_form hr2
        have hrow : rowOf xss k = [] := List.eq_nil_of_length_eq_zero ((hok.out.row hkx.out).1.trans h0)
        have HS : Hid (revRows xss (k + 1) = revRows xss k) := by
          show _ = _
          rw [← revRows_step hkx.out, hrow]
          refine ext_rows (by simp) fun a ha => ?_
          rw [rowOf_set _ _ _ _ (by rw [revRows_length]; exact hkx.out)]
          split
          · rename_i e; subst e; rw [revRows_row hkx.out, hrow]; rfl
          · rfl
        rw [h0] at hcv
        clear hr1 hr2 h0 hrow
        go_wp2_with fail
        refine (SLREV_nil A9 c9 _).mono ?_
        rintro e w5 ⟨rfl, rfl⟩
        go_wp2_with fail
        go_roundw
        case rel => exact ⟨k + 1, by omega, by go_num, by rw [HS.out]; exact hF⟩
        case measure => simp [intOf]; omega
      · obtain ⟨b, cap, rfl, _, _, hcap1, hcap2, _⟩ := own_slot hr2 (by omega)
        have HR2 := Lib.hid hr2
        clear hr1 hr2
        go_wp2_with fail
        refine (SLREV_any (w.heap.size + 2) b (len0 xss) cap (rowOf xss k) (by omega) (by omega) _ HR2).mono ?_
        rintro e w5 ⟨rfl, ho5, hg5⟩
        have hF5 := FillI.rewrite hF.out hN.out HR.out hg5 (by rw [List.length_reverse]; exact (hok.out.row hkx.out).1) ho5
        rw [revRows_step hkx.out] at hF5
        have HF5 := Lib.hid hF5
        clear hF5 ho5 hg5 hcv
        go_wp2_with fail
        go_roundw
        case rel => exact ⟨k + 1, by omega, by go_num, HF5⟩
        case measure => simp [intOf]; omega
    · obtain rfl : k = n := by omega
      have hcg0 := own_cell1 hF.out.box 0
      have hcg1 := own_cell1 hF.out.box 1
      simp at hcg0 hcg1
      have hz := pcell hF.out.below
      have hcr0 : wr.cell? ⟨w.heap.size + 1, 0, none⟩ = some (.int .i64 0) := by rw [hz _ (by simp), hcW _ _ (by simp)]; simp [go_sem]
      have hcr1 : wr.cell? ⟨w.heap.size + 1, 1, none⟩ = some (.slice none 0 0) := by rw [hz _ (by simp), hcW _ _ (by simp)]; simp [go_sem]
      have hfr := fun b o h => ((bcell hF.out.below).2 b o h)
      clear hz
      go_wp2_with fail
      refine end_snd2 rfl rfl rfl hcr0 hcr1 ?_
      have hI9 := hF.out.own
      have he : revRows xss k = xss.map List.reverse := by rw [← hl.out]; exact revRows_end
      rw [he] at hI9
      exact ⟨_, rfl, ⟨rows, ((hI9.set_below (p := ⟨w.heap.size + 1, 0, none⟩) (by simp) _).set_below (p := ⟨w.heap.size + 1, 1, none⟩) (by simp) _).base (show w.heap.size ≤ w.heap.size + 2 by omega)⟩, set2_below (hbW.trans (hF.out.below.mono (by omega))) (by omega)⟩
end Go.Proofs.Ytpnbkkpbgpcgiaa
