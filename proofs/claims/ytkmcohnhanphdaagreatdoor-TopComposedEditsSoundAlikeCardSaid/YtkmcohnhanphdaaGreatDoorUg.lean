/- The stable sort of clips: SortStableFunc, edit.ordered. -/
import Derived.Test.YtkmcohnhanphdaaGreatDoorSs3
import Derived.Test.YtkmcohnhanphdaaGreatDoorUf
set_option linter.unusedSimpArgs false
set_option linter.unusedVariables false
namespace Go.Proofs.YtkmcohnhanphdaaGreatDoor
open Go.RowKit Go.Dw
attribute [local go_sem ↓] Go.wp_at_zero Go.wp_at_succ
set_option maxRecDepth 100000 in
set_option maxHeartbeats 8000000 in
theorem STABLEC_any (base g n cap : Nat) (hn : n ≤ 1000000) (cs : List CV) (w : World) (hh : Hid (OwnK 7 58 w base (.slice (some ⟨g, 0, none⟩) n cap) (cvLs cs))) :
    Calls Tryz.prog 106 #[.slice (some ⟨g, 0, none⟩) n cap, .int .i64 (n : Int), .func (.func 49) #[] #[]] w fun e w' => e = .returned (.tuple #[]) ∧ SortC base g n cap cs w w' := by
  have HST : Hid (SortC base g n cap cs w w) := SortC.refl hh.out
  obtain ⟨w0, rfl⟩ : ∃ x : World, x = w := ⟨_, rfl⟩
  obtain ⟨cs0, rfl⟩ : ∃ x : List CV, x = cs := ⟨_, rfl⟩
  clear hh
  go_enter Tryz.func106, Tryz.ntmps106
  go_wp2_with fail
  go_loopg [7, 8] n (fun gh v7 v8 wr => ∃ a b : Nat, v7 = .int .i64 a ∧ v8 = .int .i64 b ∧ a ≤ n ∧ b ≤ a + 20 ∧ a + 20 ≤ b ∧ n ≤ a + gh ∧ Hid (SortC base g n cap cs0 w0 wr))
  case atStart => exact ⟨0, 20, rfl, rfl, by omega, by omega, by omega, by omega, HST⟩
  case round =>
    obtain ⟨a, b, rfl, rfl, ha1, hb1, hb2, hg9, HS⟩ := hrel
    by_cases hlt : b ≤ n
    · have hltI : (b : Int) ≤ (n : Int) := by omega
      obtain ⟨cs, hp0, ho0, ha0⟩ := HS.out
      have hp := Lib.hid hp0
      have ho := Lib.hid ho0
      have ha := Lib.hid ha0
      clear hp0 ho0 ha0 HS
      go_wp2_with fail
      refine (INSERTC_any base g n cap a b cs (by omega) hlt hn wr ho).mono ?_
      rintro e w1 ⟨rfl, hs1⟩
      have HS1 : Hid (SortC base g n cap cs0 w0 w1) := SortC.trans hp.out ha.out hs1
      clear hs1
      go_wp2_with fail
      go_roundg (n - b)
      case measure => omega
      case rel => exact ⟨b, b + 20, rfl, by go_num, by omega, by omega, by omega, by omega, HS1⟩
    · have hltI : ¬ (b : Int) ≤ (n : Int) := by omega
      obtain ⟨cs, hp0, ho0, ha0⟩ := HS.out
      have hp := Lib.hid hp0
      have ho := Lib.hid ho0
      have ha := Lib.hid ha0
      clear hp0 ho0 ha0 HS
      go_wp2_with fail
      refine (INSERTC_any base g n cap a n cs ha1 (Nat.le_refl _) hn wr ho).mono ?_
      rintro e w1 ⟨rfl, hs1⟩
      have HS1 : Hid (SortC base g n cap cs0 w0 w1) := SortC.trans hp.out ha.out hs1
      clear hs1
      go_wp2_with fail
      go_loopg [6] n (fun gh v6 wr => ∃ s : Nat, v6 = .int .i64 s ∧ 1 ≤ s ∧ s ≤ 4000000 ∧ n ≤ s + gh ∧ Hid (SortC base g n cap cs0 w0 wr))
      case atStart => exact ⟨20, rfl, by omega, by omega, by omega, HS1⟩
      case round =>
        clear HS1 hg9
        obtain ⟨s, rfl, hs1, hs2, hg9, HS⟩ := hrel
        obtain ⟨g1, rfl⟩ : ∃ g1 : Nat, g1 = gk := ⟨_, rfl⟩
        by_cases hsn : s < n
        · have hsI : (s : Int) < (n : Int) := by omega
          go_wp2_with fail
          go_loopg [7, 8] n (fun gh v7 v8 wr => ∃ a b : Nat, v7 = .int .i64 a ∧ v8 = .int .i64 b ∧ a ≤ n ∧ b ≤ a + 2 * s ∧ a + 2 * s ≤ b ∧ n ≤ a + gh ∧ Hid (SortC base g n cap cs0 w0 wr))
          case atStart => exact ⟨0, 2 * s, rfl, by go_num, by omega, by omega, by omega, by omega, HS⟩
          case round =>
            clear HS
            obtain ⟨a, b, rfl, rfl, ha1, hb1, hb2, hgb, HS⟩ := hrel
            by_cases hbn : b ≤ n
            · have hbI : (b : Int) ≤ (n : Int) := by omega
              have e9 : Hid ((a : Int) + (s : Int) = ((a + s : Nat) : Int)) := by show _ = _; omega
              obtain ⟨cs, hp0, ho0, ha0⟩ := HS.out
              have hp := Lib.hid hp0
              have ho := Lib.hid ho0
              have ha := Lib.hid ha0
              clear hp0 ho0 ha0 HS
              go_wp2_with fail
              rw [e9.out]
              refine (SYMMC_any base g n cap hn (b - a) a (a + s) b cs wr (Nat.le_refl _) (by omega) (by omega) hbn ho).mono ?_
              rintro e w1 ⟨rfl, hs1⟩
              have HS1 : Hid (SortC base g n cap cs0 w0 w1) := SortC.trans hp.out ha.out hs1
              clear hs1
              go_wp2_with fail
              go_roundg (n - b)
              case measure => omega
              case rel => exact ⟨b, b + 2 * s, rfl, by go_num, by omega, by omega, by omega, by omega, HS1⟩
            · have hbI : ¬ (b : Int) ≤ (n : Int) := by omega
              by_cases hm : a + s < n
              · have hmI : (a : Int) + (s : Int) < (n : Int) := by omega
                have e9 : Hid ((a : Int) + (s : Int) = ((a + s : Nat) : Int)) := by show _ = _; omega
                obtain ⟨cs, hp0, ho0, ha0⟩ := HS.out
                have hp := Lib.hid hp0
                have ho := Lib.hid ho0
                have ha := Lib.hid ha0
                clear hp0 ho0 ha0 HS
                go_wp2_with fail
                rw [e9.out]
                refine (SYMMC_any base g n cap hn (n - a) a (a + s) n cs wr (Nat.le_refl _) (by omega) hm (Nat.le_refl _) ho).mono ?_
                rintro e w1 ⟨rfl, hs1⟩
                have HS1 : Hid (SortC base g n cap cs0 w0 w1) := SortC.trans hp.out ha.out hs1
                clear hs1
                go_wp2_with fail
                go_roundg (n - 2 * s)
                case measure => omega
                case rel => exact ⟨2 * s, by go_num, by omega, by omega, by omega, HS1⟩
              · have hmI : ¬ (a : Int) + (s : Int) < (n : Int) := by omega
                go_wp2_with fail
                go_roundg (n - 2 * s)
                case measure => omega
                case rel => exact ⟨2 * s, by go_num, by omega, by omega, by omega, HS⟩
        · have hsI : ¬ (s : Int) < (n : Int) := by omega
          go_wp2_with fail
          refine bodyPost_end (v := .tuple #[]) (by simp [results, Tryz.results106, go_sem]) rfl ?_
          exact ⟨rfl, HS.out⟩
set_option maxRecDepth 100000 in
set_option maxHeartbeats 2000000 in
theorem ORDERED_any (base g n cap : Nat) (hn : n ≤ 1000000) (cs : List CV) (w : World) (hh : Hid (OwnK 7 58 w base (.slice (some ⟨g, 0, none⟩) n cap) (cvLs cs))) :
    Calls Tryz.prog 22 #[.slice (some ⟨g, 0, none⟩) n cap] w fun e w' => e = .returned (.slice (some ⟨g, 0, none⟩) n cap) ∧ SortC base g n cap cs w w' := by
  have HC : Calls Tryz.prog 57 #[.slice (some ⟨g, 0, none⟩) n cap, .func (.func 49) #[] #[]] w fun e w' => e = .returned (.tuple #[]) ∧ SortC base g n cap cs w w' := by
    go_enter Tryz.func57, Tryz.ntmps57
    go_wp2_with fail
    refine (STABLEC_any base g n cap hn cs w hh).mono ?_
    rintro e w1 ⟨rfl, hs1⟩
    have HS1 := Lib.hid hs1
    clear hs1
    go_wp2_with fail
    refine bodyPost_end (v := .tuple #[]) (by simp [results, Tryz.results57, go_sem]) rfl ?_
    exact ⟨rfl, HS1.out⟩
  have HC9 := Lib.hid HC
  clear HC
  go_enter Tryz.func22, Tryz.ntmps22
  go_wp2_with fail
  refine (HC9.out).mono ?_
  rintro e w1 ⟨rfl, hs1⟩
  have HS1 := Lib.hid hs1
  clear hs1
  go_wp2_with fail
  go_ret
  exact ⟨rfl, HS1.out⟩
set_option maxRecDepth 100000 in
set_option maxHeartbeats 2000000 in
theorem ORDERED_nil (A : Option Addr) (cap : Nat) (w : World) :
    Calls Tryz.prog 22 #[.slice A 0 cap] w fun e w' => e = .returned (.slice A 0 cap) ∧ w = w' := by
  have H1 : ∀ W, Calls Tryz.prog 145 #[.slice A 0 cap, .int .i64 0, .int .i64 0, .func (.func 49) #[] #[]] W fun e w' => e = .returned (.tuple #[]) ∧ W = w' := fun W => by
    go_enter Tryz.func145, Tryz.ntmps145
    go_wp2_with fail
    refine wp_loop_rounds 1 ?_
    rw [rounds_succ]
    go_wp2_with fail
    refine bodyPost_end (v := .tuple #[]) (by simp [results, Tryz.results145, go_sem]) rfl ?_
    exact ⟨rfl, rfl⟩
  have H19 := Lib.hid H1
  clear H1
  have H2 : ∀ W, Calls Tryz.prog 106 #[.slice A 0 cap, .int .i64 0, .func (.func 49) #[] #[]] W fun e w' => e = .returned (.tuple #[]) ∧ W = w' := fun W => by
    go_enter Tryz.func106, Tryz.ntmps106
    go_wp2_with fail
    refine wp_loop_rounds 1 ?_
    rw [rounds_succ]
    go_wp2_with fail
    refine (H19.out W).mono ?_
    rintro e w1 ⟨rfl, rfl⟩
    go_wp2_with fail
    refine wp_loop_rounds 1 ?_
    rw [rounds_succ]
    go_wp2_with fail
    refine bodyPost_end (v := .tuple #[]) (by simp [results, Tryz.results106, go_sem]) rfl ?_
    exact ⟨rfl, rfl⟩
  have H29 := Lib.hid H2
  clear H2
  have H3 : ∀ W, Calls Tryz.prog 57 #[.slice A 0 cap, .func (.func 49) #[] #[]] W fun e w' => e = .returned (.tuple #[]) ∧ W = w' := fun W => by
    go_enter Tryz.func57, Tryz.ntmps57
    go_wp2_with fail
    refine (H29.out W).mono ?_
    rintro e w1 ⟨rfl, rfl⟩
    go_wp2_with fail
    refine bodyPost_end (v := .tuple #[]) (by simp [results, Tryz.results57, go_sem]) rfl ?_
    exact ⟨rfl, rfl⟩
  have H39 := Lib.hid H3
  clear H3
  go_enter Tryz.func22, Tryz.ntmps22
  go_wp2_with fail
  refine (H39.out w).mono ?_
  rintro e w1 ⟨rfl, rfl⟩
  go_wp2_with fail
  go_ret
  exact ⟨rfl, rfl⟩
end Go.Proofs.YtkmcohnhanphdaaGreatDoor
/- Before Compose: rows of clips of the call's own, with their points. -/
namespace Go.Proofs.YtkmcohnhanphdaaGreatDoor
open Go.RowKit Go.Dw
theorem own_same {w w' : World} {B size n : Nat} {e : TypeId} {v : Value} {xs : List Value} (h : w.ownsRow B e size v n xs) (hs : ∀ k, v.ownBlock = some k → w'.heap[k]? = w.heap[k]?) : w'.ownsRow B e size v n xs := by
  refine ⟨h.1, ?_⟩
  rcases h.2 with h0 | ⟨g', cap, cur, hv, hg, hh, r⟩
  · exact .inl h0
  · exact .inr ⟨g', cap, cur, hv, hg, (hs g' (by rw [hv]; rfl)).trans hh, r⟩
theorem own_block {w : World} {B size n : Nat} {e : TypeId} {v : Value} {xs : List Value} {g : Nat} (h : w.ownsRow B e size v n xs) (hv : v.ownBlock = some g) : ∃ cur, w.heap[g]? = some (.cells cur e (0, 0)) := by
  rcases h.2 with h0 | ⟨g', cap, cur, hv', hg, hh, r⟩
  · rw [h0.1] at hv; cases hv
  · rw [hv'] at hv
    have e9 : g' = g := by cases hv; rfl
    subst e9
    exact ⟨cur, hh⟩
def RecAt (w : World) (p : CV) : Prop := OwnK 3 68 w 0 (.slice p.2.1 p.2.2.1 p.2.2.2) (p.1.env.map ptL)
def RecsAt (w : World) (L : List CV) : Prop := ∀ p ∈ L, RecAt w p
theorem RecAt.below {w w' : World} {p : CV} (h : RecAt w p) (hb : Below w.heap.size w w') : RecAt w' p := OwnK.below h hb
theorem RecsAt.below {w w' : World} {L : List CV} (h : RecsAt w L) (hb : Below w.heap.size w w') : RecsAt w' L := fun p hp => (h p hp).below hb
theorem RecAt.off {w w' : World} {p : CV} {g : Nat} {cur : Array Value} (h : RecAt w p) (hg : w.heap[g]? = some (.cells cur 58 (0, 0))) (hk : ∀ k, k < w.heap.size → k ≠ g → w'.heap[k]? = w.heap[k]?) : RecAt w' p := by
  have hne := own_ne_blk h.2 hg (by decide)
  exact ⟨h.1, own_same h.2 (fun k hv => hk k (own_lt h.2 hv).2 (fun e => hne (e ▸ hv)))⟩
theorem RecsAt.grown {w w' : World} {L : List CV} {v : Value} {B n : Nat} {xs : List Value} (h : RecsAt w L) (ho : w.ownsRow B 58 7 v n xs) (hg : w.grownBy w' v.ownBlock) : RecsAt w' L := fun p hp => by
  have h1 := h p hp
  refine ⟨h1.1, own_same h1.2 (fun k hv => hg.block k (own_lt h1.2 hv).2 (fun e => ?_))⟩
  obtain ⟨cur, hc⟩ := own_block ho e.symm
  exact own_ne_blk h1.2 hc (by decide) hv
structure CoSt (base : Nat) (w : World) (v12 v13 : Value) (L1 L2 : List CV) : Prop where
  o1 : OwnK 7 58 w base v12 (cvLs L1)
  o2 : OwnK 7 58 w base v13 (cvLs L2)
  sep : ∀ b, v12.ownBlock = some b → v13.ownBlock ≠ some b
  r1 : RecsAt w L1
  r2 : RecsAt w L2
theorem CoSt.below {base : Nat} {w w' : World} {v12 v13 : Value} {L1 L2 : List CV} (h : CoSt base w v12 v13 L1 L2) (hb : Below w.heap.size w w') : CoSt base w' v12 v13 L1 L2 :=
  ⟨h.o1.below hb, h.o2.below hb, h.sep, h.r1.below hb, h.r2.below hb⟩
theorem CoSt.swap {base : Nat} {w : World} {v12 v13 : Value} {L1 L2 : List CV} (h : CoSt base w v12 v13 L1 L2) : CoSt base w v13 v12 L2 L1 := ⟨h.o2, h.o1, fun b h1 h2 => h.sep b h2 h1, h.r2, h.r1⟩
theorem CoSt.nil (base : Nat) (w : World) : CoSt base w (.slice none 0 0) (.slice none 0 0) [] [] := ⟨OwnK.nil _ _ _ _, OwnK.nil _ _ _ _, (fun b h => by cases h), (fun p hp => absurd hp List.not_mem_nil), (fun p hp => absurd hp List.not_mem_nil)⟩
theorem CoSt.push {base g : Nat} {w w' : World} {v12 v13 v' : Value} {L1 L2 : List CV} {p : CV} (h : CoSt base w v12 v13 L1 L2) (hg : w.grownBy w' v12.ownBlock) (ho : OwnK 7 58 w' base v' (cvLs (L1 ++ [p]))) (hv : v'.ownBlock = some g) (hb : v12.ownBlock = some g ∨ w.heap.size ≤ g) (hp : RecAt w p) : CoSt base w' v' v13 (L1 ++ [p]) L2 := by
  have h1 : RecsAt w' (L1 ++ [p]) := RecsAt.grown (L := L1 ++ [p]) (fun q hq => by
    rcases List.mem_append.1 hq with h2 | h2
    · exact h.r1 q h2
    · rw [List.mem_singleton.1 h2]; exact hp) h.o1.2 hg
  refine ⟨ho, ⟨h.o2.1, own_same h.o2.2 (fun k hk => hg.block k (own_lt h.o2.2 hk).2 (fun e => h.sep k e.symm hk))⟩, fun b hb1 hb2 => ?_, h1, h.r2.grown h.o1.2 hg⟩
  rw [hv] at hb1
  injection hb1 with hb1
  subst hb1
  rcases hb with h3 | h3
  · exact h.sep _ h3 hb2
  · have := (own_lt h.o2.2 hb2).2; omega
theorem clip_info : (Tryz.prog.info? 58).map (fun i => (i.zero, i.size, i.bytes)) = some (some (.agg #[.string ⟨#[]⟩, .int .i64 0, .int .i64 0, .int .i64 0, .int .i64 0, .int .i64 0, .slice none 0 0]), 7, 80) := by kernel_rfl
theorem wpList_push_cv {ops : Array Oper} {rest : List Oper} {o : Oper} {a : Act} {Q : Exit → Act → World → Prop} {w0 : World} (hgd : o.guard = none) (s x : Operand) (ho : o.op = .call { callee := .builtin .append, args := #[s, x], argTypes := #[22, 22] })
    (base : Nat) (A : Option Addr) (n c : Nat) (v13 : Value) (L1 L2 : List CV) (p : CV) (g0 : Nat) (hg0 : w0.heap.size = g0) (hs : a.eval s = .slice A n c) (hx : a.eval x = .slice (some ⟨g0, 0, none⟩) 1 1) (hst : CoSt base w0 (.slice A n c) v13 L1 L2) (hrec : RecAt w0 p) (hn : n ≤ 100000000000) (hb : base ≤ w0.heap.size)
    (h : ∀ g cap w', CoSt base w' (.slice (some ⟨g, 0, none⟩) (n + 1) cap) v13 (L1 ++ [p]) L2 → Below base w0 w' → (∀ k, k < w0.heap.size → Value.ownBlock (.slice A n c) ≠ some k → w'.heap[k]? = w0.heap[k]?) → (Value.ownBlock (.slice A n c) = some g ∨ w0.heap.size < g) → wpList Tryz.prog ops Q rest (a.put o.dst (.slice (some ⟨g, 0, none⟩) (n + 1) cap)) w') :
    wpList Tryz.prog ops Q (o :: rest) a (w0.alloc (.cells #[.string p.1.media, .int .i64 p.1.chan, .int .i64 p.1.from_, .int .i64 p.1.track, .int .i64 p.1.at_, .int .i64 p.1.len, .slice p.2.1 p.2.2.1 p.2.2.2] 58)) := by
  obtain ⟨i1, e0, e1, e2, e3⟩ := info_parts clip_info
  subst hg0
  have hown := hst.o1
  have hn' : n = (cvLs L1).length := by
    obtain ⟨A', c', e, _, _⟩ := own_form hown.2
    injection e
  subst hn'
  have hbW : Below w0.heap.size w0 (w0.alloc (.cells #[.string p.1.media, .int .i64 p.1.chan, .int .i64 p.1.from_, .int .i64 p.1.track, .int .i64 p.1.at_, .int .i64 p.1.len, .slice p.2.1 p.2.2.1 p.2.2.2] 58)) := (Below.refl _ _).alloc (Nat.le_refl _) _
  refine wpList_append_lies _ hgd s x 22 ho base 58 i1 _ 7 80 Tryz.underlying22 e0 e1 e2 e3 rfl (by omega) (.slice A (cvLs L1).length c) (cvLs L1).length (cvLs L1).flatten hs (World.ownsRow.alloc hown.2 _) ⟨w0.heap.size, 0, none⟩ 1 1 (cvL p) hx rfl (fun j u hj => ?_) (by intro u hu; simp [cvL] at hu; rcases hu with rfl | rfl | rfl | rfl | rfl | rfl | rfl <;> rfl) (by omega) (by simp only [maxLen]; omega) (by omega) (by simp; omega) _ rfl ?_
  · rw [addr0, World.cell?_alloc_new]
    simpa [cvL] using hj
  · intro g cap w' h1 h2 h3 _
    have h4 : OwnK 7 58 w' base (.slice (some ⟨g, 0, none⟩) ((cvLs L1).length + 1) cap) (cvLs (L1 ++ [p])) := by
      have h5 := hown.snoc (l := cvL p) rfl h1
      unfold cvLs at h5 ⊢
      rw [List.map_append]
      exact h5
    exact h g cap w' ((hst.below hbW).push h2 h4 rfl (h3.imp id (fun e => by rw [e]; exact Nat.le_refl _)) (hrec.below hbW)) ((((Below.refl base w0).alloc hb _).grown h2 (by simp; omega) (fun b e => (own_lt hown.2 e).1))) (fun k hk hne => (h2.block k (by simp; omega) (fun e => hne e.symm)).trans (Below.heap_alloc _ _ _ (by omega))) (h3.imp id (fun e => by rw [e]; simp))
theorem CoSt.clips {base n c : Nat} {w : World} {A : Option Addr} {L : List CV} (h : OwnK 7 58 w base (.slice A n c) (cvLs L)) (hr : RecsAt w L) : ClipsAt w w.heap.size A n (L.map Prod.fst) := by
  have hn' : n = (cvLs L).length := by
    obtain ⟨A', c', e, _, _⟩ := own_form h.2
    injection e
  rw [cvLs_len] at hn'
  refine ⟨by rw [List.length_map]; exact hn'.symm, fun k hk => ?_⟩
  have hkl : k < L.length := by omega
  obtain ⟨g, cap, e, _, hg, _, _, hc⟩ := h.slot (by rw [cvLs_len]; omega) (by omega)
  injection e with e1 e2 e3
  subst e1
  have hh := hc k (by rw [cvLs_len]; exact hkl)
  rw [cv_rec hkl] at hh
  have e9 : cpOf (L.map Prod.fst) k = (cvOf L k).1 := by simp [cpOf, cvOf, List.getD, hkl]
  obtain ⟨p1, p2, p3, p4⟩ := OwnK.pts (hr _ (cv_mem hkl))
  rw [e9]
  refine ⟨g, 0, (cvOf L k).2.1, (cvOf L k).2.2.1, (cvOf L k).2.2.2, rfl, hg, ⟨?_, ?_, ?_, ?_, ?_, ?_, ?_⟩, p2, p3, p1⟩
  · rw [Nat.zero_add]; exact (hh 0 _ rfl).1
  · rw [Nat.zero_add]; exact (hh 1 _ rfl).1
  · rw [Nat.zero_add]; exact (hh 2 _ rfl).1
  · rw [Nat.zero_add]; exact (hh 3 _ rfl).1
  · rw [Nat.zero_add]; exact (hh 4 _ rfl).1
  · rw [Nat.zero_add]; exact (hh 5 _ rfl).1
  · rw [Nat.zero_add]; exact (hh 6 _ rfl).1
end Go.Proofs.YtkmcohnhanphdaaGreatDoor
/- edit.checked. -/
namespace Go.Proofs.YtkmcohnhanphdaaGreatDoor
open Go.RowKit Go.Dw
attribute [local go_sem ↓] Go.wp_at_zero Go.wp_at_succ
theorem load_edit {w : World} {g : Nat} {v0 v1 v2 : Value} (h : w.heap[g]? = some (.cells #[v0, v1, v2] 24 (0, 0))) : (loadVar 24 ⟨g, 0, none⟩).run Tryz.prog w = .ok (.agg #[v0, v1, v2]) w := by
  obtain ⟨h0, h1, h2, _, _, _⟩ := three_cells h
  simp [loadVar, go_sem, h0, h1, h2]
theorem res_edit2 {fn : Func} {p u : Tmp} (h : fn.results = #[.cell p 24, .tmp u]) {tmps : Array Value} {w : World} {g : Nat} {v0 v1 v2 : Value} (hp : tmps.getD p undef = .pointer (some ⟨g, 0, none⟩))
    (hh : w.heap[g]? = some (.cells #[v0, v1, v2] 24 (0, 0))) : (results fn tmps).run Tryz.prog w = .ok (.tuple #[.agg #[v0, v1, v2], tmps.getD u undef]) w := by
  have hp' : tmps[p]?.getD undef = .pointer (some ⟨g, 0, none⟩) := by simpa using hp
  simp [results, h, hp', asAddr, load_edit hh]
def edit0 : Value := .agg #[.int .i64 0, .int .i64 0, .slice none 0 0]
set_option maxRecDepth 100000 in
set_option maxHeartbeats 2000000 in
theorem ECHECKED_any (rate tracks : Int) (A : Option Addr) (n cap : Nat) (l : List Cp) (hz : Hid (∀ c ∈ l, CpFits c)) (w : World) (B : Nat) (hB : B ≤ w.heap.size) (hh : Hid (ClipsAt w B A n l)) :
    Calls Tryz.prog 23 #[.agg #[.int .i64 rate, .int .i64 tracks, .slice A n cap]] w fun e w' => Below w.heap.size w w' ∧ ((chkE rate tracks l ≠ 0 ∧ e = .returned (.tuple #[edit0, .int .i64 (chkE rate tracks l)])) ∨ (chkE rate tracks l = 0 ∧ e = .returned (.tuple #[.agg #[.int .i64 rate, .int .i64 tracks, .slice A n cap], .int .i64 0]))) := by
  unfold edit0
  obtain ⟨W, g, hW, hg, HG, HBW, HSW⟩ := boxes2c w (.cells #[.int .i64 rate, .int .i64 tracks, .slice A n cap] 24) (.cells #[.int .i64 0, .int .i64 0, .slice none 0 0] 24)
  obtain ⟨g2, hg2⟩ : ∃ g2, g + 1 = g2 := ⟨_, rfl⟩
  rw [hg2] at HG
  have HN := Lib.hid (show g2 ≠ g ∧ w.heap.size ≤ g ∧ w.heap.size ≤ g2 by omega)
  have HX1 := Lib.hid HG.out.1
  have HX2 := Lib.hid HG.out.2
  obtain ⟨x0, x1, x2, _, _, _⟩ := three_cells HX1.out
  have hhW : Hid (ClipsAt W B A n l) := hh.out.below HBW.out hB
  have hBW : B ≤ W.heap.size := Nat.le_trans hB HBW.out.size
  go_enter Tryz.func23, Tryz.ntmps23
  go_upto_region 1 with (fail)
  rw [← hW, ← hg, hg2]
  clear hW hg hg2 HG
  go_wp2_with fail
  refine (ECHECK_any rate tracks A n cap l hz W B hBW hhW).mono ?_
  rintro e w1 ⟨rfl, hb1⟩
  obtain ⟨f, hf⟩ : ∃ f, chkE rate tracks l = f := ⟨_, rfl⟩
  have HF := Lib.hid hf
  rw [hf]
  have HB1 := Lib.hid (HBW.out.trans (hb1.mono HBW.out.size))
  have HX11 := Lib.hid ((hb1.block g (blk_lt HX1.out)).trans HX1.out)
  have HX21 := Lib.hid ((hb1.block g2 (blk_lt HX2.out)).trans HX2.out)
  clear hb1 hf x0 x1 x2
  obtain ⟨x0, x1, x2, _, _, _⟩ := three_cells HX11.out
  obtain ⟨y0, y1, y2, k0, k1, k2⟩ := three_cells HX21.out
  have hn1 : ¬ g2 = g := HN.out.1
  have hn2 : ¬ g = g2 := Ne.symm HN.out.1
  by_cases h1 : f = 0
  · subst h1
    go_wp2_with fail
    refine bodyPost_ret (res_edit2 rfl rfl (box3_heap HX21.out)) rfl ⟨box3_below HB1.out HN.out.2.2, .inr ⟨HF.out, rfl⟩⟩
  · have hd : (f != 0) = true := by simpa using h1
    go_wp2_with fail
    refine bodyPost_ret (res_edit2 rfl rfl (box3_heap HX21.out)) rfl ⟨box3_below HB1.out HN.out.2.2, .inl ⟨fun h => h1 (HF.out.symm.trans h), by rw [HF.out]; rfl⟩⟩
end Go.Proofs.YtkmcohnhanphdaaGreatDoor
