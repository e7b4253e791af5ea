/- The law FadesAreQuieter, put together and lifted. -/
import Derived.Test.YtpnbkkpbgpcgiaaQuiet1
import Derived.Test.YtpnbkkpbgpcgiaaLift
set_option linter.unusedSimpArgs false
set_option linter.unusedVariables false
namespace Go.Proofs.Ytpnbkkpbgpcgiaa
open Go.ChangeShapes Go.WideShapes Go.ChangeAt Go.RowKit Go.Dw

theorem rvS_ok {r : Int} {xss : List (List Int)} (h : OkS r xss) : rvS r xss = (r, xss.map List.reverse, 0) := by
  unfold rvS; rw [if_neg (by simp [chkS_mk h])]
theorem fdS_ok {r : Int} {xss : List (List Int)} {p q sh : Int} {up : Bool} (h : OkS r xss) (hd : cutF p q (len0 xss) = 0) (hs : shB sh = true) : fdS r xss p q sh up = (r, genS (fadeV sh up p q) (len0 xss) xss, 0) := by
  unfold fdS; rw [if_neg (by simp [chkS_mk h]), if_neg (by simp [hd]), if_neg (by simp [hs])]
theorem lawQuiet_walk (r : Int) (A : Option Addr) (n c : Nat) (p q sh : Int) (up : Bool) (xss : List (List Int)) (w : World) (hh : Hid (RowsAt w w.heap.size A n xss)) :
    Calls Try.prog 12 #[.agg #[.int .i64 r, .slice A n c], .agg #[.int .i64 p, .int .i64 q], .int .i64 sh, .bool up] w fun e w' => e = .returned (.bool true) ∧ Below w.heap.size w w' := by
  by_cases hc : chkS r xss = 0
  · have hok := chkS_ok hc
    by_cases hd : cutF p q (len0 xss) = 0
    · cases hs : shB sh with
      | false => exact quiet_err r A n c p q sh up 4 xss w hh (show _ = _ by unfold fdS; rw [if_neg (by simp [hc]), if_neg (by simp [hd]), if_pos hs]) (by omega)
      | true =>
        obtain ⟨h1, h2, h3⟩ := cutF_zero hd
        have hn : 0 < n := by have := hok.some; have := hh.out.1; omega
        obtain ⟨ad, rfl⟩ := hh.out.addr hn
        have hm := hok.long
        obtain ⟨hokR, hlR⟩ := hok.reversed
        have hE2 : ∀ p' q', p' = (len0 xss : Int) - q → q' = (len0 xss : Int) - p → fdS r (xss.map List.reverse) p' q' sh (!up) = (r, genS (fadeV sh (!up) ((len0 xss : Int) - q) ((len0 xss : Int) - p)) (len0 xss) (xss.map List.reverse), 0) := by
          intro p' q' e1 e2
          subst e1 e2
          have := fdS_ok (r := r) (xss := xss.map List.reverse) (p := (len0 xss : Int) - q) (q := (len0 xss : Int) - p) (sh := sh) (up := !up) hokR (by rw [hlR]; exact cutF_ok (by omega) (by omega) (by omega)) hs
          rw [hlR] at this
          exact this
        have hokZ := (genS_OkS (g := fadeV sh (!up) ((len0 xss : Int) - q) ((len0 xss : Int) - p)) hokR (fun k i hk hi => by
          have := hokR.el hk hi
          exact fadeV_smp (by omega) this.1 this.2)).1
        rw [hlR] at hokZ
        have hR2 := rvS_ok hokZ
        rw [fade_turn hok] at hR2
        exact quiet_ok r ad n c p q sh up xss w hh hok h1 h2 h3 (fdS_ok hok hd hs) (rvS_ok hok) hE2 hR2
    · exact quiet_err r A n c p q sh up 1 xss w hh (show _ = _ by unfold fdS; rw [if_neg (by simp [hc]), if_pos hd]) (by omega)
  · exact quiet_err r A n c p q sh up (chkS r xss) xss w hh (show _ = _ by unfold fdS; rw [if_pos hc]) hc
theorem lawQuiet_rd : ∀ t ∈ Try.f12.params.toList, Try.prog.readableRec t = true ∧ t < Try.prog.types.size := by
  rw [Try.params12]
  intro t ht
  simp only [List.mem_cons, List.not_mem_nil, or_false] at ht
  rcases ht with rfl | rfl | rfl | rfl
  · exact rd_SND
  · exact rd_SPAN
  · exact rd_INT
  · exact rd_BOOL
set_option maxRecDepth 100000 in
theorem lawQuiet_lifted (os : Os) (started : os.Started) (H : Type) (enc : TypeId × Value → H) :
    ReturnsInHanded {} Try.checked os 12 .any (Rows.soundFadesAreQuieterSpec.pre6 enc Try.prog Try.f12 Rows.soundFadesAreQuieterRow.domain false) (Rows.soundFadesAreQuieterSpec.post enc Try.prog Try.f12 false true false false) := by
  refine returnsInHanded_of_change (C := Try.checked) own started (by kernel_rfl) Try.func12
    (ChangeSpec.witness6 (enc := enc) (C := Try.checked) false ⟨#[], #[.agg #[.int .i64 0, .slice none 0 0], .agg #[.int .i64 0, .int .i64 0], .int .i64 0, .bool false], []⟩ 8 (by kernel_rfl) (by kernel_rfl) (by kernel_rfl) (by kernel_rfl)) ?_
  intro W base args ds gs before hval0 hW _ _
  have hval : ∀ (j : Nat) t v, Try.f12.params[j]? = some t → args[j]? = some v → Value.okWide Try.prog W .any base t v := hval0
  have hW' := hW
  obtain ⟨p, q, hA0, hV, rfl, _, _⟩ := hW
  have hA : DataW.TrodAll enc Try.prog W 0 (fun _ => true) true Try.f12.params.toList args.toList ds p := hA0
  rw [Try.params12] at hA hval
  obtain ⟨v0, v1, v2, v3, d0, d1, d2, d3, p0, p1, p2, p3, rfl, rfl, rfl, h0, h1, h2, h3⟩ := trodAll_four hA
  obtain ⟨rfl, rfl⟩ := trodVars_none hV
  obtain ⟨r0, A0, n0, c0, xss0, rfl, _, _, _, hr0⟩ := open_snd (hval 0 24 v0 rfl rfl) h0
  obtain ⟨a1, b1, rfl, hw1, hx1⟩ := open_span (hval 1 33 v1 rfl rfl) h1
  obtain ⟨a2, rfl, rfl, rfl, hw2⟩ := open_int Try.underlying3 (hval 2 3 v2 rfl rfl) h2
  obtain ⟨a3, rfl, rfl, rfl⟩ := open_bool Try.underlying4 (hval 3 4 v3 rfl rfl) h3
  clear hA0 hval0
  refine (lawQuiet_walk r0 A0 n0 c0 a1 b1 a2 a3 xss0 W hr0).mono fun e W' ⟨he, hb⟩ => ?_
  subst he
  exact ⟨_, rfl, law_post rfl (by kernel_rfl) lawQuiet_rd hW' rfl hb⟩
end Go.Proofs.Ytpnbkkpbgpcgiaa
