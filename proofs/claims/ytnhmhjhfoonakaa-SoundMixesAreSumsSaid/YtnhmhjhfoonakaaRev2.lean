/- Reversed on the sound's side. -/
import Derived.Test.YtnhmhjhfoonakaaRev1
import Derived.Test.YtnhmhjhfoonakaaWc
import Derived.Test.YtnhmhjhfoonakaaWb
set_option linter.unusedSimpArgs false
set_option linter.unusedVariables false
namespace Go.Proofs.Ytnhmhjhfoonakaa
open Go.RowKit Go.Dw
attribute [local go_sem ↓] Go.wp_at_zero Go.wp_at_succ

theorem FillI.rewrite {N : Nat} {W : World} {g : Nat} {o0 : Value} {gv n cV : Nat} {rows : List Value} {wr w' : World} {yss : List (List Int)} {k b m cap : Nat} {xs : List Int} (h : FillI N W g o0 gv n cV rows wr yss) (hN : N ≤ wr.heap.size)
    (hr : rows[k]? = some (.slice (some ⟨b, 0, none⟩) m cap)) (hg : wr.grownBy w' (some b)) (hm : xs.length = m) (hn : w'.ownsRow N 3 1 (.slice (some ⟨b, 0, none⟩) m cap) m (xs.map (Value.int .i64))) : FillI N W g o0 gv n cV rows w' (yss.set k xs) := by
  subst hm
  have hin := h.own.inner k _ hr
  have hb : N ≤ b := (own_lt hin rfl).1
  have hne : b ≠ g := fun e => own_ne_blk hin h.box (by decide) (by rw [e]; rfl)
  exact ⟨h.below.trans (grown_below hg hN (fun j e => by injection e with e; omega)), (hg.block g (blk_lt h.box) (fun e => by injection e with e; omega)).trans h.box, OwnRowsL.rewrite h.own hr rfl hg hn, h.ge⟩
theorem fst_id (xss : List (List Int)) : xss.map (List.map fun x : Int => x) = xss := by simp
/-- what each leaves where the function value only computes -/
theorem EACH_id (fid : FuncId) (r : Int) (ad : Addr) (n c : Nat) (xss : List (List Int)) (hok : Hid (OkS r xss)) (w : World) (B : Nat) (hB : B ≤ w.heap.size) (hh : Hid (RowsAt w B (some ad) n xss))
    (hcf : ∀ (args : Array Value) (W : World), (callFunc fid args).run Try.prog W = .ok (.enter fid args) W)
    (hf : ∀ x w1, Calls Try.prog fid #[.int .i64 x] w1 fun e w2 => e = .returned (.int .i64 x) ∧ w1 = w2) :
    Calls Try.prog 48 #[.agg #[.int .i64 r, .slice (some ad) n c], .func (.func fid) #[] #[]] w (OutS1 w r xss) := by
  refine (EACH_any (σ := Unit) (fun _ _ => True) (fun x => x) (fun _ _ => ()) () fid #[] none r ad n c xss hok w B hB hh (fun k e => by cases e) trivial (fun _ _ _ _ _ => trivial) hcf (fun x s w1 _ _ => (hf x w1).mono fun e w2 ⟨h1, h2⟩ => ⟨h1, trivial, by subst h2; exact World.grownBy.refl _ _⟩)).mono ?_
  rintro e w' ⟨⟨v, he, ho⟩, _, hg⟩
  rw [fst_id] at ho
  exact ⟨v, he, ho, grown_below hg (Nat.le_refl _) (fun k e => by cases e)⟩

end Go.Proofs.Ytnhmhjhfoonakaa
