/- The builtin copy into a cut of a row of the call's own, at the operation (for a region that draws its order). -/
import Derived.Test.YtpnbkkpbgpcgiaaCopy
set_option linter.unusedSimpArgs false
set_option linter.unusedVariables false
namespace Go.Proofs.Ytpnbkkpbgpcgiaa
open Go.RowKit Go.Dw

theorem own_setRowAt {w : World} {base : Nat} {e : TypeId} {b m cap : Nat} {ds : List Value} (h : w.ownsRow base e 1 (.slice (some ⟨b, 0, none⟩) m cap) m ds) :
    ∃ cur, w.heap[b]? = some (.cells cur e (0, 0)) ∧ m ≤ cur.size ∧ ∀ (off : Nat) (cs : List Value), off + cs.length ≤ m → (w.setRow b (cur.toList.take off ++ (cs ++ cur.toList.drop (off + cs.length))).toArray).ownsRow base e 1 (.slice (some ⟨b, 0, none⟩) m cap) m (ds.take off ++ (cs ++ ds.drop (off + cs.length))) ∧
      w.grownBy (w.setRow b (cur.toList.take off ++ (cs ++ cur.toList.drop (off + cs.length))).toArray) (some b) := by
  have hl := h.1
  rcases h.2 with ⟨h0, _⟩ | ⟨g, cap', cur, he, hb, hh, h1, h2, h3, h4⟩
  · cases h0
  · injection he with e1 e2 e3
    injection e1 with e1
    injection e1 with e1
    subst e1 e3
    refine ⟨cur, hh, by omega, fun off cs hcs => ⟨⟨?_, .inr ⟨b, cap, _, rfl, hb, setRow_heap w b cur _ e _ hh, h1, h2, ?_, ?_⟩⟩, ⟨rfl, rfl, rfl, by simp [World.setRow], fun k _ hk => setRow_other w b k _ (fun e => hk (by rw [e]))⟩⟩⟩
    · simp; omega
    · simp; omega
    · rw [← h4]
      simp only [Nat.mul_one, List.toList_toArray]
      have hc : cur.toList.length = cur.size := by simp
      rw [List.take_append, List.take_append, List.drop_take, List.take_take, List.length_take]
      rw [show min off cur.toList.length = off by omega]
      rw [List.take_of_length_le (l := cs) (by omega), List.take_take]
      congr 1
      · congr 1; omega
      · congr 2; omega
theorem wp_copy_off {P : Program} {w : World} {o : Oper} {a : Act} {K : Act → World → Prop} {Q : Exit → Act → World → Prop} (d s : Operand) (T e : TypeId)
    (ho : o.op = .call { callee := .builtin .copy, args := #[d, s], argTypes := #[T, T] }) (hu : P.underlying T = some (.slice e)) (hsz : (P.info? e).map (·.size) = some 1)
    (A : Option Addr) (m cap off : Nat) (sp : Option Addr) (n sCap : Nat) (hd : a.eval d = .slice (cutA A cap off) (m - off) (cap - off)) (hs : a.eval s = .slice sp n sCap) (hoff : off + n ≤ m) (hmc : m ≤ cap)
    (base : Nat) (ds : List Value) (hown : w.ownsRow base e 1 (.slice A m cap) m ds) (B : Nat) (cs : List Value) (hr : Reads w B 1 sp n cs) (h1 : ∀ v ∈ cs, v.oneCell' = true)
    (h : ∀ w' j, w'.ownsRow base e 1 (.slice A m cap) m (ds.take off ++ (cs ++ ds.drop (off + n))) → w.grownBy w' (Value.slice A m cap).ownBlock → K (a.put o.dst (goInt j)) w') : o.wp P a w K Q := by
  have hl : cs.length = n := by have := hr.1; omega
  by_cases h0 : n = 0
  · subst h0
    obtain rfl : cs = [] := List.eq_nil_of_length_eq_zero hl
    have hrun := run_copy_none (P := P) w T T o.type e (cutA A cap off) sp (m - off) (cap - off) 0 sCap hu hsz (by simp)
    unfold Oper.wp
    simp [execOp, ho, resolve, invoke, builtin, hd, hs, hrun, Result.andThen]
    exact h w 0 (by simpa using hown) (World.grownBy.refl _ _)
  · obtain ⟨g, cap', e1, _⟩ := own_slot hown (by omega)
    injection e1 with e1 e2 e3
    subst e1 e3
    obtain ⟨ad, rfl, _, hc⟩ := hr.2 (by omega)
    obtain ⟨cur, hh, hcur, hall⟩ := own_setRowAt hown
    obtain ⟨k1, k2⟩ := hall off cs (by omega)
    have hcut : cutA (some ⟨g, 0, none⟩) cap off = some ⟨g, off, none⟩ := by
      unfold cutA
      rw [if_neg (by omega)]
      simp [Addr.add]
      intro h; omega
    rw [hcut] at hd
    have hrun := run_copy_row (P := P) w T T o.type e g off (m - off) (cap - off) ad n sCap cur e cs hu hsz hh (by rw [hl]; exact (Nat.min_eq_left (by omega)).symm) hc (by omega) h1
    unfold Oper.wp
    simp [execOp, ho, resolve, invoke, builtin, hd, hs, hrun, Result.andThen]
    exact h _ _ (by rw [← hl]; exact k1) k2
end Go.Proofs.Ytpnbkkpbgpcgiaa
