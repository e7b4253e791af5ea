/- The plain functions of chapter 2 (sounds) that both sides are shown to compute. No program in sight. -/
import Derived.WalkKit
import Derived.WalkSpells
import Derived.WalkLawsBesides
import Derived.Lib.Hide
import Derived.Deep.QuietTactic
import Derived.Maps.AppendAt
import Derived.Deep.AppendLies
import Derived.RegionTactic
import Derived.OwnWalk
import Derived.Deep.Draws
import Derived.OrdersHeld
import Derived.StillTail
set_option linter.unusedSimpArgs false
set_option linter.unusedVariables false
namespace Go.Dw
def rateB (a : Int) : Bool := decide (1 ≤ a) && decide (a ≤ 1000000)
def smpB (x : Int) : Bool := decide (-8388608 ≤ x) && decide (x ≤ 8388607)
def len0 (xss : List (List Int)) : Nat := (xss.getD 0 []).length
def rowOf (xss : List (List Int)) (k : Nat) : List Int := xss.getD k []
def elOf (xs : List Int) (k : Nat) : Int := xs.getD k 0
def chkT (m : Nat) : List (List Int) → Int
  | [] => 0
  | t :: ts => if t.length ≠ m then 3 else if t.all smpB then chkT m ts else 1
def chkS (r : Int) (xss : List (List Int)) : Int :=
  if rateB r = false then 1 else if xss.length = 0 then 9 else if xss.length > 16 ∨ len0 xss > 100000 then 2 else chkT (len0 xss) xss
theorem drop_row {xss : List (List Int)} {k : Nat} (hk : k < xss.length) : xss.drop k = rowOf xss k :: xss.drop (k + 1) := by
  rw [List.drop_eq_getElem_cons hk]; simp [rowOf, List.getD, List.getElem?_eq_getElem hk]
theorem chkT_step {m : Nat} {xss : List (List Int)} {k : Nat} (hk : k < xss.length) (hl : (rowOf xss k).length = m) (ha : (rowOf xss k).all smpB = true) :
    chkT m (xss.drop (k + 1)) = chkT m (xss.drop k) := by
  rw [drop_row hk, chkT, if_neg (by simp [hl]), if_pos ha]
theorem chkT_len {m : Nat} {xss : List (List Int)} {k : Nat} (hk : k < xss.length) (hl : (rowOf xss k).length ≠ m) : chkT m (xss.drop k) = 3 := by
  rw [drop_row hk, chkT, if_pos hl]
theorem chkT_bad {m : Nat} {xss : List (List Int)} {k : Nat} (hk : k < xss.length) (hl : (rowOf xss k).length = m) {j : Nat} (hj : j < (rowOf xss k).length) (hb : smpB (elOf (rowOf xss k) j) = false) : chkT m (xss.drop k) = 1 := by
  rw [drop_row hk, chkT, if_neg (by simp [hl]), if_neg]
  intro hall
  rw [List.all_eq_true] at hall
  have := hall _ (List.getElem_mem hj)
  simp [elOf, List.getD, List.getElem?_eq_getElem hj] at hb
  rw [this] at hb
  cases hb
theorem chkS_rate {r : Int} {xss : List (List Int)} (h : rateB r = false) : chkS r xss = 1 := by simp [chkS, h]
theorem chkS_none {r : Int} {xss : List (List Int)} (h : rateB r = true) (h0 : xss.length = 0) : chkS r xss = 9 := by simp [chkS, h, h0]
theorem chkS_big {r : Int} {xss : List (List Int)} (h : rateB r = true) (h0 : 0 < xss.length) (hb : 16 < xss.length ∨ 100000 < len0 xss) : chkS r xss = 2 := by
  unfold chkS
  rw [if_neg (by simp [h]), if_neg (by omega), if_pos (by omega)]
theorem chkS_rows {r : Int} {xss : List (List Int)} (h : rateB r = true) (h0 : 0 < xss.length) (hb : xss.length ≤ 16) (hm : len0 xss ≤ 100000) : chkS r xss = chkT (len0 xss) xss := by
  unfold chkS
  rw [if_neg (by simp [h]), if_neg (by omega), if_neg (by omega)]
theorem all_take {p : Int → Bool} {l : List Int} {j : Nat} (h : (l.take j).all p = true) (hj : j < l.length) (hp : p (elOf l j) = true) : (l.take (j + 1)).all p = true := by
  rw [List.take_succ_eq_append_getElem hj, List.all_append, h]
  simp [elOf, List.getD, List.getElem?_eq_getElem hj] at hp
  simp [hp]
theorem smpB_yes {x : Int} (h : smpB x = true) : -8388608 ≤ x ∧ x ≤ 8388607 := by simpa [smpB] using h
theorem chkT_zero {m : Nat} : ∀ {xss : List (List Int)}, chkT m xss = 0 → ∀ t ∈ xss, t.length = m ∧ t.all smpB = true
  | [], _, t, ht => by cases ht
  | t0 :: ts, h, t, ht => by
    unfold chkT at h
    split at h
    · cases h
    · rename_i hl
      split at h
      · rename_i ha
        rcases List.mem_cons.1 ht with e | ht'
        · subst e; exact ⟨by omega, ha⟩
        · exact chkT_zero h t ht'
      · cases h
structure OkS (r : Int) (xss : List (List Int)) : Prop where
  rate : rateB r = true
  some : 0 < xss.length
  few : xss.length ≤ 16
  long : len0 xss ≤ 100000
  rows : ∀ t ∈ xss, t.length = len0 xss ∧ t.all smpB = true
theorem chkS_ok {r : Int} {xss : List (List Int)} (h : chkS r xss = 0) : OkS r xss := by
  unfold chkS at h
  split at h
  · cases h
  · rename_i h1
    split at h
    · cases h
    · rename_i h2
      split at h
      · cases h
      · rename_i h3
        exact ⟨by simpa using h1, by omega, by omega, by omega, chkT_zero h⟩
theorem OkS.row {r : Int} {xss : List (List Int)} (h : OkS r xss) {k : Nat} (hk : k < xss.length) : (rowOf xss k).length = len0 xss ∧ (rowOf xss k).all smpB = true := by
  refine h.rows _ ?_
  simp only [rowOf, List.getD, List.getElem?_eq_getElem hk, Option.getD_some]
  exact List.getElem_mem hk
end Go.Dw
/- Plain words for memory: a slice of integers, a slice of such slices, read as lists below a block number. No program in sight. -/
namespace Go
theorem zA.{u} {α : Type u} {xs : List α} {i : Nat} (h : i < xs.toArray.size) : xs.toArray[i] = xs[i]'(by simpa using h) := rfl
theorem zB.{u} {α : Type u} (a : α) (as : List α) (i : Nat) (h : i + 1 < (a :: as).length) : (a :: as)[i + 1] = as[i]'(Nat.lt_of_succ_lt_succ h) := rfl
theorem zC.{u} {α : Type u} (a : α) (as : List α) (h : 0 < (a :: as).length) : (a :: as)[0] = a := rfl
theorem zD.{u} {α : Type u} (l : List α) (i : Nat) (a : α) : l.toArray.setIfInBounds i a = (l.set i a).toArray := List.setIfInBounds_toArray l i a
theorem zE.{u} {α : Type u} {x : α} {xs : List α} {a : α} : (x :: xs).set 0 a = a :: xs := rfl
theorem zF.{u} {α : Type u} {x : α} {xs : List α} {i : Nat} {a : α} : (x :: xs).set (i + 1) a = x :: xs.set i a := rfl
end Go
namespace Go.Dw
open Go.RowKit
theorem block_of_add (a : Addr) (n : Nat) : (a.add n).block = a.block := by unfold Addr.add; split <;> rfl
def IntsAt (w : World) (B : Nat) (A : Option Addr) (n : Nat) (xs : List Int) : Prop :=
  xs.length = n ∧ ∀ k, k < n → ∃ ad, A = some ad ∧ ad.block < B ∧ w.cell? (ad.add k) = some (.int .i64 (elOf xs k))
def RowsAt (w : World) (B : Nat) (A : Option Addr) (n : Nat) (xss : List (List Int)) : Prop :=
  xss.length = n ∧ n ≤ maxLen ∧ ∀ k, k < n → ∃ ad, A = some ad ∧ ad.block < B ∧ ∃ A' n' c', w.cell? (ad.add k) = some (.slice A' n' c') ∧ n' ≤ c' ∧ c' ≤ maxLen ∧ IntsAt w B A' n' (rowOf xss k)
theorem IntsAt.below {w w' : World} {B B' A n xs} (h : IntsAt w B A n xs) (hb : Below B' w w') (hB : B ≤ B') : IntsAt w' B A n xs :=
  ⟨h.1, fun k hk => by
    obtain ⟨ad, e, hlt, hc⟩ := h.2 k hk
    exact ⟨ad, e, hlt, (hb.cell (p := ad.add k) (by rw [block_of_add]; omega)).trans hc⟩⟩
theorem RowsAt.below {w w' : World} {B B' A n xs} (h : RowsAt w B A n xs) (hb : Below B' w w') (hB : B ≤ B') : RowsAt w' B A n xs :=
  ⟨h.1, h.2.1, fun k hk => by
    obtain ⟨ad, e, hlt, A', n', c', hc, h1, h2, hi⟩ := h.2.2 k hk
    exact ⟨ad, e, hlt, A', n', c', (hb.cell (p := ad.add k) (by rw [block_of_add]; omega)).trans hc, h1, h2, hi.below hb hB⟩⟩
theorem IntsAt.mono {w : World} {B B' A n xs} (h : IntsAt w B A n xs) (hB : B ≤ B') : IntsAt w B' A n xs :=
  ⟨h.1, fun k hk => by
    obtain ⟨ad, e, hlt, hc⟩ := h.2 k hk
    exact ⟨ad, e, by omega, hc⟩⟩
theorem RowsAt.mono {w : World} {B B' A n xs} (h : RowsAt w B A n xs) (hB : B ≤ B') : RowsAt w B' A n xs :=
  ⟨h.1, h.2.1, fun k hk => by
    obtain ⟨ad, e, hlt, A', n', c', hc, h1, h2, hi⟩ := h.2.2 k hk
    exact ⟨ad, e, by omega, A', n', c', hc, h1, h2, hi.mono hB⟩⟩
theorem bcell {W w1 : World} {B : Nat} (hb : Below B W w1) : (∀ b o, b < B → w1.cell? ⟨b, o, none⟩ = W.cell? ⟨b, o, none⟩) ∧ (∀ b o, b < B → w1.frozen? ⟨b, o, none⟩ = W.frozen? ⟨b, o, none⟩) :=
  ⟨fun b o h => hb.cell (p := ⟨b, o, none⟩) h, fun b o h => hb.frozen (p := ⟨b, o, none⟩) h⟩
theorem IntsAt.addr {w : World} {B A n xs} (h : IntsAt w B A n xs) (hn : 0 < n) : ∃ ad, A = some ad := by
  obtain ⟨ad, e, _⟩ := h.2 0 hn
  exact ⟨ad, e⟩
theorem RowsAt.addr {w : World} {B A n xs} (h : RowsAt w B A n xs) (hn : 0 < n) : ∃ ad, A = some ad := by
  obtain ⟨ad, e, _⟩ := h.2.2 0 hn
  exact ⟨ad, e⟩
theorem IntsAt.at_ {w : World} {B n xs} {ad : Addr} (h : IntsAt w B (some ad) n xs) {k : Nat} (hk : k < n) : ad.block < B ∧ w.cell? (ad.add k) = some (.int .i64 (elOf xs k)) := by
  obtain ⟨ad', e, h1, h2⟩ := h.2 k hk
  injection e with e
  subst e
  exact ⟨h1, h2⟩
theorem RowsAt.row {w : World} {B n xss} {ad : Addr} (h : RowsAt w B (some ad) n xss) {k : Nat} (hk : k < n) :
    ∃ A' n' c', ad.block < B ∧ w.cell? (ad.add k) = some (.slice A' n' c') ∧ n' ≤ c' ∧ c' ≤ maxLen ∧ IntsAt w B A' n' (rowOf xss k) := by
  obtain ⟨ad', e, h1, A', n', c', h2⟩ := h.2.2 k hk
  injection e with e
  subst e
  exact ⟨A', n', c', h1, h2⟩
theorem wp_later {P : Program} {c : Code} {Q : Exit → Act → World → Prop} {a : Act} {w0 : World} (N : Nat) (h : ∀ W, Below N w0 W → w0.heap.size ≤ W.heap.size → c.wp P Q a W) : c.wp P Q a w0 := h w0 (Below.refl _ _) (Nat.le_refl _)
theorem Below.next {N : Nat} {W w w1 : World} (h : Below N W w) (hN : N ≤ W.heap.size) (hb : Below w.heap.size w w1) : Below N W w1 := h.trans (hb.mono (Nat.le_trans hN h.size))
theorem pcell {W w1 : World} {B : Nat} (hb : Below B W w1) : ∀ p : Addr, p.block < B → w1.cell? p = W.cell? p := fun _ h => hb.cell h
theorem belowN {B : Nat} {a w : World} (h : Below B a w) (n : Nat) : Below B a (w.drewN n) := ⟨h.os, h.tape, h.output, h.size, h.block⟩
theorem blk_lt {w : World} {g : Nat} {o : Obj} (h : w.heap[g]? = some o) : g < w.heap.size := (Array.getElem?_eq_some_iff.1 h).1
theorem val_int {k : IntKind} {a b : Int} (h : a = b) : Value.int k a = Value.int k b := by rw [h]
theorem ret_int {k : IntKind} {a b : Int} (h : a = b) : Ending.returned (.int k a) = .returned (.int k b) := by rw [h]
theorem ret_bool {a b : Bool} (h : a = b) : Ending.returned (.bool a) = .returned (.bool b) := by rw [h]
end Go.Dw
/- Memory, continued: rows of the call's own, appended to, written into; the lemmas Reads, run_append_any and their kin are the guide's own (extra-words), turned to this claim. -/
namespace Go.Dw
open Go.RowKit
def Reads (w : World) (B size : Nat) (A : Option Addr) (n : Nat) (xs : List Value) : Prop :=
  xs.length = n * size ∧ (0 < n → ∃ ad, A = some ad ∧ ad.block < B ∧ ∀ j u, xs[j]? = some u → w.cell? (ad.add j) = some u)
section
variable {w w' : World} {B B' size n : Nat} {A : Option Addr} {xs : List Value}
theorem Reads.at_ {k : Nat} (h : Reads w B 1 A n xs) (hk : k < n) : ∃ ad u, A = some ad ∧ ad.block < B ∧ xs[k]? = some u ∧ w.cell? (ad.add k) = some u := by
  obtain ⟨ad, e, hb, hc⟩ := h.2 (by omega)
  have hl : k < xs.length := by have := h.1; omega
  exact ⟨ad, xs[k], e, hb, List.getElem?_eq_getElem hl, hc k _ (List.getElem?_eq_getElem hl)⟩
theorem Reads.keep (h : Reads w B size A n xs) (hk : ∀ p : Addr, p.block < B → w'.cell? p = w.cell? p) : Reads w' B size A n xs :=
  ⟨h.1, fun hn => by
    obtain ⟨ad, e, hb, hc⟩ := h.2 hn
    exact ⟨ad, e, hb, fun j u hu => (hk _ (by rw [block_of_add]; exact hb)).trans (hc j u hu)⟩⟩
theorem Reads.below (h : Reads w B size A n xs) (hb : Below B w w') : Reads w' B size A n xs := h.keep fun _ hp => hb.cell hp
theorem Reads.alloc (h : Reads w B size A n xs) (hB : B ≤ w.heap.size) (o : Obj) : Reads (w.alloc o) B size A n xs := h.keep fun p hp => World.cell?_alloc_lt w o p (by omega)
theorem Reads.of_own {base : Nat} {e : TypeId} {c : Nat} (h : w.ownsRow base e size (.slice A n c) n xs) : Reads w w.heap.size size A n xs := by
  refine ⟨h.1, fun hn => ?_⟩
  obtain ⟨g, cap, hv, _, hlt⟩ := h.form hn
  have hA : A = some ⟨g, 0, none⟩ := by injection hv
  subst hA
  exact ⟨_, rfl, hlt, h.cells (g := g) rfl⟩
end
section
variable {P : Program} (w : World)
theorem run_append_of_nil (base : Nat) (t ty e : TypeId) (i : TypeInfo) (size : Nat) (ht : P.underlying t = some (.slice e)) (hi : P.info? e = some i)
    (v : Value) (n : Nat) (xs : List Value) (hown : w.ownsRow base e size v n xs) (c : Nat) : (Builtin.append_ #[t, t] ty #[v, .slice none 0 c]).run P w = .ok v w := by
  rcases hown.2 with ⟨rfl, rfl⟩ | ⟨g, cap, cur, rfl, _, _, hnc, _⟩
  · simp [Builtin.append_, run_underlying ht, sizeOf, typeInfo, hi, Builtin.lenOf, Builtin.firstCells]
  · simp [Builtin.append_, run_underlying ht, sizeOf, typeInfo, hi, Builtin.lenOf, Builtin.firstCells, hnc, storeCells]
theorem run_append_any (base : Nat) (t ty e : TypeId) (i : TypeInfo) (z : Value) (size bytes : Nat) (ht : P.underlying t = some (.slice e)) (hi : P.info? e = some i) (hz : i.zero = some z)
    (hsize : i.size = size) (hby : i.bytes = bytes) (hzs : z.cells.size = size) (hsz : 0 < size)
    (v : Value) (n : Nat) (xs : List Value) (hown : w.ownsRow base e size v n xs)
    (B : Nat) (A : Option Addr) (m c : Nat) (news : List Value) (hr : Reads w B size A m news) (h1 : ∀ u ∈ news, u.oneCell' = true)
    (h63 : n + m ≤ maxLen) (hbytes : (n + m) * bytes ≤ 140737488355328) (hbase : base ≤ w.heap.size) :
    ∃ v' w', (Builtin.append_ #[t, t] ty #[v, .slice A m c]).run P w = .ok v' w' ∧ w'.ownsRow base e size v' (n + m) (xs ++ news) ∧ w.grownBy w' v.ownBlock ∧
      (v'.ownBlock = v.ownBlock ∨ v'.ownBlock = some w.heap.size) := by
  rcases A with _ | ad
  · have hm : m = 0 := by
      rcases Nat.eq_zero_or_pos m with h0 | h0
      · exact h0
      · obtain ⟨ad, h, _⟩ := hr.2 h0
        cases h
    subst hm
    have hn : news = [] := List.eq_nil_of_length_eq_zero (by simpa using hr.1)
    subst hn
    exact ⟨v, w, run_append_of_nil w base t ty e i size ht hi v n xs hown c, by simpa using hown, World.grownBy.refl w _, .inl rfl⟩
  · have hcells : ∀ j u, news[j]? = some u → w.cell? (ad.add j) = some u := by
      intro j u hu
      rcases Nat.eq_zero_or_pos m with h0 | h0
      · subst h0
        have hn : news = [] := List.eq_nil_of_length_eq_zero (by simpa using hr.1)
        subst hn
        simp at hu
      · obtain ⟨ad', h, _, hc⟩ := hr.2 h0
        injection h with h
        subst h
        exact hc j u hu
    obtain ⟨v', w', hrun, h2, h3, _, h5⟩ := run_append_own_at (P := P) w base t ty e i z size bytes ht hi hz hsize hby hzs hsz v n xs hown ad m c news hr.1 hcells h1 h63 hbytes hbase
    exact ⟨v', w', hrun, h2, h3, h5⟩
theorem wp_append_any {o : Oper} {a : Act} {K : Act → World → Prop} {Q : Exit → Act → World → Prop} (s x : Operand) (t : TypeId)
    (ho : o.op = .call { callee := .builtin .append, args := #[s, x], argTypes := #[t, t] })
    (base : Nat) (e : TypeId) (i : TypeInfo) (z : Value) (size bytes : Nat) (ht : P.underlying t = some (.slice e)) (hi : P.info? e = some i) (hz : i.zero = some z)
    (hsize : i.size = size) (hby : i.bytes = bytes) (hzs : z.cells.size = size) (hsz : 0 < size)
    (v : Value) (n : Nat) (xs : List Value) (hs : a.eval s = v) (hown : w.ownsRow base e size v n xs)
    (B : Nat) (A : Option Addr) (m c : Nat) (news : List Value) (hx : a.eval x = .slice A m c) (hr : Reads w B size A m news) (h1 : ∀ u ∈ news, u.oneCell' = true)
    (h63 : n + m ≤ maxLen) (hbytes : (n + m) * bytes ≤ 140737488355328) (hbase : base ≤ w.heap.size)
    (h : ∀ v' w', w'.ownsRow base e size v' (n + m) (xs ++ news) → w.grownBy w' v.ownBlock → (v'.ownBlock = v.ownBlock ∨ v'.ownBlock = some w.heap.size) → K (a.put o.dst v') w') : o.wp P a w K Q := by
  obtain ⟨v', w', hrun, h2, h3, h4⟩ := run_append_any (P := P) w base t o.type e i z size bytes ht hi hz hsize hby hzs hsz v n xs hown B A m c news hr h1 h63 hbytes hbase
  unfold Oper.wp execOp
  simp only [ho, resolve, invoke, builtin, Sem.run_bind, Sem.run_pure, Result.andThen_ok, List.map_toArray, List.map_cons, List.map_nil, hs, hx, hrun]
  exact h v' w' h2 h3 h4
theorem wpList_append_any {ops : Array Oper} {rest : List Oper} {o : Oper} {a : Act} {Q : Exit → Act → World → Prop} (hgd : o.guard = none) (s x : Operand) (t : TypeId)
    (ho : o.op = .call { callee := .builtin .append, args := #[s, x], argTypes := #[t, t] })
    (base : Nat) (e : TypeId) (i : TypeInfo) (z : Value) (size bytes : Nat) (ht : P.underlying t = some (.slice e)) (hi : P.info? e = some i) (hz : i.zero = some z)
    (hsize : i.size = size) (hby : i.bytes = bytes) (hzs : z.cells.size = size) (hsz : 0 < size)
    (v : Value) (n : Nat) (xs : List Value) (hs : a.eval s = v) (hown : w.ownsRow base e size v n xs)
    (B : Nat) (A : Option Addr) (m c : Nat) (news : List Value) (hx : a.eval x = .slice A m c) (hr : Reads w B size A m news) (h1 : ∀ u ∈ news, u.oneCell' = true)
    (h63 : n + m ≤ maxLen) (hbytes : (n + m) * bytes ≤ 140737488355328) (hbase : base ≤ w.heap.size)
    (h : ∀ v' w', w'.ownsRow base e size v' (n + m) (xs ++ news) → w.grownBy w' v.ownBlock → (v'.ownBlock = v.ownBlock ∨ v'.ownBlock = some w.heap.size) → wpList P ops Q rest (a.put o.dst v') w') : wpList P ops Q (o :: rest) a w :=
  wpList_plain hgd fun _ hK => wp_append_any w s x t ho base e i z size bytes ht hi hz hsize hby hzs hsz v n xs hs hown B A m c news hx hr h1 h63 hbytes hbase fun v' w' h2 h3 h4 => hK _ _ (h v' w' h2 h3 h4)
end
theorem IntsAt.reads {w : World} {B n xs} {A : Option Addr} (h : IntsAt w B A n xs) : Reads w B 1 A n (xs.map (Value.int .i64)) := by
  refine ⟨by simp [h.1], fun hn => ?_⟩
  obtain ⟨ad, rfl, hb, _⟩ := h.2 0 hn
  refine ⟨ad, rfl, hb, fun j u hu => ?_⟩
  have hj : j < n := by
    have := (List.getElem?_eq_some_iff.1 hu).1
    simp only [List.length_map, h.1] at this
    exact this
  rw [(h.at_ hj).2, ← hu]
  have hx : j < xs.length := by have := h.1; omega
  simp [elOf, List.getElem?_map, List.getElem?_eq_getElem hx]
theorem Reads.ints {w : World} {B n} {xs : List Int} {A : Option Addr} (h : Reads w B 1 A n (xs.map (Value.int .i64))) : IntsAt w B A n xs := by
  have hl : xs.length = n := by simpa using h.1
  refine ⟨hl, fun k hk => ?_⟩
  obtain ⟨ad, u, e, hb, hx, hc⟩ := h.at_ hk
  refine ⟨ad, e, hb, ?_⟩
  rw [hc, ← hx]
  have hx : k < xs.length := by omega
  simp [elOf, List.getElem?_map, List.getElem?_eq_getElem hx]
theorem ownInts {w : World} {base : Nat} {e : TypeId} {A : Option Addr} {n c : Nat} {xs : List Int} (h : w.ownsRow base e 1 (.slice A n c) n (xs.map (Value.int .i64))) : IntsAt w w.heap.size A n xs := (Reads.of_own h).ints
theorem ones (xs : List Int) : ∀ u ∈ xs.map (Value.int .i64), u.oneCell' = true := by
  intro u hu
  obtain ⟨x, _, rfl⟩ := List.mem_map.1 hu
  rfl
theorem own_form {w : World} {base : Nat} {e : TypeId} {size : Nat} {v : Value} {n : Nat} {xs : List Value} (h : w.ownsRow base e size v n xs) : ∃ A c, v = .slice A n c ∧ n ≤ c ∧ c ≤ maxLen := by
  rcases h.2 with ⟨rfl, rfl⟩ | ⟨g, cap, cur, rfl, _, _, h1, h2, _⟩
  · exact ⟨none, 0, rfl, Nat.le_refl _, Nat.zero_le _⟩
  · exact ⟨_, cap, rfl, h1, h2⟩
theorem own_below {w w' : World} {base : Nat} {e : TypeId} {size : Nat} {v : Value} {n : Nat} {xs : List Value} (h : w.ownsRow base e size v n xs) (hb : Below w.heap.size w w') : w'.ownsRow base e size v n xs :=
  h.kept (row := none) ⟨hb.os, hb.tape, hb.output, hb.size, fun k hk _ => hb.block k hk⟩ (by cases v.ownBlock <;> simp)
theorem own_base {w : World} {base base' : Nat} {e : TypeId} {size : Nat} {v : Value} {n : Nat} {xs : List Value} (h : w.ownsRow base e size v n xs) (hb : base' ≤ base) : w.ownsRow base' e size v n xs := by
  refine ⟨h.1, ?_⟩
  rcases h.2 with h0 | ⟨g, cap, cur, hv, hg, r⟩
  · exact .inl h0
  · exact .inr ⟨g, cap, cur, hv, by omega, r⟩
theorem own_cell1 {w : World} {g : Nat} {cs : Array Value} {t : TypeId} (h : w.heap[g]? = some (.cells cs t (0, 0))) (j : Nat) : w.cell? ⟨g, j, none⟩ = cs[j]? := cell_of_row w g j cs t (0, 0) h
structure OwnRowsL (w : World) (B : Nat) (v : Value) (xss : List (List Int)) (rows : List Value) : Prop where
  outer : w.ownsRow B 42 1 v xss.length rows
  inner : ∀ (k : Nat) (r : Value), rows[k]? = some r → w.ownsRow B 3 1 r (rowOf xss k).length ((rowOf xss k).map (Value.int .i64))
  apart : ∀ (i j : Nat) (r r' : Value), i < j → rows[i]? = some r → rows[j]? = some r' → r.ownBlock = none ∨ r.ownBlock ≠ r'.ownBlock
def OwnRows (w : World) (B : Nat) (v : Value) (xss : List (List Int)) : Prop := ∃ rows : List Value, OwnRowsL w B v xss rows
theorem OwnRows.form {w : World} {B : Nat} {v : Value} {xss : List (List Int)} (h : OwnRows w B v xss) : ∃ A c, v = .slice A xss.length c ∧ xss.length ≤ c ∧ c ≤ maxLen := by
  obtain ⟨rows, h1⟩ := h
  exact own_form h1.outer
theorem OwnRowsL.below {w w' : World} {B : Nat} {v : Value} {xss : List (List Int)} {rows : List Value} (h : OwnRowsL w B v xss rows) (hb : Below w.heap.size w w') : OwnRowsL w' B v xss rows :=
  ⟨own_below h.outer hb, fun k r hr => own_below (h.inner k r hr) hb, h.apart⟩
theorem OwnRowsL.base {w : World} {B B' : Nat} {v : Value} {xss : List (List Int)} {rows : List Value} (h : OwnRowsL w B v xss rows) (hb : B' ≤ B) : OwnRowsL w B' v xss rows :=
  ⟨own_base h.outer hb, fun k r hr => own_base (h.inner k r hr) hb, h.apart⟩
theorem OwnRowsL.set_below {w : World} {B : Nat} {v : Value} {xss : List (List Int)} {rows : List Value} (h : OwnRowsL w B v xss rows) {p : Addr} (hp : p.block < B) (u : Value) : OwnRowsL (w.setCell p u) B v xss rows :=
  ⟨ownsRow_setCell_below h.outer hp u, fun k r hr => ownsRow_setCell_below (h.inner k r hr) hp u, h.apart⟩
theorem OwnRows.below {w w' : World} {B : Nat} {v : Value} {xss : List (List Int)} (h : OwnRows w B v xss) (hb : Below w.heap.size w w') : OwnRows w' B v xss :=
  h.elim fun rows h => ⟨rows, h.below hb⟩
theorem OwnRows.base {w : World} {B B' : Nat} {v : Value} {xss : List (List Int)} (h : OwnRows w B v xss) (hb : B' ≤ B) : OwnRows w B' v xss :=
  h.elim fun rows h => ⟨rows, h.base hb⟩
theorem OwnRows.rows {w : World} {B : Nat} {A : Option Addr} {n c : Nat} {xss : List (List Int)} (h : OwnRows w B (.slice A n c) xss) : RowsAt w w.heap.size A n xss := by
  obtain ⟨rows, h1⟩ := h
  obtain ⟨A', c', e, hn, hc⟩ := own_form h1.outer
  injection e with eA en ec
  subst eA en ec
  have hr := Reads.of_own h1.outer
  refine ⟨rfl, by omega, fun k hk => ?_⟩
  obtain ⟨ad, u, hA, hb, hx, hcell⟩ := hr.at_ hk
  have hi := h1.inner k u hx
  obtain ⟨A2, c2, rfl, hn2, hc2⟩ := own_form hi
  exact ⟨ad, hA, hb, A2, _, c2, hcell, hn2, hc2, ownInts hi⟩
theorem own_ne {w : World} {b b' : Nat} {e e' : TypeId} {s s' : Nat} {v v' : Value} {n n' : Nat} {xs xs' : List Value} (h : w.ownsRow b e s v n xs) (h' : w.ownsRow b' e' s' v' n' xs') (hne : e ≠ e') : v.ownBlock = none ∨ v.ownBlock ≠ v'.ownBlock := by
  rcases h.2 with ⟨rfl, _⟩ | ⟨g, cap, cur, rfl, _, hh, _⟩
  · exact .inl rfl
  · refine .inr fun e => ?_
    rcases h'.2 with ⟨rfl, _⟩ | ⟨g', cap', cur', rfl, _, hh', _⟩
    · cases e
    · simp only [Value.ownBlock, Option.some.injEq] at e
      subst e
      rw [hh] at hh'
      injection hh' with hh'
      injection hh' with _ ht
      exact hne ht
theorem own_lt {w : World} {b : Nat} {e : TypeId} {s : Nat} {v : Value} {n : Nat} {xs : List Value} (h : w.ownsRow b e s v n xs) {k : Nat} (hk : v.ownBlock = some k) : b ≤ k ∧ k < w.heap.size := h.lt k hk
theorem OwnRowsL.push {w0 w w' : World} {B : Nat} {v v' r : Value} {xss : List (List Int)} {xs : List Int} {rows : List Value} (h : OwnRowsL w0 B v xss rows) (hb : Below w0.heap.size w0 w) (hB : B ≤ w0.heap.size)
    (hr : w.ownsRow w0.heap.size 3 1 r xs.length (xs.map (Value.int .i64))) (hv : w'.ownsRow B 42 1 v' (xss.length + 1) (rows ++ [r])) (hg : w.grownBy w' v.ownBlock) : OwnRowsL w' B v' (xss ++ [xs]) (rows ++ [r]) := by
  have hl : rows.length = xss.length := by simpa using h.outer.1
  have hw := h.below hb
  have hrow : ∀ k, k < xss.length → rowOf (xss ++ [xs]) k = rowOf xss k := by
    intro k hk
    simp [rowOf, List.getD, List.getElem?_append_left hk]
  have hlast : rowOf (xss ++ [xs]) xss.length = xs := by simp [rowOf, List.getD]
  refine ⟨by simpa using hv, fun k q hq => ?_, fun i j q q' hij hi hj => ?_⟩
  · by_cases hk : k < rows.length
    · rw [List.getElem?_append_left hk] at hq
      rw [hrow k (by omega)]
      exact (hw.inner k q hq).kept hg (own_ne (hw.inner k q hq) hw.outer (by decide))
    · have hlt := (List.getElem?_eq_some_iff.1 hq).1
      simp only [List.length_append, List.length_singleton] at hlt
      obtain rfl : k = rows.length := by omega
      rw [List.getElem?_append_right (Nat.le_refl _)] at hq
      simp only [Nat.sub_self, List.getElem?_cons_zero, Option.some.injEq] at hq
      subst hq
      rw [hl, hlast]
      exact (own_base hr hB).kept hg (own_ne hr hw.outer (by decide))
  · have hjl := (List.getElem?_eq_some_iff.1 hj).1
    simp only [List.length_append, List.length_singleton] at hjl
    have hil : i < rows.length := by omega
    rw [List.getElem?_append_left hil] at hi
    by_cases hjl' : j < rows.length
    · rw [List.getElem?_append_left hjl'] at hj
      exact h.apart i j q q' hij hi hj
    · obtain rfl : j = rows.length := by omega
      rw [List.getElem?_append_right (Nat.le_refl _)] at hj
      simp only [Nat.sub_self, List.getElem?_cons_zero, Option.some.injEq] at hj
      subst hj
      cases e : q.ownBlock with
      | none => exact .inl rfl
      | some k =>
        refine .inr fun e' => ?_
        have h1 := own_lt (h.inner i q hi) e
        have h2 := own_lt hr e'.symm
        omega
end Go.Dw
/- A region that draws its order, whose last operations (from number n on) come up in one order behind all others: among the others, what yields in every world that meets S is taken first; S is shown anew behind each of the others; nothing is asked behind the last ones. (After the library's OrdersHeld and StillTail, whose laws these are, put together.) No program in sight. -/
namespace Go.Dw
open Go.RowKit
section
variable {P : Program} {ops : Array Oper} {Q : Exit → Act → World → Prop} {md : Region.Mode} {S : World → Prop}
def wpAnyHL (P : Program) (md : Region.Mode) (ops : Array Oper) (Q : Exit → Act → World → Prop) (S : World → Prop) (n : Nat) (L : Array Bool → Act → World → Prop) : Nat → Array Bool → Act → World → Prop
  | 0, listed, a, w => L listed a w
  | f + 1, listed, a, w =>
    Region.ready md ops listed ≠ [] ∧ ∀ i ∈ Region.ready md ops listed, i < n ∧ wpOp P ops Q i (fun a' w' => S w' ∧ wpAnyHL P md ops Q S n L f (listed.setIfInBounds i true) a' w') a w
theorem wpAny_of_headL {n g : Nat} {L : Array Bool → Act → World → Prop} (hL : ∀ listed a w, L listed a w → wpAny P md ops Q g listed a w) :
    ∀ (f : Nat) (listed : Array Bool) (a : Act) (w : World), wpAnyHL P md ops Q S n L f listed a w → wpAny P md ops Q (f + g) listed a w
  | 0, listed, a, w, h => by rw [Nat.zero_add]; exact hL _ _ _ h
  | f + 1, listed, a, w, h => by
    rw [show f + 1 + g = (f + g) + 1 by omega]
    exact ⟨fun h0 => absurd h0 h.1, fun i hi => wpOp_mono (fun a' w' h' => wpAny_of_headL hL f _ a' w' h'.2) (h.2 i hi).2⟩
theorem wpAnyHL_first {n i : Nat} {oi : Oper} {v : Value} {L : Array Bool → Act → World → Prop} (hi : ops[i]? = some oi) (hsel : ∀ (j : Nat) (o : Oper) cs b, ops[j]? = some o → o.op ≠ .select cs b)
    (hQ : ∀ c a w, Q (.panic c) (a.put oi.dst v) w → Q (.panic c) a w)
    (hs : Region.sinkB md ops n = true) (hc : Region.chainB md ops n = true) (hn : n < ops.size) (hin : i < n)
    (hdone : ∀ listed a w, L listed a w → ∀ j ∈ Region.ready md ops listed, n ≤ j) :
    ∀ (f : Nat) (listed : Array Bool) (a : Act) (w : World), HeadInv md ops n listed →
      (∀ j oj, ops[j]? = some oj → j ≠ i → listed.getD j true = false → (∀ e ∈ oj.after, Region.binds md e = true → e.on ≠ i) → oi.apart ops oj = true) →
      i ∈ Region.ready md ops listed → YieldsIf P ops S oi v a → S w →
      wpAnyHL P md ops Q S n L f (listed.setIfInBounds i true) (a.put oi.dst v) w → wpAnyHL P md ops Q S n L (f + 1) listed a w := by
  intro f
  induction f with
  | zero =>
    intro listed a w inv _ hr hy hS H
    have hun := (mem_ready.1 hr).1
    refine ⟨fun h => (by rw [h] at hr; cases hr), fun j hj => ?_⟩
    have hjn : j < n := by
      rcases Nat.lt_or_ge j n with h | h
      · exact h
      · exact absurd hj (tail_waits hs hc hn inv _ i rfl hin hun j h)
    refine ⟨hjn, ?_⟩
    by_cases hji : j = i
    · subst hji; exact hy.wpOp hi hS ⟨hS, H⟩
    · have := hdone _ _ _ H j (ready_mono hj hji)
      omega
  | succ f ih =>
    intro listed a w inv hfree hr hy hS H
    have hun := (mem_ready.1 hr).1
    refine ⟨fun h => (by rw [h] at hr; cases hr), fun j hj => ?_⟩
    have hjn : j < n := by
      rcases Nat.lt_or_ge j n with h | h
      · exact h
      · exact absurd hj (tail_waits hs hc hn inv _ i rfl hin hun j h)
    refine ⟨hjn, ?_⟩
    by_cases hji : j = i
    · subst hji; exact hy.wpOp hi hS ⟨hS, H⟩
    · have h1 := (H.2 j (ready_mono hj hji)).2
      obtain ⟨hjun, oj, hoj, hall⟩ := mem_ready.1 hj
      have hnot : ∀ e ∈ oj.after, Region.binds md e = true → e.on ≠ i := fun e he hb heq => by
        have h1 := hall e he hb
        rw [heq, getD_both hun] at h1
        cases h1
      have h2 := wpOp_putIf hoj (hfree j oj hoj hji hjun hnot) (fun cs b => hsel i oi cs b hi) (fun cs b => hsel j oj cs b hoj) hQ hy h1
      have hfree' : ∀ k ok, ops[k]? = some ok → k ≠ i → (listed.setIfInBounds j true).getD k true = false →
          (∀ e ∈ ok.after, Region.binds md e = true → e.on ≠ i) → oi.apart ops ok = true := fun k ok hk hki hun hno => by
        refine hfree k ok hk hki ?_ hno
        by_cases hjk : j = k
        · subst hjk; exact hjun
        · rw [getD_set_ne true hjk] at hun; exact hun
      refine wpOp_mono (fun a' w' h3 => ⟨h3.2.1, ih (listed.setIfInBounds j true) a' w' (inv.set hj hjn) hfree' (ready_mono hr (Ne.symm hji)) h3.1 h3.2.1 ?_⟩) h2
      rw [Array.setIfInBounds_comm _ _ hji]
      exact h3.2.2
def Tail (P : Program) (md : Region.Mode) (ops : Array Oper) (Q : Exit → Act → World → Prop) (n g : Nat) (tail : List Oper) (listed : Array Bool) (a : Act) (w : World) : Prop :=
  Region.seqB md ops g n listed = true ∧ wpList P ops Q tail a w
def HL (P : Program) (ops : Array Oper) (Q : Exit → Act → World → Prop) (S : World → Prop) (n g : Nat) (tail : List Oper) (f : Nat) (listed : Array Bool) (a : Act) (w : World) : Prop :=
  (Region.noSelect ops = true ∧ Region.sinkB .any ops n = true ∧ Region.chainB .any ops n = true ∧ n < ops.size) → HeadInv .any ops n listed → wpAnyHL P .any ops Q S n (Tail P .any ops Q n g tail) f listed a w
theorem HL.take {n g f i : Nat} {tail : List Oper} {oi : Oper} {v : Value} {listed : Array Bool} {a : Act} {w : World} (hi : ops[i]? = some oi) (hf : Region.free .any ops listed i = true) (hr : (Region.ready .any ops listed).contains i = true) (hin : i < n)
    (hQ : ∀ c a w, Q (.panic c) (a.put oi.dst v) w → Q (.panic c) a w) (hy : YieldsIf P ops S oi v a) (hS : S w)
    (h : HL P ops Q S n g tail f (listed.setIfInBounds i true) (a.put oi.dst v) w) : HL P ops Q S n g tail (f + 1) listed a w := fun hb inv =>
  wpAnyHL_first hi (Region.noSelect_spec hb.1) hQ hb.2.1 hb.2.2.1 hb.2.2.2 hin (fun _ _ _ hL => seqB_ready hL.1) f listed a w inv (Region.free_spec hi hf) (by simpa using hr) hy hS (h hb (inv.set (by simpa using hr) hin))
theorem HL.one {n g f i : Nat} {tail : List Oper} {o : Oper} {listed : Array Bool} {a : Act} {w : World} (hi : ops[i]? = some o) (hr : Region.ready .any ops listed = [i]) (hin : i < n) (hw : Region.wanted o (yielded ops a.tmps) = true)
    (h : ∀ K : Act → World → Prop, Hid (∀ a w, S w → HL P ops Q S n g tail f (listed.setIfInBounds i true) a w → K a w) → o.wp P a w K Q) : HL P ops Q S n g tail (f + 1) listed a w := fun hb inv => by
  refine ⟨by rw [hr]; simp, fun j hj => ?_⟩
  have hij : j = i := by rw [hr] at hj; simpa using hj
  subst hij
  refine ⟨hin, ?_⟩
  unfold wpOp
  simp only [hi, hw, if_true]
  exact .inl (h _ (fun a' w' hS hH => ⟨hS, hH hb (inv.set (by rw [hr]; simp) hin)⟩))
theorem HL.done {n g : Nat} {tail : List Oper} {listed : Array Bool} {a : Act} {w : World} (hs : Region.seqB .any ops g n listed = true) (h : wpList P ops Q tail a w) : HL P ops Q S n g tail 0 listed a w := fun _ _ => ⟨hs, h⟩
def headB (ops : Array Oper) (n : Nat) : Bool := Region.noSelect ops && Region.sinkB .any ops n && Region.chainB .any ops n && decide (n < ops.size)
theorem wp_region_head {id : Nat} {a : Act} {w : World} {l : List Oper} (n : Nat) (S : World → Prop) (hm : P.follows .mixedOrders = true) (hB : headB l.toArray n = true)
    (h : HL P l.toArray Q S n (l.length - n) (l.drop n) n (Array.replicate l.length false) a w.drew) : (Code.region id l.toArray true).wp P Q a w := by
  simp only [headB, Bool.and_eq_true, decide_eq_true_eq] at hB
  obtain ⟨⟨⟨hsel, hs⟩, hc⟩, hn⟩ := hB
  have hn' : n < l.length := by simpa using hn
  have inv0 : HeadInv .any l.toArray n (Array.replicate l.length false) :=
    ⟨by simp, fun j oj _ hl => (by rw [getD_replicate_false] at hl; cases hl), fun t _ ht => getD_in (by simpa using ht) (getD_replicate_false _ _)⟩
  have H := h ⟨hsel, hs, hc, hn⟩ inv0
  refine wp_region_any hm ?_
  have := wpAny_of_headL (Q := Q) (g := l.length - n) (fun listed a' w' hL => by
    have := wpAny_of_seq (md := .any) (Q' := Q) (l.drop n) n listed a' w' (fun j => by simp [List.getElem?_drop]) (by simpa using hL.1) hL.2
    simpa using this) _ _ _ _ H
  rw [show n + (l.length - n) = l.toArray.size by simp; omega] at this
  exact this
end
end Go.Dw
/- A region that draws its order, whose last operations (from number n on) wait for all loads among the first n, but not for what looks at no memory: what yields in every world is taken first at any time, what yields in a world that meets S is taken first where the last operations wait for it. (After the library's Orders and OrdersHeld.) No program in sight. -/
namespace Go.Dw
open Go.RowKit
section
variable {P : Program} {ops : Array Oper} {Q : Exit → Act → World → Prop} {md : Region.Mode} {S : World → Prop}
def wpAnyT (P : Program) (md : Region.Mode) (ops : Array Oper) (Q : Exit → Act → World → Prop) (S : World → Prop) (n : Nat) : Nat → Array Bool → Act → World → Prop
  | 0, listed, a, w => wpAny P md ops Q 0 listed a w
  | f + 1, listed, a, w =>
    (Region.ready md ops listed = [] → Q .normal a w) ∧
    ∀ i ∈ Region.ready md ops listed, (i < n → wpOp P ops Q i (fun a' w' => S w' ∧ wpAnyT P md ops Q S n f (listed.setIfInBounds i true) a' w') a w) ∧ (n ≤ i → wpOp P ops Q i (wpAny P md ops Q f (listed.setIfInBounds i true)) a w)
theorem wpAnyT_any {n : Nat} : ∀ {f : Nat} {listed : Array Bool} {a : Act} {w : World}, wpAnyT P md ops Q S n f listed a w → wpAny P md ops Q f listed a w
  | 0, _, _, _, h => h
  | f + 1, listed, a, w, h => ⟨h.1, fun i hi => by
    rcases Nat.lt_or_ge i n with hin | hin
    · exact wpOp_mono (fun a' w' h' => wpAnyT_any h'.2) ((h.2 i hi).1 hin)
    · exact (h.2 i hi).2 hin⟩
theorem wpAnyT_of_any {n : Nat} : ∀ {f : Nat} {listed : Array Bool} {a : Act} {w : World}, (∀ j ∈ Region.ready md ops listed, n ≤ j) → wpAny P md ops Q f listed a w → wpAnyT P md ops Q S n f listed a w
  | 0, _, _, _, _, h => h
  | f + 1, listed, a, w, hr, h => ⟨h.1, fun i hi => ⟨fun hin => by have := hr i hi; omega, fun _ => h.2 i hi⟩⟩
def waitsB (md : Region.Mode) (ops : Array Oper) (n i : Nat) : Bool :=
  (List.range ops.size).all fun j => decide (j < n) || (match ops[j]? with | none => true | some o => o.after.toList.any fun e => Region.binds md e && e.on == i)
theorem waitsB_spec {n i : Nat} (h : waitsB md ops n i = true) {listed : Array Bool} {j : Nat} (hj : j ∈ Region.ready md ops listed) (hn : n ≤ j) : listed.getD i false = true := by
  obtain ⟨_, o, ho, hall⟩ := mem_ready.1 hj
  have hlt : j < ops.size := (Array.getElem?_eq_some_iff.1 ho).1
  have h1 := List.all_eq_true.1 h j (List.mem_range.2 hlt)
  rw [ho] at h1
  simp only [Bool.or_eq_true, decide_eq_true_eq, List.any_eq_true, Bool.and_eq_true, beq_iff_eq] at h1
  rcases h1 with h1 | ⟨e, he, hb, hon⟩
  · omega
  · rw [← hon]; exact hall e (by simpa using he) hb
theorem wpAnyT_first {n i : Nat} {oi : Oper} {v : Value} (hi : ops[i]? = some oi) (hsel : ∀ (j : Nat) (o : Oper) cs b, ops[j]? = some o → o.op ≠ .select cs b)
    (hQ : ∀ c a w, Q (.panic c) (a.put oi.dst v) w → Q (.panic c) a w) (hin : i < n) :
    ∀ (f : Nat) (listed : Array Bool) (a : Act) (w : World),
      (∀ j oj, ops[j]? = some oj → j ≠ i → listed.getD j true = false → (∀ e ∈ oj.after, Region.binds md e = true → e.on ≠ i) → oi.apart ops oj = true) →
      i ∈ Region.ready md ops listed → (Yields P ops oi v a ∨ (YieldsIf P ops S oi v a ∧ waitsB md ops n i = true)) → S w →
      wpAnyT P md ops Q S n f (listed.setIfInBounds i true) (a.put oi.dst v) w → wpAnyT P md ops Q S n (f + 1) listed a w := by
  intro f
  induction f with
  | zero =>
    intro listed a w _ hr hy hS H
    have hyI : YieldsIf P ops S oi v a := by rcases hy with h | h; exact h.yieldsIf; exact h.1
    refine ⟨fun h => (by rw [h] at hr; cases hr), fun j hj => ?_⟩
    by_cases hji : j = i
    · subst hji; exact ⟨fun _ => hyI.wpOp hi hS ⟨hS, H⟩, fun h => by omega⟩
    · have h1 := ready_mono hj hji
      rw [H.1] at h1; cases h1
  | succ f ih =>
    intro listed a w hfree hr hy hS H
    have hyI : YieldsIf P ops S oi v a := by rcases hy with h | h; exact h.yieldsIf; exact h.1
    have hun := (mem_ready.1 hr).1
    refine ⟨fun h => (by rw [h] at hr; cases hr), fun j hj => ?_⟩
    by_cases hji : j = i
    · subst hji; exact ⟨fun _ => hyI.wpOp hi hS ⟨hS, H⟩, fun h => by omega⟩
    have h1 := H.2 j (ready_mono hj hji)
    obtain ⟨hjun, oj, hoj, hall⟩ := mem_ready.1 hj
    have hnot : ∀ e ∈ oj.after, Region.binds md e = true → e.on ≠ i := fun e he hb heq => by
      have h1 := hall e he hb
      rw [heq, getD_both hun] at h1
      cases h1
    have hfree' : ∀ k ok, ops[k]? = some ok → k ≠ i → (listed.setIfInBounds j true).getD k true = false →
        (∀ e ∈ ok.after, Region.binds md e = true → e.on ≠ i) → oi.apart ops ok = true := fun k ok hk hki hun hno => by
      refine hfree k ok hk hki ?_ hno
      by_cases hjk : j = k
      · subst hjk; exact hjun
      · rw [getD_set_ne true hjk] at hun; exact hun
    have hap := hfree j oj hoj hji hjun hnot
    refine ⟨fun hjn => ?_, fun hjn => ?_⟩
    · rcases hy with hy | ⟨hy, hw⟩
      · have h2 := wpOp_put hoj hap (fun cs b => hsel i oi cs b hi) (fun cs b => hsel j oj cs b hoj) hQ hy (h1.1 hjn)
        refine wpOp_mono (fun a' w' h3 => ⟨h3.2.1, ih (listed.setIfInBounds j true) a' w' hfree' (ready_mono hr (Ne.symm hji)) (.inl h3.1) h3.2.1 ?_⟩) h2
        rw [Array.setIfInBounds_comm _ _ hji]
        exact h3.2.2
      · have h2 := wpOp_putIf hoj hap (fun cs b => hsel i oi cs b hi) (fun cs b => hsel j oj cs b hoj) hQ hy (h1.1 hjn)
        refine wpOp_mono (fun a' w' h3 => ⟨h3.2.1, ih (listed.setIfInBounds j true) a' w' hfree' (ready_mono hr (Ne.symm hji)) (.inr ⟨h3.1, hw⟩) h3.2.1 ?_⟩) h2
        rw [Array.setIfInBounds_comm _ _ hji]
        exact h3.2.2
    · rcases hy with hy | ⟨_, hw⟩
      · have h2 := wpOp_put hoj hap (fun cs b => hsel i oi cs b hi) (fun cs b => hsel j oj cs b hoj) hQ hy (h1.2 hjn)
        refine wpOp_mono (fun a' w' h3 => wpAny_first hi hsel hQ f (listed.setIfInBounds j true) a' w' hfree' (ready_mono hr (Ne.symm hji)) h3.1 ?_) h2
        rw [Array.setIfInBounds_comm _ _ hji]
        exact h3.2
      · have := waitsB_spec hw hj hjn
        rw [getD_both hun] at this
        cases this
def HT (P : Program) (ops : Array Oper) (Q : Exit → Act → World → Prop) (S : World → Prop) (n f : Nat) (listed : Array Bool) (a : Act) (w : World) : Prop :=
  Region.noSelect ops = true → wpAnyT P .any ops Q S n f listed a w
theorem HT.take {n f i : Nat} {oi : Oper} {v : Value} {listed : Array Bool} {a : Act} {w : World} (hi : ops[i]? = some oi) (hf : Region.free .any ops listed i = true) (hr : (Region.ready .any ops listed).contains i = true) (hin : i < n)
    (hQ : ∀ c a w, Q (.panic c) (a.put oi.dst v) w → Q (.panic c) a w) (hy : Yields P ops oi v a) (hS : S w)
    (h : HT P ops Q S n f (listed.setIfInBounds i true) (a.put oi.dst v) w) : HT P ops Q S n (f + 1) listed a w := fun hb =>
  wpAnyT_first hi (Region.noSelect_spec hb) hQ hin f listed a w (Region.free_spec hi hf) (by simpa using hr) (.inl hy) hS (h hb)
theorem HT.load {n f i : Nat} {oi : Oper} {v : Value} {listed : Array Bool} {a : Act} {w : World} (hi : ops[i]? = some oi) (hf : Region.free .any ops listed i = true) (hr : (Region.ready .any ops listed).contains i = true) (hin : i < n)
    (hQ : ∀ c a w, Q (.panic c) (a.put oi.dst v) w → Q (.panic c) a w) (hw : waitsB .any ops n i = true) (hy : YieldsIf P ops S oi v a) (hS : S w)
    (h : HT P ops Q S n f (listed.setIfInBounds i true) (a.put oi.dst v) w) : HT P ops Q S n (f + 1) listed a w := fun hb =>
  wpAnyT_first hi (Region.noSelect_spec hb) hQ hin f listed a w (Region.free_spec hi hf) (by simpa using hr) (.inr ⟨hy, hw⟩) hS (h hb)
theorem HT.one {n f i : Nat} {o : Oper} {listed : Array Bool} {a : Act} {w : World} (hi : ops[i]? = some o) (hr : Region.ready .any ops listed = [i]) (hin : i < n) (hw : Region.wanted o (yielded ops a.tmps) = true)
    (h : ∀ K : Act → World → Prop, Hid (∀ a w, S w → HT P ops Q S n f (listed.setIfInBounds i true) a w → K a w) → o.wp P a w K Q) : HT P ops Q S n (f + 1) listed a w := fun hb => by
  refine ⟨fun h0 => (by rw [hr] at h0; cases h0), fun j hj => ?_⟩
  have hij : j = i := by rw [hr] at hj; simpa using hj
  subst hij
  refine ⟨fun _ => ?_, fun h => by omega⟩
  unfold wpOp
  simp only [hi, hw, if_true]
  exact .inl (h _ (fun a' w' hS hH => ⟨hS, hH hb⟩))
theorem HT.done {n : Nat} {l : List Oper} {listed : Array Bool} {a : Act} {w : World} (hs : Region.seqB .any l.toArray (l.length - n) n listed = true) (h : wpList P l.toArray Q (l.drop n) a w) : HT P l.toArray Q S n (l.length - n) listed a w := fun _ => by
  refine wpAnyT_of_any (fun j hj => seqB_ready hs j hj) ?_
  have := wpAny_of_seq (md := .any) (Q' := Q) (l.drop n) n listed a w (fun j => by simp [List.getElem?_drop]) (by simpa using hs) h
  simpa using this
theorem wp_region_text {id : Nat} {a : Act} {w : World} {l : List Oper} (n : Nat) (S : World → Prop) (hm : P.follows .mixedOrders = true) (hB : Region.noSelect l.toArray = true)
    (h : HT P l.toArray Q S n l.length (Array.replicate l.length false) a w.drew) : (Code.region id l.toArray true).wp P Q a w := by
  refine wp_region_any hm ?_
  have := wpAnyT_any (h hB)
  simpa using this
end
end Go.Dw
