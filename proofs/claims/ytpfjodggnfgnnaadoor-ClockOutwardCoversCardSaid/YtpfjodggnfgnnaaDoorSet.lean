/- Join, Meet, Without and Length, of both sides. -/
import Derived.Test.YtpfjodggnfgnnaaDoorSwp
import Derived.Test.YtpfjodggnfgnnaaDoorZe
import Derived.Test.YtpfjodggnfgnnaaDoorZe
import Derived.Test.YtpfjodggnfgnnaaDoorZf
import Derived.Test.YtpfjodggnfgnnaaDoorZf
set_option linter.unusedSimpArgs false
set_option linter.unusedVariables false
namespace Go.Proofs.YtpfjodggnfgnnaaDoor
open Go.RowKit Go.Dw
set_option maxRecDepth 100000 in
set_option maxHeartbeats 4000000 in
theorem COMBINE_or (A A' : Option Addr) (n c m0 d : Nat) (a b : List Pr) (w : World) (B : Nat) (hB : B ≤ w.heap.size) (ha : Hid (PrsAt w B A n a)) (hb : Hid (PrsAt w B A' m0 b)) :
    Calls Tryd.prog 34 #[.slice A n c, .slice A' m0 d, .func (.func 35) #[] #[]] w (OutT2 29 w (setS (fun x y => or x y) a b)) := by
  have hla := Lib.hid ha.out.1
  have hlb := Lib.hid hb.out.1
  obtain ⟨x1, hx1⟩ : ∃ x, chkSp a = x := ⟨_, rfl⟩
  obtain ⟨x2, hx2⟩ : ∃ x, chkSp b = x := ⟨_, rfl⟩
  have HX1 := Lib.hid hx1
  have HX2 := Lib.hid hx2
  clear hx1 hx2
  by_cases h1 : x1 = 0
  rotate_left
  · have hq : ((x1 : Int) != 0) = true := by simpa using h1
    have HV : Hid (setS (fun x y => or x y) a b = ([], x1)) := by show _ = _; unfold setS; rw [HX1.out, if_pos h1]
    go_enter Tryd.func34, Tryd.ntmps34
    go_wp2_with (go_at_call 11; refine (CCHECKSPANS_any A n c a _ B hB ha).mono ?_; rintro e w1 ⟨rfl, hb1⟩; rw [HX1.out])
    refine bodyPost_ret (v := .tuple #[.slice none 0 0, .int .i64 x1]) (by simp [results, Tryd.results34, go_sem]) rfl ?_
    unfold OutT2
    rw [HV.out]
    exact ⟨_, rfl, OwnPrs.nil _ _ _, hb1⟩
  subst h1
  go_enter Tryd.func34, Tryd.ntmps34
  go_upto_region 4 with (go_at_call 11; refine (CCHECKSPANS_any A n c a _ B hB ha).mono ?_; rintro e w1 ⟨rfl, hb1⟩; rw [HX1.out])
  have hb1s := hb1.size
  have HB1 := Lib.hid hb1
  have hbw1 : Hid (PrsAt w1 B A' m0 b) := hb.out.below hb1 hB
  have haw1 : Hid (PrsAt w1 B A n a) := ha.out.below hb1 hB
  have hBw1 : B ≤ w1.heap.size := by omega
  clear hb1
  by_cases h2 : x2 = 0
  rotate_left
  · have hq : ((x2 : Int) != 0) = true := by simpa using h2
    have HV : Hid (setS (fun x y => or x y) a b = ([], x2)) := by show _ = _; unfold setS; rw [HX1.out, HX2.out, if_neg (by simp), if_pos h2]
    go_wp2_with (go_at_call 11; refine (CCHECKSPANS_any A' m0 d b _ B hBw1 hbw1).mono ?_; rintro e w2 ⟨rfl, hb2⟩; rw [HX2.out])
    refine bodyPost_ret (v := .tuple #[.slice none 0 0, .int .i64 x2]) (by simp [results, Tryd.results34, go_sem]) rfl ?_
    unfold OutT2
    rw [HV.out]
    exact ⟨_, rfl, OwnPrs.nil _ _ _, HB1.out.trans (hb2.mono hb1s)⟩
  subst h2
  go_upto_region 7 with (go_at_call 11; refine (CCHECKSPANS_any A' m0 d b _ B hBw1 hbw1).mono ?_; rintro e w2 ⟨rfl, hb2⟩; rw [HX2.out])
  have hb2s := hb2.size
  have HB2 := Lib.hid (HB1.out.trans (hb2.mono hb1s))
  have hbw2 : Hid (PrsAt w2 B A' m0 b) := hbw1.out.below hb2 hBw1
  have haw2 : Hid (PrsAt w2 B A n a) := haw1.out.below hb2 hBw1
  have hBw2 : B ≤ w2.heap.size := by omega
  obtain ⟨ca, na, _⟩ := chkSp_canon HX1.out
  obtain ⟨cb, nb, _⟩ := chkSp_canon HX2.out
  have HCA := Lib.hid ca
  have HCB := Lib.hid cb
  have hna : n ≤ 1000 := by rw [← hla.out]; exact na
  have hnb : m0 ≤ 1000 := by rw [← hlb.out]; exact nb
  clear hb2 ca cb na nb haw1 hbw1 hBw1
  go_upto_region 8 with (go_at_call 72; refine (SWEEP_or A A' n c m0 d a b _ B hBw2 hna hnb HCA HCB haw2 hbw2).mono ?_; rintro e w3 ⟨vE, rfl, hE, hb3⟩)
  have HB3 := Lib.hid (HB2.out.trans (hb3.mono (by omega)))
  have HE : Hid (OwnPrs 29 w3 w.heap.size vE (sweepS (fun x y => or x y) a b)) := hE.base (by omega)
  obtain ⟨AE, cE, rfl, hcE, hcE2⟩ := hE.len
  obtain ⟨q, hq9⟩ : ∃ q, (sweepS (fun x y => or x y) a b).length = q := ⟨_, rfl⟩
  rw [hq9] at HE ⊢
  have HQ := Lib.hid hq9
  clear hb3 hE hq9 hcE
  by_cases hq : 1000 < q
  · have HV : Hid (setS (fun x y => or x y) a b = ([], 2)) := by show _ = _; unfold setS; rw [HX1.out, HX2.out, if_neg (by simp), if_neg (by simp), if_pos (by rw [HQ.out]; exact hq)]
    have hd : decide ((1000 : Int) < (q : Int)) = true := by simp; omega
    go_wp2_with fail
    refine bodyPost_ret (v := .tuple #[.slice none 0 0, .int .i64 2]) (by simp [results, Tryd.results34, go_sem]) rfl ?_
    unfold OutT2
    rw [HV.out]
    exact ⟨_, rfl, OwnPrs.nil _ _ _, HB3.out⟩
  · have HV : Hid (setS (fun x y => or x y) a b = (sweepS (fun x y => or x y) a b, 0)) := by show _ = _; unfold setS; rw [HX1.out, HX2.out, if_neg (by simp), if_neg (by simp), if_neg (by rw [HQ.out]; exact hq)]
    have hd : decide ((1000 : Int) < (q : Int)) = false := by simp; omega
    go_wp2_with fail
    refine bodyPost_ret (v := .tuple #[.slice AE q cE, .int .i64 0]) (by simp [results, Tryd.results34, go_sem]) rfl ?_
    unfold OutT2
    rw [HV.out]
    exact ⟨_, rfl, HE.out, HB3.out⟩
set_option maxRecDepth 100000 in
set_option maxHeartbeats 4000000 in
theorem COMBINE_and (A A' : Option Addr) (n c m0 d : Nat) (a b : List Pr) (w : World) (B : Nat) (hB : B ≤ w.heap.size) (ha : Hid (PrsAt w B A n a)) (hb : Hid (PrsAt w B A' m0 b)) :
    Calls Tryd.prog 34 #[.slice A n c, .slice A' m0 d, .func (.func 39) #[] #[]] w (OutT2 29 w (setS (fun x y => and x y) a b)) := by
  have hla := Lib.hid ha.out.1
  have hlb := Lib.hid hb.out.1
  obtain ⟨x1, hx1⟩ : ∃ x, chkSp a = x := ⟨_, rfl⟩
  obtain ⟨x2, hx2⟩ : ∃ x, chkSp b = x := ⟨_, rfl⟩
  have HX1 := Lib.hid hx1
  have HX2 := Lib.hid hx2
  clear hx1 hx2
  by_cases h1 : x1 = 0
  rotate_left
  · have hq : ((x1 : Int) != 0) = true := by simpa using h1
    have HV : Hid (setS (fun x y => and x y) a b = ([], x1)) := by show _ = _; unfold setS; rw [HX1.out, if_pos h1]
    go_enter Tryd.func34, Tryd.ntmps34
    go_wp2_with (go_at_call 11; refine (CCHECKSPANS_any A n c a _ B hB ha).mono ?_; rintro e w1 ⟨rfl, hb1⟩; rw [HX1.out])
    refine bodyPost_ret (v := .tuple #[.slice none 0 0, .int .i64 x1]) (by simp [results, Tryd.results34, go_sem]) rfl ?_
    unfold OutT2
    rw [HV.out]
    exact ⟨_, rfl, OwnPrs.nil _ _ _, hb1⟩
  subst h1
  go_enter Tryd.func34, Tryd.ntmps34
  go_upto_region 4 with (go_at_call 11; refine (CCHECKSPANS_any A n c a _ B hB ha).mono ?_; rintro e w1 ⟨rfl, hb1⟩; rw [HX1.out])
  have hb1s := hb1.size
  have HB1 := Lib.hid hb1
  have hbw1 : Hid (PrsAt w1 B A' m0 b) := hb.out.below hb1 hB
  have haw1 : Hid (PrsAt w1 B A n a) := ha.out.below hb1 hB
  have hBw1 : B ≤ w1.heap.size := by omega
  clear hb1
  by_cases h2 : x2 = 0
  rotate_left
  · have hq : ((x2 : Int) != 0) = true := by simpa using h2
    have HV : Hid (setS (fun x y => and x y) a b = ([], x2)) := by show _ = _; unfold setS; rw [HX1.out, HX2.out, if_neg (by simp), if_pos h2]
    go_wp2_with (go_at_call 11; refine (CCHECKSPANS_any A' m0 d b _ B hBw1 hbw1).mono ?_; rintro e w2 ⟨rfl, hb2⟩; rw [HX2.out])
    refine bodyPost_ret (v := .tuple #[.slice none 0 0, .int .i64 x2]) (by simp [results, Tryd.results34, go_sem]) rfl ?_
    unfold OutT2
    rw [HV.out]
    exact ⟨_, rfl, OwnPrs.nil _ _ _, HB1.out.trans (hb2.mono hb1s)⟩
  subst h2
  go_upto_region 7 with (go_at_call 11; refine (CCHECKSPANS_any A' m0 d b _ B hBw1 hbw1).mono ?_; rintro e w2 ⟨rfl, hb2⟩; rw [HX2.out])
  have hb2s := hb2.size
  have HB2 := Lib.hid (HB1.out.trans (hb2.mono hb1s))
  have hbw2 : Hid (PrsAt w2 B A' m0 b) := hbw1.out.below hb2 hBw1
  have haw2 : Hid (PrsAt w2 B A n a) := haw1.out.below hb2 hBw1
  have hBw2 : B ≤ w2.heap.size := by omega
  obtain ⟨ca, na, _⟩ := chkSp_canon HX1.out
  obtain ⟨cb, nb, _⟩ := chkSp_canon HX2.out
  have HCA := Lib.hid ca
  have HCB := Lib.hid cb
  have hna : n ≤ 1000 := by rw [← hla.out]; exact na
  have hnb : m0 ≤ 1000 := by rw [← hlb.out]; exact nb
  clear hb2 ca cb na nb haw1 hbw1 hBw1
  go_upto_region 8 with (go_at_call 72; refine (SWEEP_and A A' n c m0 d a b _ B hBw2 hna hnb HCA HCB haw2 hbw2).mono ?_; rintro e w3 ⟨vE, rfl, hE, hb3⟩)
  have HB3 := Lib.hid (HB2.out.trans (hb3.mono (by omega)))
  have HE : Hid (OwnPrs 29 w3 w.heap.size vE (sweepS (fun x y => and x y) a b)) := hE.base (by omega)
  obtain ⟨AE, cE, rfl, hcE, hcE2⟩ := hE.len
  obtain ⟨q, hq9⟩ : ∃ q, (sweepS (fun x y => and x y) a b).length = q := ⟨_, rfl⟩
  rw [hq9] at HE ⊢
  have HQ := Lib.hid hq9
  clear hb3 hE hq9 hcE
  by_cases hq : 1000 < q
  · have HV : Hid (setS (fun x y => and x y) a b = ([], 2)) := by show _ = _; unfold setS; rw [HX1.out, HX2.out, if_neg (by simp), if_neg (by simp), if_pos (by rw [HQ.out]; exact hq)]
    have hd : decide ((1000 : Int) < (q : Int)) = true := by simp; omega
    go_wp2_with fail
    refine bodyPost_ret (v := .tuple #[.slice none 0 0, .int .i64 2]) (by simp [results, Tryd.results34, go_sem]) rfl ?_
    unfold OutT2
    rw [HV.out]
    exact ⟨_, rfl, OwnPrs.nil _ _ _, HB3.out⟩
  · have HV : Hid (setS (fun x y => and x y) a b = (sweepS (fun x y => and x y) a b, 0)) := by show _ = _; unfold setS; rw [HX1.out, HX2.out, if_neg (by simp), if_neg (by simp), if_neg (by rw [HQ.out]; exact hq)]
    have hd : decide ((1000 : Int) < (q : Int)) = false := by simp; omega
    go_wp2_with fail
    refine bodyPost_ret (v := .tuple #[.slice AE q cE, .int .i64 0]) (by simp [results, Tryd.results34, go_sem]) rfl ?_
    unfold OutT2
    rw [HV.out]
    exact ⟨_, rfl, HE.out, HB3.out⟩
set_option maxRecDepth 100000 in
set_option maxHeartbeats 4000000 in
theorem COMBINE_minus (A A' : Option Addr) (n c m0 d : Nat) (a b : List Pr) (w : World) (B : Nat) (hB : B ≤ w.heap.size) (ha : Hid (PrsAt w B A n a)) (hb : Hid (PrsAt w B A' m0 b)) :
    Calls Tryd.prog 34 #[.slice A n c, .slice A' m0 d, .func (.func 40) #[] #[]] w (OutT2 29 w (setS (fun x y => and x (not y)) a b)) := by
  have hla := Lib.hid ha.out.1
  have hlb := Lib.hid hb.out.1
  obtain ⟨x1, hx1⟩ : ∃ x, chkSp a = x := ⟨_, rfl⟩
  obtain ⟨x2, hx2⟩ : ∃ x, chkSp b = x := ⟨_, rfl⟩
  have HX1 := Lib.hid hx1
  have HX2 := Lib.hid hx2
  clear hx1 hx2
  by_cases h1 : x1 = 0
  rotate_left
  · have hq : ((x1 : Int) != 0) = true := by simpa using h1
    have HV : Hid (setS (fun x y => and x (not y)) a b = ([], x1)) := by show _ = _; unfold setS; rw [HX1.out, if_pos h1]
    go_enter Tryd.func34, Tryd.ntmps34
    go_wp2_with (go_at_call 11; refine (CCHECKSPANS_any A n c a _ B hB ha).mono ?_; rintro e w1 ⟨rfl, hb1⟩; rw [HX1.out])
    refine bodyPost_ret (v := .tuple #[.slice none 0 0, .int .i64 x1]) (by simp [results, Tryd.results34, go_sem]) rfl ?_
    unfold OutT2
    rw [HV.out]
    exact ⟨_, rfl, OwnPrs.nil _ _ _, hb1⟩
  subst h1
  go_enter Tryd.func34, Tryd.ntmps34
  go_upto_region 4 with (go_at_call 11; refine (CCHECKSPANS_any A n c a _ B hB ha).mono ?_; rintro e w1 ⟨rfl, hb1⟩; rw [HX1.out])
  have hb1s := hb1.size
  have HB1 := Lib.hid hb1
  have hbw1 : Hid (PrsAt w1 B A' m0 b) := hb.out.below hb1 hB
  have haw1 : Hid (PrsAt w1 B A n a) := ha.out.below hb1 hB
  have hBw1 : B ≤ w1.heap.size := by omega
  clear hb1
  by_cases h2 : x2 = 0
  rotate_left
  · have hq : ((x2 : Int) != 0) = true := by simpa using h2
    have HV : Hid (setS (fun x y => and x (not y)) a b = ([], x2)) := by show _ = _; unfold setS; rw [HX1.out, HX2.out, if_neg (by simp), if_pos h2]
    go_wp2_with (go_at_call 11; refine (CCHECKSPANS_any A' m0 d b _ B hBw1 hbw1).mono ?_; rintro e w2 ⟨rfl, hb2⟩; rw [HX2.out])
    refine bodyPost_ret (v := .tuple #[.slice none 0 0, .int .i64 x2]) (by simp [results, Tryd.results34, go_sem]) rfl ?_
    unfold OutT2
    rw [HV.out]
    exact ⟨_, rfl, OwnPrs.nil _ _ _, HB1.out.trans (hb2.mono hb1s)⟩
  subst h2
  go_upto_region 7 with (go_at_call 11; refine (CCHECKSPANS_any A' m0 d b _ B hBw1 hbw1).mono ?_; rintro e w2 ⟨rfl, hb2⟩; rw [HX2.out])
  have hb2s := hb2.size
  have HB2 := Lib.hid (HB1.out.trans (hb2.mono hb1s))
  have hbw2 : Hid (PrsAt w2 B A' m0 b) := hbw1.out.below hb2 hBw1
  have haw2 : Hid (PrsAt w2 B A n a) := haw1.out.below hb2 hBw1
  have hBw2 : B ≤ w2.heap.size := by omega
  obtain ⟨ca, na, _⟩ := chkSp_canon HX1.out
  obtain ⟨cb, nb, _⟩ := chkSp_canon HX2.out
  have HCA := Lib.hid ca
  have HCB := Lib.hid cb
  have hna : n ≤ 1000 := by rw [← hla.out]; exact na
  have hnb : m0 ≤ 1000 := by rw [← hlb.out]; exact nb
  clear hb2 ca cb na nb haw1 hbw1 hBw1
  go_upto_region 8 with (go_at_call 72; refine (SWEEP_minus A A' n c m0 d a b _ B hBw2 hna hnb HCA HCB haw2 hbw2).mono ?_; rintro e w3 ⟨vE, rfl, hE, hb3⟩)
  have HB3 := Lib.hid (HB2.out.trans (hb3.mono (by omega)))
  have HE : Hid (OwnPrs 29 w3 w.heap.size vE (sweepS (fun x y => and x (not y)) a b)) := hE.base (by omega)
  obtain ⟨AE, cE, rfl, hcE, hcE2⟩ := hE.len
  obtain ⟨q, hq9⟩ : ∃ q, (sweepS (fun x y => and x (not y)) a b).length = q := ⟨_, rfl⟩
  rw [hq9] at HE ⊢
  have HQ := Lib.hid hq9
  clear hb3 hE hq9 hcE
  by_cases hq : 1000 < q
  · have HV : Hid (setS (fun x y => and x (not y)) a b = ([], 2)) := by show _ = _; unfold setS; rw [HX1.out, HX2.out, if_neg (by simp), if_neg (by simp), if_pos (by rw [HQ.out]; exact hq)]
    have hd : decide ((1000 : Int) < (q : Int)) = true := by simp; omega
    go_wp2_with fail
    refine bodyPost_ret (v := .tuple #[.slice none 0 0, .int .i64 2]) (by simp [results, Tryd.results34, go_sem]) rfl ?_
    unfold OutT2
    rw [HV.out]
    exact ⟨_, rfl, OwnPrs.nil _ _ _, HB3.out⟩
  · have HV : Hid (setS (fun x y => and x (not y)) a b = (sweepS (fun x y => and x (not y)) a b, 0)) := by show _ = _; unfold setS; rw [HX1.out, HX2.out, if_neg (by simp), if_neg (by simp), if_neg (by rw [HQ.out]; exact hq)]
    have hd : decide ((1000 : Int) < (q : Int)) = false := by simp; omega
    go_wp2_with fail
    refine bodyPost_ret (v := .tuple #[.slice AE q cE, .int .i64 0]) (by simp [results, Tryd.results34, go_sem]) rfl ?_
    unfold OutT2
    rw [HV.out]
    exact ⟨_, rfl, HE.out, HB3.out⟩
set_option maxHeartbeats 1000000 in
theorem CJOIN_any (A A' : Option Addr) (n c m0 d : Nat) (a b : List Pr) (w : World) (B : Nat) (hB : B ≤ w.heap.size) (ha : Hid (PrsAt w B A n a)) (hb : Hid (PrsAt w B A' m0 b)) :
    Calls Tryd.prog 9 #[.slice A n c, .slice A' m0 d] w (OutT2 29 w (setS (fun x y => or x y) a b)) := by
  obtain ⟨⟨r, f⟩, hr⟩ : ∃ z, setS (fun x y => or x y) a b = z := ⟨_, rfl⟩
  have HR := Lib.hid hr
  rw [hr]
  clear hr
  go_enter Tryd.func9, Tryd.ntmps9
  go_wp2_with (go_at_call 34; refine (COMBINE_or A A' n c m0 d a b _ B hB ha hb).mono ?_; rw [HR.out]; rintro e w1 ⟨v1, rfl, ho1, hb1⟩)
  refine bodyPost_ret (v := .tuple #[v1, .int .i64 f]) (by simp [results, Tryd.results9, go_sem]) rfl ?_
  exact ⟨_, rfl, ho1, hb1⟩
set_option maxHeartbeats 1000000 in
theorem CMEET_any (A A' : Option Addr) (n c m0 d : Nat) (a b : List Pr) (w : World) (B : Nat) (hB : B ≤ w.heap.size) (ha : Hid (PrsAt w B A n a)) (hb : Hid (PrsAt w B A' m0 b)) :
    Calls Tryd.prog 14 #[.slice A n c, .slice A' m0 d] w (OutT2 29 w (setS (fun x y => and x y) a b)) := by
  obtain ⟨⟨r, f⟩, hr⟩ : ∃ z, setS (fun x y => and x y) a b = z := ⟨_, rfl⟩
  have HR := Lib.hid hr
  rw [hr]
  clear hr
  go_enter Tryd.func14, Tryd.ntmps14
  go_wp2_with (go_at_call 34; refine (COMBINE_and A A' n c m0 d a b _ B hB ha hb).mono ?_; rw [HR.out]; rintro e w1 ⟨v1, rfl, ho1, hb1⟩)
  refine bodyPost_ret (v := .tuple #[v1, .int .i64 f]) (by simp [results, Tryd.results14, go_sem]) rfl ?_
  exact ⟨_, rfl, ho1, hb1⟩
set_option maxHeartbeats 1000000 in
theorem CWITHOUT_any (A A' : Option Addr) (n c m0 d : Nat) (a b : List Pr) (w : World) (B : Nat) (hB : B ≤ w.heap.size) (ha : Hid (PrsAt w B A n a)) (hb : Hid (PrsAt w B A' m0 b)) :
    Calls Tryd.prog 16 #[.slice A n c, .slice A' m0 d] w (OutT2 29 w (setS (fun x y => and x (not y)) a b)) := by
  obtain ⟨⟨r, f⟩, hr⟩ : ∃ z, setS (fun x y => and x (not y)) a b = z := ⟨_, rfl⟩
  have HR := Lib.hid hr
  rw [hr]
  clear hr
  go_enter Tryd.func16, Tryd.ntmps16
  go_wp2_with (go_at_call 34; refine (COMBINE_minus A A' n c m0 d a b _ B hB ha hb).mono ?_; rw [HR.out]; rintro e w1 ⟨v1, rfl, ho1, hb1⟩)
  refine bodyPost_ret (v := .tuple #[v1, .int .i64 f]) (by simp [results, Tryd.results16, go_sem]) rfl ?_
  exact ⟨_, rfl, ho1, hb1⟩
set_option maxHeartbeats 1000000 in
theorem R1JOIN_any (A A' : Option Addr) (n c m0 d : Nat) (a b : List Pr) (w : World) (B : Nat) (hB : B ≤ w.heap.size) (ha : Hid (PrsAt w B A n a)) (hb : Hid (PrsAt w B A' m0 b)) :
    Calls Tryd.prog 10 #[.slice A n c, .slice A' m0 d] w (OutT2 29 w (setS (fun x y => or x y) a b)) := by
  obtain ⟨⟨r, f⟩, hr⟩ : ∃ z, setS (fun x y => or x y) a b = z := ⟨_, rfl⟩
  have HR := Lib.hid hr
  rw [hr]
  clear hr
  go_enter Tryd.func10, Tryd.ntmps10
  go_wp2_with (go_at_call 36; refine (RSET_or A A' n c m0 d a b _ B hB ha hb).mono ?_; rw [HR.out]; rintro e w1 ⟨v1, rfl, ho1, hb1⟩)
  refine bodyPost_ret (v := .tuple #[v1, .int .i64 f]) (by simp [results, Tryd.results10, go_sem]) rfl ?_
  exact ⟨_, rfl, ho1, hb1⟩
set_option maxHeartbeats 1000000 in
theorem R1MEET_any (A A' : Option Addr) (n c m0 d : Nat) (a b : List Pr) (w : World) (B : Nat) (hB : B ≤ w.heap.size) (ha : Hid (PrsAt w B A n a)) (hb : Hid (PrsAt w B A' m0 b)) :
    Calls Tryd.prog 15 #[.slice A n c, .slice A' m0 d] w (OutT2 29 w (setS (fun x y => and x y) a b)) := by
  obtain ⟨⟨r, f⟩, hr⟩ : ∃ z, setS (fun x y => and x y) a b = z := ⟨_, rfl⟩
  have HR := Lib.hid hr
  rw [hr]
  clear hr
  go_enter Tryd.func15, Tryd.ntmps15
  go_wp2_with (go_at_call 36; refine (RSET_and A A' n c m0 d a b _ B hB ha hb).mono ?_; rw [HR.out]; rintro e w1 ⟨v1, rfl, ho1, hb1⟩)
  refine bodyPost_ret (v := .tuple #[v1, .int .i64 f]) (by simp [results, Tryd.results15, go_sem]) rfl ?_
  exact ⟨_, rfl, ho1, hb1⟩
set_option maxHeartbeats 1000000 in
theorem R1WITHOUT_any (A A' : Option Addr) (n c m0 d : Nat) (a b : List Pr) (w : World) (B : Nat) (hB : B ≤ w.heap.size) (ha : Hid (PrsAt w B A n a)) (hb : Hid (PrsAt w B A' m0 b)) :
    Calls Tryd.prog 17 #[.slice A n c, .slice A' m0 d] w (OutT2 29 w (setS (fun x y => and x (not y)) a b)) := by
  obtain ⟨⟨r, f⟩, hr⟩ : ∃ z, setS (fun x y => and x (not y)) a b = z := ⟨_, rfl⟩
  have HR := Lib.hid hr
  rw [hr]
  clear hr
  go_enter Tryd.func17, Tryd.ntmps17
  go_wp2_with (go_at_call 36; refine (RSET_minus A A' n c m0 d a b _ B hB ha hb).mono ?_; rw [HR.out]; rintro e w1 ⟨v1, rfl, ho1, hb1⟩)
  refine bodyPost_ret (v := .tuple #[v1, .int .i64 f]) (by simp [results, Tryd.results17, go_sem]) rfl ?_
  exact ⟨_, rfl, ho1, hb1⟩
set_option maxRecDepth 100000 in
set_option maxHeartbeats 4000000 in
theorem CLENGTH_any (A : Option Addr) (n c : Nat) (l : List Pr) (w : World) (B : Nat) (hB : B ≤ w.heap.size) (hh : Hid (PrsAt w B A n l)) :
    Calls Tryd.prog 18 #[.slice A n c] w fun e w' => e = .returned (.tuple #[.int .i64 (lenS l).1, .int .i64 (lenS l).2]) ∧ Below w.heap.size w w' := by
  have hl := Lib.hid hh.out.1
  obtain ⟨x, hx⟩ : ∃ x, chkSp l = x := ⟨_, rfl⟩
  have HX := Lib.hid hx
  clear hx
  by_cases h0 : x = 0
  rotate_left
  · have hq : ((x : Int) != 0) = true := by simpa using h0
    have HV : Hid (lenS l = (0, x)) := by show _ = _; unfold lenS; rw [HX.out, if_pos h0]
    go_enter Tryd.func18, Tryd.ntmps18
    go_wp2_with (go_at_call 11; refine (CCHECKSPANS_any A n c l _ B hB hh).mono ?_; rintro e w1 ⟨rfl, hb1⟩; rw [HX.out])
    go_ret2
    exact ⟨by rw [HV.out]; rfl, hb1⟩
  subst h0
  have HV : Hid (lenS l = (measS l, 0)) := by show _ = _; unfold lenS; rw [HX.out, if_neg (by simp)]
  obtain ⟨_, hn0, HOK⟩ := chkSp_canon HX.out
  have hn1 : n ≤ 1000 := by rw [← hl.out]; exact hn0
  have HOK := Lib.hid HOK
  clear hn0
  go_enter Tryd.func18, Tryd.ntmps18
  go_wp2_with (go_at_call 11; refine (CCHECKSPANS_any A n c l _ B hB hh).mono ?_; rintro e w1 ⟨rfl, hb1⟩; rw [HX.out])
  have HB1 := Lib.hid hb1
  clear hb1
  go_loopw [5, 15] (fun v i wr => ∃ k : Nat, k ≤ n ∧ i = .int .i64 k ∧ v = .int .i64 (measS (l.take k)) ∧ Hid (Below w.heap.size w wr)) (fun _ i _ => n - (intOf i).toNat)
  case atStart => exact ⟨0, Nat.zero_le _, rfl, rfl, HB1⟩
  case round =>
    obtain ⟨k, hk, rfl, rfl, hb⟩ := hrel
    have hsz : w.heap.size ≤ wr.heap.size := hb.out.size
    obtain ⟨hm1, hm2⟩ := meas_bd HOK.out k (by rw [hl.out]; exact hk)
    by_cases hlt : k < n
    · skip
      obtain ⟨bA, oA, rfl, hbA, k1, k2⟩ := (hh.out.below (hb.out.mono hB) (Nat.le_refl _)).2 k hlt
      have hbAw : bA < wr.heap.size := by omega
      have hkl : k < l.length := by rw [hl.out]; exact hlt
      have HST := Lib.hid (meas_snoc hkl)
      have hok := HOK.out _ (pr_in hkl)
      obtain ⟨p, hp⟩ : ∃ p, prOf l k = p := ⟨_, rfl⟩
      obtain ⟨x1, x2⟩ := p
      rw [hp] at k1 k2 HST hok
      dsimp only at k1 k2 HST
      unfold okPr at hok
      rw [Bool.and_eq_true] at hok
      obtain ⟨g1, g2⟩ := okPos_le hok.1
      obtain ⟨g3, g4⟩ := okPos_le hok.2
      dsimp only at g1 g2 g3 g4
      obtain ⟨m, hm⟩ : ∃ m, measS (l.take k) = m := ⟨_, rfl⟩
      rw [hm] at HST hm1 hm2 ⊢
      have hk0 : (0 : Int) ≤ (k : Int) := by omega
      have hkn : (k : Int) < (n : Int) := by omega
      have kw1 : IntKind.i64.wrap (x2 - x1) = x2 - x1 := IntWalk.i64_in _ (by omega)
      have kw2 : IntKind.i64.wrap (m + (x2 - x1)) = m + (x2 - x1) := IntWalk.i64_in _ (by omega)
      clear hp hm hok
      go_wp2_with fail
      go_roundw
      case rel => exact ⟨k + 1, by omega, by go_num, by rw [HST.out]; try rfl, hb.out.alloc hsz _⟩
      case measure => simp [intOf]; omega
    · obtain rfl : k = n := by omega
      go_wp2_with fail
      go_ret2
      exact ⟨by rw [HV.out]; rw [List.take_of_length_le (by rw [hl.out]; exact Nat.le_refl _)]; rfl, hb.out⟩
set_option maxRecDepth 100000 in
set_option maxHeartbeats 4000000 in
theorem R1LENGTH_any (A : Option Addr) (n c : Nat) (l : List Pr) (w : World) (B : Nat) (hB : B ≤ w.heap.size) (hh : Hid (PrsAt w B A n l)) :
    Calls Tryd.prog 19 #[.slice A n c] w fun e w' => e = .returned (.tuple #[.int .i64 (lenS l).1, .int .i64 (lenS l).2]) ∧ Below w.heap.size w w' := by
  have hl := Lib.hid hh.out.1
  obtain ⟨x, hx⟩ : ∃ x, chkSp l = x := ⟨_, rfl⟩
  have HX := Lib.hid hx
  clear hx
  by_cases h0 : x = 0
  rotate_left
  · have hq : ((x : Int) != 0) = true := by simpa using h0
    have HV : Hid (lenS l = (0, x)) := by show _ = _; unfold lenS; rw [HX.out, if_pos h0]
    go_enter Tryd.func19, Tryd.ntmps19
    go_wp2_with (go_at_call 12; refine (RCHECKSPANS_any A n c l _ B hB hh).mono ?_; rintro e w1 ⟨rfl, hb1⟩; rw [HX.out])
    go_ret2
    exact ⟨by rw [HV.out]; rfl, hb1⟩
  subst h0
  have HV : Hid (lenS l = (measS l, 0)) := by show _ = _; unfold lenS; rw [HX.out, if_neg (by simp)]
  obtain ⟨_, hn0, HOK⟩ := chkSp_canon HX.out
  have hn1 : n ≤ 1000 := by rw [← hl.out]; exact hn0
  have HOK := Lib.hid HOK
  clear hn0
  go_enter Tryd.func19, Tryd.ntmps19
  go_wp2_with (go_at_call 12; refine (RCHECKSPANS_any A n c l _ B hB hh).mono ?_; rintro e w1 ⟨rfl, hb1⟩; rw [HX.out])
  have HB1 := Lib.hid hb1
  clear hb1
  go_loopw [5, 6] (fun v i wr => ∃ k : Nat, k ≤ n ∧ i = .int .i64 k ∧ v = .int .i64 (measS (l.take k)) ∧ Hid (Below w.heap.size w wr)) (fun _ i _ => n - (intOf i).toNat)
  case atStart => exact ⟨0, Nat.zero_le _, rfl, rfl, HB1⟩
  case round =>
    obtain ⟨k, hk, rfl, rfl, hb⟩ := hrel
    have hsz : w.heap.size ≤ wr.heap.size := hb.out.size
    obtain ⟨hm1, hm2⟩ := meas_bd HOK.out k (by rw [hl.out]; exact hk)
    by_cases hlt : k < n
    · skip
      obtain ⟨bA, oA, rfl, hbA, k1, k2⟩ := (hh.out.below (hb.out.mono hB) (Nat.le_refl _)).2 k hlt
      have hbAw : bA < wr.heap.size := by omega
      have hkl : k < l.length := by rw [hl.out]; exact hlt
      have HST := Lib.hid (meas_snoc hkl)
      have hok := HOK.out _ (pr_in hkl)
      obtain ⟨p, hp⟩ : ∃ p, prOf l k = p := ⟨_, rfl⟩
      obtain ⟨x1, x2⟩ := p
      rw [hp] at k1 k2 HST hok
      dsimp only at k1 k2 HST
      unfold okPr at hok
      rw [Bool.and_eq_true] at hok
      obtain ⟨g1, g2⟩ := okPos_le hok.1
      obtain ⟨g3, g4⟩ := okPos_le hok.2
      dsimp only at g1 g2 g3 g4
      obtain ⟨m, hm⟩ : ∃ m, measS (l.take k) = m := ⟨_, rfl⟩
      rw [hm] at HST hm1 hm2 ⊢
      have hk0 : (0 : Int) ≤ (k : Int) := by omega
      have hkn : (k : Int) < (n : Int) := by omega
      have kw1 : IntKind.i64.wrap (x2 - x1) = x2 - x1 := IntWalk.i64_in _ (by omega)
      have kw2 : IntKind.i64.wrap (m + (x2 - x1)) = m + (x2 - x1) := IntWalk.i64_in _ (by omega)
      clear hp hm hok
      go_upto_region 8 with (fail)
      go_quiet (fail)
      have HB2 := Lib.hid (belowN hb.out nq)
      clear kw1 kw2
      go_wp2_with fail
      go_roundw
      case rel => exact ⟨k + 1, by omega, by go_num, by rw [HST.out]; try rfl, HB2⟩
      case measure => simp [intOf]; omega
    · obtain rfl : k = n := by omega
      go_wp2_with fail
      go_ret2
      exact ⟨by rw [HV.out]; rw [List.take_of_length_le (by rw [hl.out]; exact Nat.le_refl _)]; rfl, hb.out⟩
end Go.Proofs.YtpfjodggnfgnnaaDoor
