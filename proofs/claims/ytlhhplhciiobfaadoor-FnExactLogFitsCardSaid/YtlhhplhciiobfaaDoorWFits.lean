/- The walk of the law on logs that fit a tree. -/
import Derived.Test.YtlhhplhciiobfaaDoorApplyL
import Derived.Test.YtlhhplhciiobfaaDoorMarkN
import Derived.Test.YtlhhplhciiobfaaDoorMarkK
namespace Go.Proofs.YtlhhplhciiobfaaDoor
open Go.RowKit
set_option linter.unusedVariables false
set_option linter.unusedSimpArgs false
set_option maxRecDepth 20000

set_option maxHeartbeats 2000000 in
theorem walk_FnExactLogFits (A0 : Option Addr) (n0 c0 : Nat) (l0 : List Nod) (hl0 : l0.length = n0) (hnc0 : n0 ≤ c0) (hcm0 : c0 ≤ maxLen) (A1 : Option Addr) (n1 c1 : Nat) (l1 : List Cmd) (hl1 : l1.length = n1) (hnc1 : n1 ≤ c1) (hcm1 : c1 ≤ maxLen) (w : World) (ha0 : At encN 3 w A0 l0) (hw0 : ∀ q ∈ l0, q.wf) (ha1 : At encK 5 w A1 l1) (hw1 : ∀ q ∈ l1, q.wf) (hm : MaxAt w) :
    Calls Tryd.prog 4 #[.slice A0 n0 c0, .slice A1 n1 c1] w fun e w' => e = .returned (.bool true) ∧ Below w.heap.size w w' := by
  have HM := Lib.hid hm
  clear hm
  have HL0 := Lib.hid hl0
  have hcc0 := Nat.le_trans hnc0 hcm0
  have HL1 := Lib.hid hl1
  have hcc1 := Nat.le_trans hnc1 hcm1
  clear hl0 hl1
  go_enter Tryd.func4, Tryd.ntmps4
  go_wp2_with fail
  refine (szNodeS_any A0 n0 c0 l0 1048576 _ HL0.out hcc0 (ha0.belowS (Below.refl w.heap.size w)) hw0 (by omega) (by omega)).mono ?_
  rintro e w1 ⟨r0, rfl, hr0, hb1⟩
  have bw1 := below_step (Below.refl w.heap.size w) hb1
  rcases hr0 with hr0 | ⟨hra0, hrn0, hrz0⟩
  · have hd0 : decide (r0 < 0) = true := decide_eq_true hr0
    go_wp2_with fail
    go_ret
    exact ⟨rfl, bw1⟩
  rw [HL0.out] at hrn0
  have hd0 : decide (r0 < 0) = false := decide_eq_false (by omega)
  have hn0 : n0 ≤ 1048576 := by omega
  have hz0 : ∀ q ∈ l0, q.p.size ≤ 1048576 := fun q hq => by have := hrz0 q hq; omega
  have hrr0 : r0 ≤ 1048576 := by omega
  clear hrz0 hrn0
  go_wp2_with fail
  refine (szCommandS_any A1 n1 c1 l1 r0 _ HL1.out hcc1 (ha1.belowS bw1) hw1 (by omega) (by omega)).mono ?_
  rintro e w2 ⟨r1, rfl, hr1, hb2⟩
  have bw2 := below_step bw1 hb2
  rcases hr1 with hr1 | ⟨hra1, hrn1, hrz1⟩
  · have hd1 : decide (r1 < 0) = true := decide_eq_true hr1
    go_wp2_with fail
    go_ret
    exact ⟨rfl, bw2⟩
  rw [HL1.out] at hrn1
  have hd1 : decide (r1 < 0) = false := decide_eq_false (by omega)
  have hn1 : n1 ≤ 1048576 := by omega
  have hz1 : ∀ q ∈ l1, q.p.size ≤ 1048576 := fun q hq => by have := hrz1 q hq; omega
  have hrr1 : r1 ≤ 1048576 := by omega
  clear hrz1 hrn1
  go_wp2_with fail
  refine (toNodeS_any A0 n0 c0 l0 _ (by omega) HL0.out (ha0.belowS bw2)).mono ?_
  rintro e w3 ⟨g3, rfl, ho3, hb3⟩
  have bw3 := below_step bw2 hb3
  go_wp2_with fail
  refine (toCommandS_any A1 n1 c1 l1 _ (by omega) HL1.out (ha1.belowS bw3)).mono ?_
  rintro e w4 ⟨g4, rfl, ho4, hb4⟩
  have bw4 := below_step bw3 hb4
  have ho3_4 := own_belowS ho3 hb4
  go_wp2_with fail
  refine (specFits_any _ n0 n0 l0 _ n1 n1 l1 _ (by omega) (by omega) HL0.out HL1.out (own_at encN_len ho3_4 HL0.out) (own_at encK_len ho4 HL1.out) hz0 hz1).mono ?_
  rintro e w5 ⟨k, rfl, hk, hb5⟩
  have bw5 := below_step bw4 hb5
  have ho3_5 := own_belowS ho3_4 hb5
  clear ho3_4
  have ho4_5 := own_belowS ho4 hb5
  have HKK := Lib.hid hk
  clear hk
  clear ho3_5
  clear ho4_5
  go_wp2_with fail
  refine (toNodeS_any A0 n0 c0 l0 _ (by omega) HL0.out (ha0.belowS bw5)).mono ?_
  rintro e w6 ⟨g6, rfl, ho6, hb6⟩
  have bw6 := below_step bw5 hb6
  go_wp2_with fail
  refine (toCommandS_any A1 n1 c1 l1 _ (by omega) HL1.out (ha1.belowS bw6)).mono ?_
  rintro e w7 ⟨g7, rfl, ho7, hb7⟩
  have bw7 := below_step bw6 hb7
  have ho6_7 := own_belowS ho6 hb7
  go_wp2_with fail
  refine (implFits_any _ n0 n0 l0 _ n1 n1 l1 _ (by omega) (by omega) HL0.out HL1.out (own_at encN_len ho6_7 HL0.out) (own_at encK_len ho7 HL1.out) hz0 hz1 (HM.out.belowS bw7)).mono ?_
  rintro e w8 ⟨k', rfl, hk, hb8⟩
  have bw8 := below_step bw7 hb8
  have ho6_8 := own_belowS ho6_7 hb8
  clear ho6_7
  have ho7_8 := own_belowS ho7 hb8
  obtain rfl : k' = k := same_tells hk HKK.out
  have hkk : (k' != k') = false := by simp
  clear hk
  go_wp2_with fail
  refine (toNodeS_any A0 n0 c0 l0 _ (by omega) HL0.out (ha0.belowS bw8)).mono ?_
  rintro e w9 ⟨g9, rfl, ho9, hb9⟩
  have bw9 := below_step bw8 hb9
  have ho6_9 := own_belowS ho6_8 hb9
  clear ho6_8
  have ho7_9 := own_belowS ho7_8 hb9
  clear ho7_8
  go_wp2_with fail
  refine (eqNodeS_same _ n0 _ _ _ l0 _ (by omega) HL0.out (own_at encN_len ho6_9 HL0.out) (own_at encN_len ho9 HL0.out)).mono ?_
  rintro e w10 ⟨rfl, hb10⟩
  have bw10 := below_step bw9 hb10
  have ho6_10 := own_belowS ho6_9 hb10
  clear ho6_9
  have ho7_10 := own_belowS ho7_9 hb10
  clear ho7_9
  have ho9_10 := own_belowS ho9 hb10
  clear ho9_10
  clear ho6_10
  go_wp2_with fail
  refine (toCommandS_any A1 n1 c1 l1 _ (by omega) HL1.out (ha1.belowS bw10)).mono ?_
  rintro e w11 ⟨g11, rfl, ho11, hb11⟩
  have bw11 := below_step bw10 hb11
  have ho7_11 := own_belowS ho7_10 hb11
  clear ho7_10
  go_wp2_with fail
  refine (eqCommandS_same _ n1 _ _ _ l1 _ (by omega) HL1.out (own_at encK_len ho7_11 HL1.out) (own_at encK_len ho11 HL1.out)).mono ?_
  rintro e w12 ⟨rfl, hb12⟩
  have bw12 := below_step bw11 hb12
  have ho7_12 := own_belowS ho7_11 hb12
  clear ho7_11
  have ho11_12 := own_belowS ho11 hb12
  clear ho11_12
  clear ho7_12
  go_wp2_with fail
  go_ret
  exact ⟨rfl, bw12⟩
end Go.Proofs.YtlhhplhciiobfaaDoor
