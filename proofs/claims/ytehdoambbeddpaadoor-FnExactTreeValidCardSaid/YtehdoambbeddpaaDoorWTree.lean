/- The walks of the laws on valid trees and on what a path holds. -/
import Derived.Test.YtehdoambbeddpaaDoorTreeI
import Derived.Test.YtehdoambbeddpaaDoorMarkN
namespace Go.Proofs.YtehdoambbeddpaaDoor
open Go.RowKit
set_option linter.unusedVariables false
set_option linter.unusedSimpArgs false
set_option maxRecDepth 20000

set_option maxHeartbeats 2000000 in
theorem walk_FnExactTreeValid (A : Option Addr) (n c : Nat) (l : List Nod) (hl : l.length = n) (hnc : n ≤ c) (hcm : c ≤ maxLen) (w : World) (ha : At encN 3 w A l) (hw : ∀ q ∈ l, q.wf) (hm : MaxAt w) :
    Calls Tryd.prog 3 #[.slice A n c] w fun e w' => e = .returned (.bool true) ∧ Below w.heap.size w w' := by
  have HM := Lib.hid hm
  have HL := Lib.hid hl
  clear hm
  go_enter Tryd.func3, Tryd.ntmps3
  go_wp2_with fail
  refine (szNodeS_any A n c l 1048576 _ hl (Nat.le_trans hnc hcm) ha hw (by omega) (by omega)).mono ?_
  rintro e w1 ⟨r, rfl, hr, hb1⟩
  rcases hr with hr | ⟨hr0, hrn, hrz⟩
  · have hd : decide (r < 0) = true := decide_eq_true hr
    clear hl
    go_wp2_with fail
    go_ret
    exact ⟨rfl, hb1⟩
  have hd : decide (r < 0) = false := decide_eq_false (by omega)
  have hn : n ≤ 1048576 := by omega
  have hz : ∀ q ∈ l, q.p.size ≤ 1048576 := fun q hq => by have := hrz q hq; omega
  have HM1 := Lib.hid (HM.out.belowS hb1)
  clear hrn hrz hl
  go_wp2_with fail
  refine (toNodeS_any A n c l _ (by omega) HL.out (ha.belowS hb1)).mono ?_
  rintro e w2 ⟨g1, rfl, ho1, hb2⟩
  have bw2 := below_step hb1 hb2
  have at1 := own_at encN_len ho1 HL.out
  have HM2 := Lib.hid (HM1.out.belowS hb2)
  clear ho1
  go_wp2_with fail
  refine (specTree_any _ n n l _ (by omega) HL.out at1 hz).mono ?_
  rintro e w3 ⟨k, rfl, hk, hb3⟩
  have bw3 := below_step bw2 hb3
  have HM3 := Lib.hid (HM2.out.belowS hb3)
  have HK := Lib.hid hk
  clear hk at1
  go_wp2_with fail
  refine (toNodeS_any A n c l _ (by omega) HL.out (ha.belowS bw3)).mono ?_
  rintro e w4 ⟨g2, rfl, ho2, hb4⟩
  have bw4 := below_step bw3 hb4
  have at2 := own_at encN_len ho2 HL.out
  have HM4 := Lib.hid (HM3.out.belowS hb4)
  clear ho2
  go_wp2_with fail
  refine (implTree_any _ n n l _ (by omega) HL.out at2 hz HM4.out).mono ?_
  rintro e w5 ⟨k', rfl, hk, hb5⟩
  obtain rfl : k' = k := same_tells hk HK.out
  have bw5 := below_step bw4 hb5
  have at3' := at2.belowS hb5
  have hkk : (k' != k') = false := by simp
  clear at2 hk
  go_wp2_with fail
  refine (toNodeS_any A n c l _ (by omega) HL.out (ha.belowS bw5)).mono ?_
  rintro e w6 ⟨g3, rfl, ho3, hb6⟩
  have bw6 := below_step bw5 hb6
  have at4 := own_at encN_len ho3 HL.out
  have at5' := at3'.belowS hb6
  clear ho3 at3'
  go_wp2_with fail
  refine (eqNodeS_same _ n n _ n l _ (by omega) HL.out at5' at4).mono ?_
  rintro e w7 ⟨rfl, hb7⟩
  have bw7 := below_step bw6 hb7
  go_wp2_with fail
  go_ret
  exact ⟨rfl, bw7⟩
end Go.Proofs.YtehdoambbeddpaaDoor
