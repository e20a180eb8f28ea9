/- The walks of the laws on what a path holds and on its sum. -/
import Derived.Test.YtehdoambbeddpaaDoorTreeG
import Derived.Test.YtehdoambbeddpaaDoorSumI
import Derived.Test.YtehdoambbeddpaaDoorMarkN
namespace Go.Proofs.YtehdoambbeddpaaDoor
open Go.RowKit
set_option linter.unusedVariables false
set_option linter.unusedSimpArgs false
set_option maxRecDepth 20000

set_option maxHeartbeats 2000000 in
theorem walk_FnExactTreeGet (A : Option Addr) (n c : Nat) (l : List Nod) (hl : l.length = n) (hnc : n ≤ c) (hcm : c ≤ maxLen) (s : ByteArray) (ws : s.size ≤ maxLen) (w : World) (ha : At encN 3 w A l) (hw : ∀ q ∈ l, q.wf) (hm : MaxAt w) :
    Calls Tryd.prog 4 #[.slice A n c, .string s] w fun e w' => e = .returned (.bool true) ∧ Below w.heap.size w w' := by
  have HM := Lib.hid hm
  have HL := Lib.hid hl
  clear hm
  unfold maxLen at ws
  by_cases hs : 1048576 < s.size
  · clear hl
    go_enter Tryd.func4, Tryd.ntmps4
    go_wp2_with fail
    go_ret
    exact ⟨rfl, Below.refl _ _⟩
  have hs' : s.size ≤ 1048576 := by omega
  go_enter Tryd.func4, Tryd.ntmps4
  go_wp2_with fail
  refine (szNodeS_any A n c l 1048576 _ hl (Nat.le_trans hnc hcm) ha hw (by omega) (by omega)).mono ?_
  rintro e w1 ⟨r, rfl, hr, hb1⟩
  rcases hr with hr | ⟨hr0, hrn, hrz⟩
  · have hd : decide (r < 0) = true := decide_eq_true hr
    clear hl
    go_wp2_with fail
    go_ret
    exact ⟨rfl, hb1⟩
  have hd : decide (r < 0) = false := decide_eq_false (by omega)
  have hn : n ≤ 1048576 := by omega
  have hz : ∀ q ∈ l, q.p.size ≤ 1048576 := fun q hq => by have := hrz q hq; omega
  have HM1 := Lib.hid (HM.out.belowS hb1)
  clear hrn hrz hl
  go_wp2_with fail
  refine (toNodeS_any A n c l _ (by omega) HL.out (ha.belowS hb1)).mono ?_
  rintro e w2 ⟨g1, rfl, ho1, hb2⟩
  have bw2 := below_step hb1 hb2
  have at1 := own_at encN_len ho1 HL.out
  have HM2 := Lib.hid (HM1.out.belowS hb2)
  clear ho1
  go_wp2_with fail
  refine (specTreeGet_any _ n n l s _ (by omega) HL.out at1 hz hs').mono ?_
  rintro e w3 ⟨x, y, rfl, hk, hb3⟩
  have bw3 := below_step bw2 hb3
  have HM3 := Lib.hid (HM2.out.belowS hb3)
  have HK := Lib.hid hk
  clear hk at1
  have P3 := Blk.new w3 30 #[.int .i64 x, .int .i64 y]
  have bW3 := below_alloc bw3 (.cells #[.int .i64 x, .int .i64 y] 30)
  obtain ⟨W3, hW3⟩ : ∃ W3, W3 = w3.alloc (.cells #[.int .i64 x, .int .i64 y] 30) := ⟨_, rfl⟩
  obtain ⟨h3, hh3⟩ : ∃ h3, w3.heap.size = h3 := ⟨_, rfl⟩
  rw [← hW3, hh3] at P3
  rw [← hW3] at bW3
  go_wp2_with fail
  try rw [hh3]
  rw [← hW3]
  clear hW3 hh3
  refine (toNodeS_any A n c l _ (by omega) HL.out (ha.belowS bW3)).mono ?_
  rintro e w4 ⟨g2, rfl, ho2, hb4⟩
  have bw4 := below_step bW3 hb4
  have at2 := own_at encN_len ho2 HL.out
  have HM4 := Lib.hid (HM.out.belowS bw4)
  clear ho2
  go_wp2_with fail
  refine (implTreeGet_any _ n n l s _ (by omega) HL.out at2 hz hs' HM4.out).mono ?_
  rintro e w5 ⟨x', y', rfl, hk, hb5⟩
  obtain ⟨rfl, rfl⟩ := TgR.same hk HK.out
  have bw5 := below_step bw4 hb5
  have at3' := at2.belowS hb5
  have P4 := (P3.belowS hb4).belowS hb5
  have P5 := Blk.new w5 30 #[.int .i64 x', .int .i64 y']
  have P6 := P4.alloc (.cells #[.int .i64 x', .int .i64 y'] 30)
  have at3' := at3'.belowS ((Below.refl w5.heap.size w5).alloc (Nat.le_refl _) (.cells #[.int .i64 x', .int .i64 y'] 30))
  have bW5 := below_alloc bw5 (.cells #[.int .i64 x', .int .i64 y'] 30)
  obtain ⟨W5, hW5⟩ : ∃ W5, W5 = w5.alloc (.cells #[.int .i64 x', .int .i64 y'] 30) := ⟨_, rfl⟩
  obtain ⟨h5, hh5⟩ : ∃ h5, w5.heap.size = h5 := ⟨_, rfl⟩
  rw [← hW5] at P5 P6 at3' bW5
  rw [hh5] at P5
  obtain ⟨p0, p1⟩ := blk2 P6
  obtain ⟨q0, q1⟩ := blk2 P5
  clear at2 hk P3 P4
  go_upto_region 10 with fail
  try rw [hh5]
  rw [← hW5]
  clear hW5 hh5
  go_wp2_with fail
  refine (eqContent_any x' y' x' y' _).mono ?_
  rw [show decide (x' = x' ∧ y' = y') = true from decide_eq_true ⟨rfl, rfl⟩]
  rintro e w6 ⟨rfl, hb6⟩
  have bw6 := below_step bW5 hb6
  have at3' := at3'.belowS hb6
  clear p0 p1 q0 q1 P5 P6
  go_wp2_with fail
  refine (toNodeS_any A n c l _ (by omega) HL.out (ha.belowS bw6)).mono ?_
  rintro e w7 ⟨g3, rfl, ho3, hb7⟩
  have bw7 := below_step bw6 hb7
  have at4 := own_at encN_len ho3 HL.out
  have at5' := at3'.belowS hb7
  clear ho3 at3'
  go_wp2_with fail
  refine (eqNodeS_same _ n n _ n l _ (by omega) HL.out at5' at4).mono ?_
  rintro e w8 ⟨rfl, hb8⟩
  have bw8 := below_step bw7 hb8
  go_wp2_with fail
  go_ret
  exact ⟨rfl, bw8⟩

set_option maxHeartbeats 2000000 in
theorem walk_FnExactTreeSum (A : Option Addr) (n c : Nat) (l : List Nod) (hl : l.length = n) (hnc : n ≤ c) (hcm : c ≤ maxLen) (s : ByteArray) (ws : s.size ≤ maxLen) (w : World) (ha : At encN 3 w A l) (hw : ∀ q ∈ l, q.wf) (hm : MaxAt w) :
    Calls Tryd.prog 5 #[.slice A n c, .string s] w fun e w' => e = .returned (.bool true) ∧ Below w.heap.size w w' := by
  have HM := Lib.hid hm
  have HL := Lib.hid hl
  clear hm
  unfold maxLen at ws
  by_cases hs : 1048576 < s.size
  · clear hl
    go_enter Tryd.func5, Tryd.ntmps5
    go_wp2_with fail
    go_ret
    exact ⟨rfl, Below.refl _ _⟩
  have hs' : s.size ≤ 1048576 := by omega
  go_enter Tryd.func5, Tryd.ntmps5
  go_wp2_with fail
  refine (szNodeS_any A n c l 1048576 _ hl (Nat.le_trans hnc hcm) ha hw (by omega) (by omega)).mono ?_
  rintro e w1 ⟨r, rfl, hr, hb1⟩
  rcases hr with hr | ⟨hr0, hrn, hrz⟩
  · have hd : decide (r < 0) = true := decide_eq_true hr
    clear hl
    go_wp2_with fail
    go_ret
    exact ⟨rfl, hb1⟩
  have hd : decide (r < 0) = false := decide_eq_false (by omega)
  have hn : n ≤ 1048576 := by omega
  have hz : ∀ q ∈ l, q.p.size ≤ 1048576 := fun q hq => by have := hrz q hq; omega
  have HM1 := Lib.hid (HM.out.belowS hb1)
  clear hrn hrz hl
  go_wp2_with fail
  refine (toNodeS_any A n c l _ (by omega) HL.out (ha.belowS hb1)).mono ?_
  rintro e w2 ⟨g1, rfl, ho1, hb2⟩
  have bw2 := below_step hb1 hb2
  have at1 := own_at encN_len ho1 HL.out
  have HM2 := Lib.hid (HM1.out.belowS hb2)
  clear ho1
  go_wp2_with fail
  refine (specTreeSum_any _ n n l s _ (by omega) HL.out at1 hz hs').mono ?_
  rintro e w3 ⟨z, rfl, hk, hb3⟩
  have bw3 := below_step bw2 hb3
  have HM3 := Lib.hid (HM2.out.belowS hb3)
  have HK := Lib.hid hk
  clear hk at1
  go_wp2_with fail
  refine (toNodeS_any A n c l _ (by omega) HL.out (ha.belowS bw3)).mono ?_
  rintro e w4 ⟨g2, rfl, ho2, hb4⟩
  have bw4 := below_step bw3 hb4
  have at2 := own_at encN_len ho2 HL.out
  have HM4 := Lib.hid (HM.out.belowS bw4)
  clear ho2
  go_wp2_with fail
  refine (implTreeSum_any _ n n l s _ (by omega) HL.out at2 hz hs' HM4.out).mono ?_
  rintro e w6 ⟨z', rfl, hk, hb5⟩
  obtain rfl := TsR.same hk HK.out
  have bw6 := below_step bw4 hb5
  have at3' := at2.belowS hb5
  have hkk : (z' != z') = false := by simp
  clear at2 hk
  go_wp2_with fail
  refine (toNodeS_any A n c l _ (by omega) HL.out (ha.belowS bw6)).mono ?_
  rintro e w7 ⟨g3, rfl, ho3, hb7⟩
  have bw7 := below_step bw6 hb7
  have at4 := own_at encN_len ho3 HL.out
  have at5' := at3'.belowS hb7
  clear ho3 at3'
  go_wp2_with fail
  refine (eqNodeS_same _ n n _ n l _ (by omega) HL.out at5' at4).mono ?_
  rintro e w8 ⟨rfl, hb8⟩
  have bw8 := below_step bw7 hb8
  go_wp2_with fail
  go_ret
  exact ⟨rfl, bw8⟩
end Go.Proofs.YtehdoambbeddpaaDoor
