/- The walk of the exact law on FramesOf: both texts' frames are one list; nothing is shared. -/
import Derived.Test.YtnlgpjloedoebaaToTables
import Derived.Test.YtnlgpjloedoebaaFramesOf
import Derived.Test.YtnlgpjloedoebaaWScan
namespace Go.Proofs.Ytnlgpjloedoebaa
open Go.RowKit
set_option linter.unusedVariables false

set_option maxHeartbeats 2000000 in
theorem walk_FnExactFramesOf (A : Option Addr) (n c : Nat) (l : List RowI) (hl : l.length = n) (hnc : n ≤ c) (hcm : c ≤ maxLen) (w : World) (ha : At encR 1 w A l) (hw : ∀ r ∈ l, r.ok w) :
    Calls Try.prog 12 #[.slice A n c] w fun e w' => e = .returned (.bool true) ∧ Below w.heap.size w w' := by
  have HL := Lib.hid hl
  clear hl
  have hcm' := hcm
  unfold maxLen at hcm'
  have htab : TabAt w A l := ⟨ha, fun r hr => (hw r hr).1⟩
  go_enter Try.func12, Try.ntmps12
  go_wp2_with fail
  refine (szIntSS_any A n c l _ HL.out (by omega) (fun r hr => by have := (hw r hr).2.1; have := (hw r hr).2.2.1; unfold maxLen at this; omega) htab).mono ?_
  rintro e w' ⟨r, ⟨rfl, hr, hr1⟩, rfl⟩
  by_cases hneg : r < 0
  · go_wp2
    go_ret
    exact ⟨rfl, Below.refl _ _⟩
  have htot := hr (by omega)
  have hn : n ≤ 1048576 := by omega
  have htl : totR l ≤ 1048576 := by omega
  have hz : ∀ r ∈ l, r.zs.length ≤ 1048576 := fun r hr => by have := le_totR r hr; omega
  clear hr htot
  have hfl := flat_le (l.map (·.zs))
  obtain ⟨F, hF⟩ : ∃ F, framesL (l.map (·.zs)) = F := ⟨_, rfl⟩
  obtain ⟨O, hO⟩ : ∃ O, okT (l.map (·.zs)) = O := ⟨_, rfl⟩
  have hFl : F.length ≤ 18 * n := by
    rw [← hF]; unfold framesL
    rw [List.length_map, HL.out] at hfl
    split
    · exact hfl
    · simp
  have HF := Lib.hid hF
  have HO := Lib.hid hO
  clear hfl hF hO
  obtain ⟨m, hm⟩ : ∃ m, F.length = m := ⟨_, rfl⟩
  rw [hm] at hFl
  have HM := Lib.hid hm
  clear hm
  go_wp2_with fail
  refine (toIntSS_any A n c l _ HL.out hn hz htab).mono ?_
  rintro e w1 ⟨g1, r1, rfl, hm1, ho1, hb1⟩
  have HM1 := Lib.hid hm1
  have hcop : ∀ rs : List RowI, rs.map (·.zs) = l.map (·.zs) → rs.length = n ∧ totR rs ≤ 1048576 ∧ ∀ r ∈ rs, r.zs.length ≤ 1048576 := fun rs h => by
    have e1 : rs.length = n := by have := congrArg List.length h; simpa [HL.out] using this
    have e2 : totR rs = totR l := by rw [(totR_eq h).1, (totR_eq (rows := l) rfl).1]
    exact ⟨e1, by omega, fun r hr => by have := le_totR r hr; omega⟩
  have HC := Lib.hid hcop
  clear hm1 hcop
  have t1 := htab.belowS hb1
  go_wp2_with fail
  refine (specFramesOf_any _ n n r1 _ (HC.out r1 HM1.out).1 (ho1.tab (HC.out r1 HM1.out).1) hn (HC.out r1 HM1.out).2.2).mono ?_
  rw [HM1.out, HF.out, HO.out]
  rintro e w2 ⟨A2, c2, rfl, ho2, hb2⟩
  rw [HM.out] at ho2 ⊢
  have t2 := t1.belowS hb2
  have bw2 := below_step (below_step (Below.refl _ _) hb1) hb2
  have hbl2 := fun h => own_blk ho2 h
  have atW2 := own_at encI_len ho2 HM.out
  go_wp2_with fail
  refine (toIntSS_any A n c l _ HL.out hn hz t2).mono ?_
  rintro e w3 ⟨g3, r3, rfl, hm3, ho3, hb3⟩
  have HM3 := Lib.hid hm3
  clear hm3
  have hz3 := hb3.size
  have t3 := t2.belowS hb3
  have atW3 := atW2.belowS hb3
  go_wp2_with fail
  refine (implFramesOf_any _ n n r3 _ (HC.out r3 HM3.out).1 (ho3.tab (HC.out r3 HM3.out).1) hn (HC.out r3 HM3.out).2.2).mono ?_
  rw [HM3.out, HF.out, HO.out]
  rintro e w4 ⟨A4, c4, rfl, ho4, hb4⟩
  rw [HM.out] at ho4 ⊢
  have hbl4 := fun h => own_blk ho4 h
  have t4 := t3.belowS hb4
  have atW4 := atW3.belowS hb4
  have hx4 := ho3.belowS hb4
  have hz4 := hb4.size
  have bw4 : Below w.heap.size w w4 := below_step (below_step bw2 hb3) hb4
  go_wp2_with fail
  refine (eqIntS_b _ _ _ _ _ _ _ _ _ (by omega) HM.out HM.out (own_at encI_len ho4 HM.out) atW4).mono ?_
  rintro e w5 hs5
  obtain ⟨rfl, hb5⟩ := sameB_refl rfl hs5
  have bw5 := below_step bw4 hb5
  have t5 := t4.belowS hb5
  have atW5 := atW4.belowS hb5
  have owG5 := own_belowS ho4 hb5
  have owX5 := hx4.belowS hb5
  have hz5 := hb5.size
  go_wp2_with fail
  refine (toIntSS_any A n c l _ HL.out hn hz t5).mono ?_
  rintro e w6 ⟨g6, r6, rfl, hm6, ho6, hb6⟩
  have HM6 := Lib.hid hm6
  clear hm6
  have bw6 := below_step bw5 hb6
  have t6 := t5.belowS hb6
  have atW6 := atW5.belowS hb6
  have owG6 := own_belowS owG5 hb6
  have owX6 := owX5.belowS hb6
  have hz6 := hb6.size
  go_wp2_with fail
  refine (eqIntSS_b _ _ n n n n r3 r6 _ hn (HC.out r3 HM3.out).1 (HC.out r6 HM6.out).1 (owX6.tab (HC.out r3 HM3.out).1) (ho6.tab (HC.out r6 HM6.out).1) (HC.out r3 HM3.out).2.1 (HM3.out.trans HM6.out.symm)).mono ?_
  rintro e w7 ⟨rfl, hb7⟩
  have bw7 := below_step bw6 hb7
  have t7 := t6.belowS hb7
  have atW7 := atW6.belowS hb7
  have owG7 := own_belowS owG6 hb7
  have owX7 := owX6.belowS hb7
  have hz7 := hb7.size
  have hup3 := ho3.up
  go_wp2_with fail
  refine (markIntSS_mid w3.heap.size _ n n 1 r3 _ w2.heap.size hn (by omega) (by omega) (HC.out r3 HM3.out).1 (HC.out r3 HM3.out).2.1 (by omega) owX7 hup3).mono ?_
  rintro e w8 ⟨rfl, _, hm8⟩
  have hzw2 := bw2.size
  have hb8 : Below w2.heap.size w7 w8 := hm8.below (by omega)
  have hb8' : Below w.heap.size w7 w8 := hb8.mono hzw2
  have bw8 : Below w.heap.size w w8 := bw7.trans hb8'
  have t8 : TabAt w8 A l := ⟨t7.outer.below hb8' htab.outer.lt, fun r hr => (t7.inner r hr).below hb8' (htab.inner r hr).lt⟩
  have atW8 := atW7.below hb8 atW2.lt
  have owG8 := own_mid owG7 hm8 (Nat.le_refl _)
  have hz8 := hm8.size
  clear hm8 hup3 owX7 owX6 owX5 hx4
  have htm : totR r3 ≤ 1048576 := (HC.out r3 HM3.out).2.1
  go_wp2_with fail
  refine (eqIntS_b _ _ _ _ _ _ _ _ _ (by omega) HM.out HM.out (own_at encI_len owG8 HM.out) atW8).mono ?_
  rintro e w9 hs9
  obtain ⟨rfl, hb9⟩ := sameB_refl rfl hs9
  have bw9 := below_step bw8 hb9
  have t9 := t8.belowS hb9
  have atW9 := atW8.belowS hb9
  have owG9 := own_belowS owG8 hb9
  have hz9 := hb9.size
  go_wp2_with fail
  refine (markIntS_any _ m _ 1 _ _ _ (by omega) (by omega) (by omega) owG9).mono ?_
  rintro e w10 ⟨rfl, owG10, hg10⟩
  have hzw3 : w.heap.size ≤ w3.heap.size := by omega
  have hb10 : Below w3.heap.size w9 w10 := below_row hg10 (by omega) (fun h => (hbl4 h).1)
  have hb10' : Below w.heap.size w9 w10 := hb10.mono hzw3
  have bw10 : Below w.heap.size w w10 := bw9.trans hb10'
  have t10 : TabAt w10 A l := ⟨t9.outer.below hb10' htab.outer.lt, fun r hr => (t9.inner r hr).below hb10' (htab.inner r hr).lt⟩
  have atW10 := atW9.below hb10 (fun h => Nat.lt_of_lt_of_le (atW2.lt h) hz3)
  have hz10 := hg10.size
  have atG10 := own_at encI_len owG10 (marks_len _ _)
  go_wp2_with fail
  refine (heldIntS_b _ m _ 1 _ (by omega) (by omega) (by omega) atG10).mono ?_
  rintro e w11 ⟨rfl, hb11⟩
  have bw11 := below_step bw10 hb11
  have t11 := t10.belowS hb11
  have atW11 := atW10.belowS hb11
  have atG11 := atG10.belowS hb11
  have hz11 := hb11.size
  go_wp2_with fail
  refine (toIntSS_any A n c l _ HL.out hn hz t11).mono ?_
  rintro e w12 ⟨g12, r12, rfl, hm12, ho12, hb12⟩
  have HM12 := Lib.hid hm12
  clear hm12
  have bw12 := below_step bw11 hb12
  have atW12 := atW11.belowS hb12
  have atG12 := atG11.belowS hb12
  go_wp2_with fail
  refine (implFramesOf_any _ n n r12 _ (HC.out r12 HM12.out).1 (ho12.tab (HC.out r12 HM12.out).1) hn (HC.out r12 HM12.out).2.2).mono ?_
  rw [HM12.out, HF.out, HO.out]
  rintro e w13 ⟨A13, c13, rfl, ho13, hb13⟩
  rw [HM.out] at ho13 ⊢
  have bw13 := below_step bw12 hb13
  have atW13 := atW12.belowS hb13
  have atG13 := atG12.belowS hb13
  go_wp2_with fail
  refine (eqIntS_b _ _ _ _ _ _ _ _ _ (by omega) HM.out HM.out (own_at encI_len ho13 HM.out) atW13).mono ?_
  rintro e w14 hs14
  obtain ⟨rfl, hb14⟩ := sameB_refl rfl hs14
  have bw14 := below_step bw13 hb14
  have atG14 := atG13.belowS hb14
  go_wp2_with fail
  refine (heldIntS_b _ m _ 1 _ (by omega) (by omega) (by omega) atG14).mono ?_
  rintro e w15 ⟨rfl, hb15⟩
  have bw15 := below_step bw14 hb15
  go_wp2
  go_ret
  exact ⟨rfl, bw15⟩
end Go.Proofs.Ytnlgpjloedoebaa
