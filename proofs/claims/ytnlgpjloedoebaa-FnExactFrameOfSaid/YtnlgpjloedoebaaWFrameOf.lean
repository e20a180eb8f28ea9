/- The walk of the exact law on FrameOf. -/
import Derived.Test.YtnlgpjloedoebaaFrameOf
namespace Go.Proofs.Ytnlgpjloedoebaa
open Go.RowKit
set_option linter.unusedVariables false

theorem frameL_len (l : List Int) : (frameL l).length ≤ 18 := by
  unfold frameL
  split
  · rename_i h
    have := (bodyB_iff.1 h).1
    simp; omega
  · simp

set_option maxHeartbeats 1000000 in
theorem walk_FnExactFrameOf (A : Option Addr) (n c : Nat) (l : List Int) (hl : l.length = n) (hnc : n ≤ c) (hcm : c ≤ maxLen) (w : World) (ha : At encI 1 w A l) (hw : ∀ u ∈ l, (Lit.int .i64 u).wf = true) :
    Calls Try.prog 8 #[.slice A n c] w fun e w' => e = .returned (.bool true) ∧ Below w.heap.size w w' := by
  have HL := Lib.hid hl
  clear hl
  by_cases hbig : 1048576 < n
  · go_enter Try.func8, Try.ntmps8
    go_wp2
    go_ret
    exact ⟨rfl, Below.refl _ _⟩
  have hn : n ≤ 1048576 := by omega
  clear hbig
  have hr := frameL_len l
  generalize hF : frameL l = F at hr
  have HF := Lib.hid hF
  clear hF
  go_enter Try.func8, Try.ntmps8
  go_wp2_with fail
  refine (toIntS_any A n c l _ (by omega) HL.out ha).mono ?_
  rintro e w1 ⟨g1, rfl, ho1, hb1⟩
  have ha1 := ha.belowS hb1
  go_wp2_with fail
  refine (specFrameOf_any _ n n l _ (by omega) HL.out (own_at encI_len ho1 HL.out)).mono ?_
  rw [HF.out]
  rintro e w2 ⟨A2, c2, rfl, ho2, hb2⟩
  have ha2 := ha1.belowS hb2
  have bw2 := below_step (below_step (Below.refl _ _) hb1) hb2
  have hbl2 := fun h => own_blk ho2 h
  have atW2 := own_at encI_len ho2 rfl
  go_wp2_with fail
  refine (toIntS_any A n c l _ (by omega) HL.out ha2).mono ?_
  rintro e w3 ⟨g3, rfl, ho3, hb3⟩
  have ha3 := ha2.belowS hb3
  have hbl3 := ho3.lt g3 rfl
  have atW3 := atW2.belowS hb3
  have atX3 := own_at encI_len ho3 HL.out
  go_wp2_with fail
  refine (implFrameOf_any _ n n l _ (by omega) HL.out atX3).mono ?_
  rw [HF.out]
  rintro e w4 ⟨A4, c4, rfl, ho4, hb4⟩
  have ha4 := ha3.belowS hb4
  have hbl4 := fun h => own_blk ho4 h
  have atW4 := atW3.belowS hb4
  have atG4 := own_at encI_len ho4 rfl
  have hx4 := own_belowS ho3 hb4
  have bw4 : Below w.heap.size w w4 := below_step (below_step (below_step (below_step (Below.refl _ _) hb1) hb2) hb3) hb4
  go_wp2_with fail
  refine (eqIntS_b _ _ _ _ _ _ _ _ _ (by omega) rfl rfl atG4 atW4).mono ?_
  rintro e w5 hs5
  obtain ⟨rfl, hb5⟩ := sameB_refl rfl hs5
  have bw5 := below_step bw4 hb5
  have ha5 := ha4.belowS hb5
  have atW5 := atW4.belowS hb5
  have owG5 := own_belowS ho4 hb5
  have owX5 := own_belowS hx4 hb5
  go_wp2_with fail
  refine (toIntS_any A n c l _ (by omega) HL.out ha5).mono ?_
  rintro e w6 ⟨g6, rfl, ho6, hb6⟩
  have bw6 := below_step bw5 hb6
  have ha6 := ha5.belowS hb6
  have atW6 := atW5.belowS hb6
  have owG6 := own_belowS owG5 hb6
  have owX6 := own_belowS owX5 hb6
  go_wp2_with fail
  refine (eqIntS_b _ _ _ _ _ _ _ _ _ (by omega) HL.out HL.out (own_at encI_len owX6 HL.out) (own_at encI_len ho6 HL.out)).mono ?_
  rintro e w7 hs7
  obtain ⟨rfl, hb7⟩ := sameB_refl rfl hs7
  have bw7 := below_step bw6 hb7
  have ha7 := ha6.belowS hb7
  have atW7 := atW6.belowS hb7
  have owG7 := own_belowS owG6 hb7
  have owX7 := own_belowS owX6 hb7
  go_wp2_with fail
  refine (markIntS_any _ n n 1 _ _ _ (by omega) (by omega) (by omega) owX7).mono ?_
  rintro e w8 ⟨rfl, owX8, hg8⟩
  have bw8 := below_only bw7 hg8 (rowOf_ge fun _ => by have := bw2.size; show w.heap.size ≤ g3; omega)
  have ha8 := ha7.grown hg8 (fun h => rowOf_ne (by have := ha.lt h; have := bw2.size; show blk A ≠ g3; omega))
  have atW8 := atW7.grown hg8 (fun h => rowOf_ne (by have := hbl2 h; show blk A2 ≠ g3; omega))
  have owG8 := own_far owG7 hg8 (by show g3 < _; omega)
  have atG8 := own_at encI_len owG8 rfl
  go_wp2_with fail
  refine (eqIntS_b _ _ _ _ _ _ _ _ _ (by omega) rfl rfl atG8 atW8).mono ?_
  rintro e w9 hs9
  obtain ⟨rfl, hb9⟩ := sameB_refl rfl hs9
  have bw9 := below_step bw8 hb9
  have ha9 := ha8.belowS hb9
  have atW9 := atW8.belowS hb9
  have owG9 := own_belowS owG8 hb9
  go_wp2_with fail
  refine (markIntS_any _ _ _ 1 _ _ _ (by omega) (by omega) (by omega) owG9).mono ?_
  rintro e w10 ⟨rfl, owG10, hg10⟩
  have bw10 := below_only bw9 hg10 (rowOf_ge fun h => by have := bw2.size; have := hbl4 h; omega)
  have ha10 := ha9.grown hg10 (fun h => rowOf_ne' fun h2 => by have := ha.lt h; have := bw2.size; have := hbl4 h2; omega)
  have atW10 := atW9.grown hg10 (fun h => rowOf_ne' fun h2 => by have := hbl2 h; have := hbl4 h2; omega)
  have atG10 := own_at encI_len owG10 (marks_len _ _)
  go_wp2_with fail
  refine (heldIntS_b _ _ _ 1 _ (by omega) (by omega) (by omega) atG10).mono ?_
  rintro e w11 ⟨rfl, hb11⟩
  have bw11 := below_step bw10 hb11
  have ha11 := ha10.belowS hb11
  have atW11 := atW10.belowS hb11
  have atG11 := atG10.belowS hb11
  go_wp2_with fail
  refine (toIntS_any A n c l _ (by omega) HL.out ha11).mono ?_
  rintro e w12 ⟨g12, rfl, ho12, hb12⟩
  have bw12 := below_step bw11 hb12
  have atW12 := atW11.belowS hb12
  have atG12 := atG11.belowS hb12
  go_wp2_with fail
  refine (implFrameOf_any _ n n l _ (by omega) HL.out (own_at encI_len ho12 HL.out)).mono ?_
  rw [HF.out]
  rintro e w13 ⟨A13, c13, rfl, ho13, hb13⟩
  have bw13 := below_step bw12 hb13
  have atW13 := atW12.belowS hb13
  have atG13 := atG12.belowS hb13
  go_wp2_with fail
  refine (eqIntS_b _ _ _ _ _ _ _ _ _ (by omega) rfl rfl (own_at encI_len ho13 rfl) atW13).mono ?_
  rintro e w14 hs14
  obtain ⟨rfl, hb14⟩ := sameB_refl rfl hs14
  have bw14 := below_step bw13 hb14
  have atG14 := atG13.belowS hb14
  go_wp2_with fail
  refine (heldIntS_b _ _ _ 1 _ (by omega) (by omega) (by omega) atG14).mono ?_
  rintro e w15 ⟨rfl, hb15⟩
  have bw15 := below_step bw14 hb15
  go_wp2
  go_ret
  exact ⟨rfl, bw15⟩
end Go.Proofs.Ytnlgpjloedoebaa
