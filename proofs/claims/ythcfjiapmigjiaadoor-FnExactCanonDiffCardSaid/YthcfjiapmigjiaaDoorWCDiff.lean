/- The walk of the law on the canonical log between two trees. -/
import Derived.Test.YthcfjiapmigjiaaDoorCDiffI
import Derived.Test.YthcfjiapmigjiaaDoorCDiffS
import Derived.Test.YthcfjiapmigjiaaDoorMarkN
import Derived.Test.YthcfjiapmigjiaaDoorMarkK
namespace Go.Proofs.YthcfjiapmigjiaaDoor
open Go.RowKit
set_option linter.unusedVariables false
set_option linter.unusedSimpArgs false
set_option maxRecDepth 20000

set_option maxHeartbeats 4000000 in
theorem walk_FnExactCanonDiff (A0 : Option Addr) (n0 c0 : Nat) (l0 : List Nod) (hl0 : l0.length = n0) (hnc0 : n0 ≤ c0) (hcm0 : c0 ≤ maxLen) (A1 : Option Addr) (n1 c1 : Nat) (l1 : List Nod) (hl1 : l1.length = n1) (hnc1 : n1 ≤ c1) (hcm1 : c1 ≤ maxLen) (w : World) (ha0 : At encN 3 w A0 l0) (hw0 : ∀ q ∈ l0, q.wf) (ha1 : At encN 3 w A1 l1) (hw1 : ∀ q ∈ l1, q.wf) (hm : MaxAt w) :
    Calls Tryd.prog 3 #[.slice A0 n0 c0, .slice A1 n1 c1] w fun e w' => e = .returned (.bool true) ∧ Below w.heap.size w w' := by
  have HM := Lib.hid hm
  clear hm
  have HL0 := Lib.hid hl0
  have hcc0 := Nat.le_trans hnc0 hcm0
  clear hl0
  have HL1 := Lib.hid hl1
  have hcc1 := Nat.le_trans hnc1 hcm1
  clear hl1
  go_enter Tryd.func3, Tryd.ntmps3
  go_wp2_with fail
  refine (szNodeS_any A0 n0 c0 l0 1048576 _ HL0.out hcc0 (ha0.belowS (Below.refl w.heap.size w)) hw0 (by omega) (by omega)).mono ?_
  rintro e w1 ⟨r0, rfl, hr0, hb1⟩
  have bw1 := below_step (Below.refl w.heap.size w) hb1
  rcases hr0 with hr0 | ⟨hra0, hrn0, hrz0⟩
  · have hd0 : decide (r0 < 0) = true := decide_eq_true hr0
    go_wp2_with fail
    go_ret
    exact ⟨rfl, bw1⟩
  rw [HL0.out] at hrn0
  have hd0 : decide (r0 < 0) = false := decide_eq_false (by omega)
  have hn0 : n0 ≤ 1048576 := by omega
  have hz0 : ∀ q ∈ l0, q.p.size ≤ 1048576 := fun q hq => by have := hrz0 q hq; omega
  have hrr0 : r0 ≤ 1048576 := by omega
  clear hrz0 hrn0
  go_wp2_with fail
  refine (szNodeS_any A1 n1 c1 l1 r0 _ HL1.out hcc1 (ha1.belowS bw1) hw1 (by omega) (by omega)).mono ?_
  rintro e w2 ⟨r1, rfl, hr1, hb2⟩
  have bw2 := below_step bw1 hb2
  rcases hr1 with hr1 | ⟨hra1, hrn1, hrz1⟩
  · have hd1 : decide (r1 < 0) = true := decide_eq_true hr1
    go_wp2_with fail
    go_ret
    exact ⟨rfl, bw2⟩
  rw [HL1.out] at hrn1
  have hd1 : decide (r1 < 0) = false := decide_eq_false (by omega)
  have hn1 : n1 ≤ 1048576 := by omega
  have hz1 : ∀ q ∈ l1, q.p.size ≤ 1048576 := fun q hq => by have := hrz1 q hq; omega
  have hrr1 : r1 ≤ 1048576 := by omega
  clear hrz1 hrn1
  go_wp2_with fail
  refine (toNodeS_any A0 n0 c0 l0 _ (by omega) HL0.out (ha0.belowS bw2)).mono ?_
  rintro e w3 ⟨g3, rfl, ho3, hb3⟩
  have bw3 := below_step bw2 hb3
  go_wp2_with fail
  refine (toNodeS_any A1 n1 c1 l1 _ (by omega) HL1.out (ha1.belowS bw3)).mono ?_
  rintro e w4 ⟨g4, rfl, ho4, hb4⟩
  have bw4 := below_step bw3 hb4
  have ho3_4 := own_belowS ho3 hb4
  go_wp2_with fail
  refine (specCanonDiff_any _ n0 n0 l0 _ n1 n1 l1 _ (by omega) (by omega) HL0.out HL1.out (own_at encN_len ho3_4 HL0.out) (own_at encN_len ho4 HL1.out) hz0 hz1).mono ?_
  rintro e w5 ⟨AW, cW, m, b, rfl, hR, hoW, hb5⟩
  clear ho3_4
  clear ho4
  have bw5 := below_step bw4 hb5
  have HR := Lib.hid hR
  have hN := hR.len20
  have hblW := fun h => own_blk hoW h
  have atW := own_at encK_len hoW rfl
  obtain ⟨N, hNe⟩ : ∃ N, m.length = N := ⟨_, rfl⟩
  have HNE := Lib.hid hNe
  rw [hNe] at hN hoW hblW ⊢
  clear hR hNe hoW
  go_wp2_with fail
  refine (toNodeS_any A0 n0 c0 l0 _ (by omega) HL0.out (ha0.belowS bw5)).mono ?_
  rintro e w6 ⟨g6, rfl, ho6, hb6⟩
  have bw6 := below_step bw5 hb6
  have atW_6 := atW.belowS hb6
  have hblho6 := ho6.lt g6 rfl
  go_wp2_with fail
  refine (toNodeS_any A1 n1 c1 l1 _ (by omega) HL1.out (ha1.belowS bw6)).mono ?_
  rintro e w7 ⟨g7, rfl, ho7, hb7⟩
  have bw7 := below_step bw6 hb7
  have atW_7 := atW_6.belowS hb7
  clear atW_6
  have ho6_7 := own_belowS ho6 hb7
  have hblho7 := ho7.lt g7 rfl
  go_wp2_with fail
  refine (implCanonDiff_any _ n0 n0 l0 _ n1 n1 l1 _ (by omega) (by omega) HL0.out HL1.out (own_at encN_len ho6_7 HL0.out) (own_at encN_len ho7 HL1.out) hz0 hz1 (HM.out.belowS bw7)).mono ?_
  rintro e w8 ⟨AG, cG, m', b', rfl, hR', hoG, hb8⟩
  obtain ⟨rfl, rfl⟩ := DifR.same hR' HR.out
  rw [HNE.out] at hoG ⊢
  have bw8 := below_step bw7 hb8
  have atW_8 := atW_7.belowS hb8
  clear atW_7
  have ho6_8 := own_belowS ho6_7 hb8
  clear ho6_7
  have ho7_8 := own_belowS ho7 hb8
  have hblG := fun h => own_blk hoG h
  clear hR'
  have hbb : (b' != b') = false := by simp
  go_wp2_with fail
  refine (eqCommandS_same _ N _ _ _ m' _ (by omega) HNE.out (own_at encK_len hoG HNE.out) atW_8).mono ?_
  rintro e w9 ⟨rfl, hb9⟩
  have bw9 := below_step bw8 hb9
  have atW_9 := atW_8.belowS hb9
  clear atW_8
  have ho6_9 := own_belowS ho6_8 hb9
  clear ho6_8
  have ho7_9 := own_belowS ho7_8 hb9
  clear ho7_8
  have hoG_9 := own_belowS hoG hb9
  go_wp2_with fail
  refine (toNodeS_any A0 n0 c0 l0 _ (by omega) HL0.out (ha0.belowS bw9)).mono ?_
  rintro e w10 ⟨g10, rfl, ho10, hb10⟩
  have bw10 := below_step bw9 hb10
  have atW_10 := atW_9.belowS hb10
  clear atW_9
  have ho6_10 := own_belowS ho6_9 hb10
  clear ho6_9
  have ho7_10 := own_belowS ho7_9 hb10
  clear ho7_9
  have hoG_10 := own_belowS hoG_9 hb10
  clear hoG_9
  go_wp2_with fail
  refine (eqNodeS_same _ n0 _ _ _ l0 _ (by omega) HL0.out (own_at encN_len ho6_10 HL0.out) (own_at encN_len ho10 HL0.out)).mono ?_
  rintro e w11 ⟨rfl, hb11⟩
  have bw11 := below_step bw10 hb11
  have atW_11 := atW_10.belowS hb11
  clear atW_10
  have ho6_11 := own_belowS ho6_10 hb11
  clear ho6_10
  have ho7_11 := own_belowS ho7_10 hb11
  clear ho7_10
  have hoG_11 := own_belowS hoG_10 hb11
  clear hoG_10
  clear ho10
  go_wp2_with fail
  refine (toNodeS_any A1 n1 c1 l1 _ (by omega) HL1.out (ha1.belowS bw11)).mono ?_
  rintro e w12 ⟨g12, rfl, ho12, hb12⟩
  have bw12 := below_step bw11 hb12
  have atW_12 := atW_11.belowS hb12
  clear atW_11
  have ho6_12 := own_belowS ho6_11 hb12
  clear ho6_11
  have ho7_12 := own_belowS ho7_11 hb12
  clear ho7_11
  have hoG_12 := own_belowS hoG_11 hb12
  clear hoG_11
  go_wp2_with fail
  refine (eqNodeS_same _ n1 _ _ _ l1 _ (by omega) HL1.out (own_at encN_len ho7_12 HL1.out) (own_at encN_len ho12 HL1.out)).mono ?_
  rintro e w13 ⟨rfl, hb13⟩
  have bw13 := below_step bw12 hb13
  have atW_13 := atW_12.belowS hb13
  clear atW_12
  have ho6_13 := own_belowS ho6_12 hb13
  clear ho6_12
  have ho7_13 := own_belowS ho7_12 hb13
  clear ho7_12
  have hoG_13 := own_belowS hoG_12 hb13
  clear hoG_12
  clear ho12
  go_wp2_with fail
  have ha0_m := ha0.belowS bw13
  have ha1_m := ha1.belowS bw13
  refine (markNodeS_any _ n0 n0 (1) _ _ _ (by omega) (by omega) (by omega) ho6_13 (by have := hb6.size; have := hb7.size; have := hb8.size; have := hb9.size; have := hb10.size; have := hb11.size; have := hb12.size; have := hb13.size; omega)).mono ?_
  rintro e w14 ⟨rfl, ho6_m, hg14⟩
  have bw14 := below_only bw13 hg14 (rowOf_ge fun _ => by have h1 := hblho6.1; have h2 := bw5.size; show w.heap.size ≤ g6; omega)
  have atW_14 := atW_13.grown hg14 (fun h => rowOf_ne (by have h0 := (hblW (by rw [← HNE.out]; exact h)).2; have h1 := hblho6.1; show blk AW ≠ g6; omega))
  clear atW_13
  have ho7_14 := own_far ho7_13 hg14 (by have h1 := hblho6.2; show g6 < _; omega)
  clear ho7_13
  have hoG_14 := own_far hoG_13 hg14 (by have h1 := hblho6.2; have := hb7.size; show g6 < _; omega)
  clear hoG_13
  have ha0_14 := ha0_m.grown hg14 (fun h => rowOf_ne (by have h0 := ha0.lt h; have h1 := hblho6.1; have h2 := bw5.size; show blk A0 ≠ g6; omega))
  clear ha0_m
  have ha1_14 := ha1_m.grown hg14 (fun h => rowOf_ne (by have h0 := ha1.lt h; have h1 := hblho6.1; have h2 := bw5.size; show blk A1 ≠ g6; omega))
  clear ha1_m
  clear ho6_m
  have hk14 : decide (((1 + 3 * n0 : Nat) : Int) < 0) = false := decide_eq_false (by omega)
  go_wp2_with fail
  refine (markNodeS_any _ n1 n1 (1 + 3 * n0) _ _ _ (by omega) (by omega) (by omega) ho7_14 (by have := hb7.size; have := hb8.size; have := hb9.size; have := hb10.size; have := hb11.size; have := hb12.size; have := hb13.size; have := hg14.size; omega)).mono ?_
  rintro e w15 ⟨rfl, ho7_m, hg15⟩
  have bw15 := below_only bw14 hg15 (rowOf_ge fun _ => by have h1 := hblho7.1; have h2 := bw6.size; show w.heap.size ≤ g7; omega)
  have atW_15 := atW_14.grown hg15 (fun h => rowOf_ne (by have h0 := (hblW (by rw [← HNE.out]; exact h)).2; have h1 := hblho7.1; have := hb6.size; show blk AW ≠ g7; omega))
  clear atW_14
  have hoG_15 := own_far hoG_14 hg15 (by have h1 := hblho7.2; show g7 < _; omega)
  clear hoG_14
  have ha0_15 := ha0_14.grown hg15 (fun h => rowOf_ne (by have h0 := ha0.lt h; have h1 := hblho7.1; have h2 := bw6.size; show blk A0 ≠ g7; omega))
  clear ha0_14
  have ha1_15 := ha1_14.grown hg15 (fun h => rowOf_ne (by have h0 := ha1.lt h; have h1 := hblho7.1; have h2 := bw6.size; show blk A1 ≠ g7; omega))
  clear ha1_14
  clear ho7_m
  have hk15 : decide (((1 + 3 * n0 + 3 * n1 : Nat) : Int) < 0) = false := decide_eq_false (by omega)
  go_wp2_with fail
  refine (eqCommandS_same _ N _ _ _ m' _ (by omega) HNE.out (own_at encK_len hoG_15 HNE.out) atW_15).mono ?_
  rintro e w16 ⟨rfl, hb16⟩
  have bw16 := below_step bw15 hb16
  have atW_16 := atW_15.belowS hb16
  clear atW_15
  have hoG_16 := own_belowS hoG_15 hb16
  clear hoG_15
  have ha0_16 := ha0_15.belowS hb16
  clear ha0_15
  have ha1_16 := ha1_15.belowS hb16
  clear ha1_15
  go_wp2_with fail
  refine (markCommandS_any _ N _ 1 _ _ _ (by omega) (by omega) (by omega) hoG_16 (by have := hb8.size; have := hb9.size; have := hb10.size; have := hb11.size; have := hb12.size; have := hb13.size; have := hg14.size; have := hg15.size; have := hb16.size; omega)).mono ?_
  rintro e w17 ⟨rfl, hoGm, hg17⟩
  have bw17 := below_only bw16 hg17 (rowOf_ge fun h => by have h1 := (hblG h).1; have h2 := bw7.size; omega)
  have atW_17 := atW_16.grown hg17 (fun h => rowOf_ne' fun h2 => by have h0 := (hblW (by rw [← HNE.out]; exact h)).2; have h1 := (hblG h2).1; have := hb6.size; have := hb7.size; omega)
  clear atW_16
  have ha0_17 := ha0_16.grown hg17 (fun h => rowOf_ne' fun h2 => by have h0 := ha0.lt h; have h1 := (hblG h2).1; have h3 := bw7.size; omega)
  clear ha0_16
  have ha1_17 := ha1_16.grown hg17 (fun h => rowOf_ne' fun h2 => by have h0 := ha1.lt h; have h1 := (hblG h2).1; have h3 := bw7.size; omega)
  clear ha1_16
  have atG := own_at encK_len hoGm (marksK_len _ _)
  clear hoGm
  have hk17 : decide (((1 + 5 * N : Nat) : Int) < 0) = false := decide_eq_false (by omega)
  have hkk : (((1 + 5 * N : Nat) : Int) != ((1 + 5 * N : Nat) : Int)) = false := by simp
  go_wp2_with fail
  refine (heldCommandS_any _ N _ 1 _ (by omega) (by omega) (by omega) atG).mono ?_
  rintro e w18 ⟨rfl, hb18⟩
  have bw18 := below_step bw17 hb18
  have atW_18 := atW_17.belowS hb18
  clear atW_17
  have ha0_18 := ha0_17.belowS hb18
  clear ha0_17
  have ha1_18 := ha1_17.belowS hb18
  clear ha1_17
  have atG_18 := atG.belowS hb18
  go_wp2_with fail
  refine (toNodeS_any A0 n0 c0 l0 _ (by omega) HL0.out ha0_18).mono ?_
  rintro e w19 ⟨g19, rfl, ho19, hb19⟩
  have bw19 := below_step bw18 hb19
  have atW_19 := atW_18.belowS hb19
  clear atW_18
  have ha0_19 := ha0_18.belowS hb19
  clear ha0_18
  have ha1_19 := ha1_18.belowS hb19
  clear ha1_18
  have atG_19 := atG_18.belowS hb19
  clear atG_18
  go_wp2_with fail
  refine (toNodeS_any A1 n1 c1 l1 _ (by omega) HL1.out ha1_19).mono ?_
  rintro e w20 ⟨g20, rfl, ho20, hb20⟩
  have bw20 := below_step bw19 hb20
  have atW_20 := atW_19.belowS hb20
  clear atW_19
  have ha0_20 := ha0_19.belowS hb20
  clear ha0_19
  have ha1_20 := ha1_19.belowS hb20
  clear ha1_19
  have atG_20 := atG_19.belowS hb20
  clear atG_19
  have ho19_20 := own_belowS ho19 hb20
  go_wp2_with fail
  refine (implCanonDiff_any _ n0 n0 l0 _ n1 n1 l1 _ (by omega) (by omega) HL0.out HL1.out (own_at encN_len ho19_20 HL0.out) (own_at encN_len ho20 HL1.out) hz0 hz1 (HM.out.belowS bw20)).mono ?_
  rintro e w21 ⟨AH, cH, m2, b2, rfl, hR2, hoH, hb21⟩
  obtain ⟨rfl, rfl⟩ := DifR.same hR2 HR.out
  rw [HNE.out] at hoH ⊢
  clear ho19_20
  clear ho20
  clear ha0_20
  clear ha1_20
  have bw21 := below_step bw20 hb21
  have atW_21 := atW_20.belowS hb21
  clear atW_20
  have atG_21 := atG_20.belowS hb21
  clear atG_20
  clear hR2
  go_wp2_with fail
  refine (eqCommandS_same _ N _ _ _ m2 _ (by omega) HNE.out (own_at encK_len hoH HNE.out) atW_21).mono ?_
  rintro e w22 ⟨rfl, hb22⟩
  have bw22 := below_step bw21 hb22
  have atW_22 := atW_21.belowS hb22
  clear atW_21
  have atG_22 := atG_21.belowS hb22
  clear atG_21
  go_wp2_with fail
  clear atW_22
  refine (heldCommandS_any _ N _ 1 _ (by omega) (by omega) (by omega) atG_22).mono ?_
  rintro e w23 ⟨rfl, hb23⟩
  have bw23 := below_step bw22 hb23
  have atG_23 := atG_22.belowS hb23
  clear atG_22
  go_wp2_with fail
  go_ret
  exact ⟨rfl, bw23⟩
end Go.Proofs.YthcfjiapmigjiaaDoor
