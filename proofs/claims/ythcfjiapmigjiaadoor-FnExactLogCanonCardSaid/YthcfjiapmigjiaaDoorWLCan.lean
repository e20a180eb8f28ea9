/- The walk of the law on canonical logs. -/
import Derived.Test.YthcfjiapmigjiaaDoorCanI
import Derived.Test.YthcfjiapmigjiaaDoorCanF
import Derived.Test.YthcfjiapmigjiaaDoorMarkK
namespace Go.Proofs.YthcfjiapmigjiaaDoor
open Go.RowKit
set_option linter.unusedVariables false
set_option linter.unusedSimpArgs false
set_option maxRecDepth 20000

set_option maxHeartbeats 4000000 in
theorem walk_FnExactLogCanon (A0 : Option Addr) (n0 c0 : Nat) (l0 : List Cmd) (hl0 : l0.length = n0) (hnc0 : n0 ≤ c0) (hcm0 : c0 ≤ maxLen) (w : World) (ha0 : At encK 5 w A0 l0) (hw0 : ∀ q ∈ l0, q.wf) (hm : MaxAt w) :
    Calls Tryd.prog 4 #[.slice A0 n0 c0] w fun e w' => e = .returned (.bool true) ∧ Below w.heap.size w w' := by
  have HM := Lib.hid hm
  clear hm
  have HL0 := Lib.hid hl0
  have hcc0 := Nat.le_trans hnc0 hcm0
  clear hl0
  go_enter Tryd.func4, Tryd.ntmps4
  go_wp2_with fail
  refine (szCommandS_any A0 n0 c0 l0 1048576 _ HL0.out hcc0 (ha0.belowS (Below.refl w.heap.size w)) hw0 (by omega) (by omega)).mono ?_
  rintro e w1 ⟨r0, rfl, hr0, hb1⟩
  have bw1 := below_step (Below.refl w.heap.size w) hb1
  rcases hr0 with hr0 | ⟨hra0, hrn0, hrz0⟩
  · have hd0 : decide (r0 < 0) = true := decide_eq_true hr0
    go_wp2_with fail
    go_ret
    exact ⟨rfl, bw1⟩
  rw [HL0.out] at hrn0
  have hd0 : decide (r0 < 0) = false := decide_eq_false (by omega)
  have hn0 : n0 ≤ 1048576 := by omega
  have hz0 : ∀ q ∈ l0, q.p.size ≤ 1048576 := fun q hq => by have := hrz0 q hq; omega
  have hrr0 : r0 ≤ 1048576 := by omega
  clear hrz0 hrn0
  go_wp2_with fail
  refine (toCommandS_any A0 n0 c0 l0 _ (by omega) HL0.out (ha0.belowS bw1)).mono ?_
  rintro e w2 ⟨g2, rfl, ho2, hb2⟩
  have bw2 := below_step bw1 hb2
  go_wp2_with fail
  refine (specLogCanon_any _ n0 n0 l0 _ (by omega) HL0.out (own_at encK_len ho2 HL0.out) hz0).mono ?_
  rintro e w3 ⟨AW, cW, m, b, rfl, hR, hoW, hb3⟩
  clear ho2
  have bw3 := below_step bw2 hb3
  have HR := Lib.hid hR
  have hN := hR.len
  rw [HL0.out] at hN
  have hblW := fun h => own_blk hoW h
  have atW := own_at encK_len hoW rfl
  obtain ⟨N, hNe⟩ : ∃ N, m.length = N := ⟨_, rfl⟩
  have HNE := Lib.hid hNe
  rw [hNe] at hN hoW hblW ⊢
  clear hR hNe hoW
  go_wp2_with fail
  refine (toCommandS_any A0 n0 c0 l0 _ (by omega) HL0.out (ha0.belowS bw3)).mono ?_
  rintro e w4 ⟨g4, rfl, ho4, hb4⟩
  have bw4 := below_step bw3 hb4
  have atW_4 := atW.belowS hb4
  have hblho4 := ho4.lt g4 rfl
  go_wp2_with fail
  refine (implLogCanon_any _ n0 n0 l0 _ (by omega) HL0.out (own_at encK_len ho4 HL0.out) hz0 (HM.out.belowS bw4)).mono ?_
  rintro e w5 ⟨AG, cG, m', b', rfl, hR', hoG, hb5⟩
  obtain ⟨rfl, rfl⟩ := CanR.same hR' HR.out
  rw [HNE.out] at hoG ⊢
  have bw5 := below_step bw4 hb5
  have atW_5 := atW_4.belowS hb5
  clear atW_4
  have ho4_5 := own_belowS ho4 hb5
  have hblG := fun h => own_blk hoG h
  clear hR'
  have hbb : (b' != b') = false := by simp
  go_wp2_with fail
  refine (eqCommandS_same _ N _ _ _ m' _ (by omega) HNE.out (own_at encK_len hoG HNE.out) atW_5).mono ?_
  rintro e w6 ⟨rfl, hb6⟩
  have bw6 := below_step bw5 hb6
  have atW_6 := atW_5.belowS hb6
  clear atW_5
  have ho4_6 := own_belowS ho4_5 hb6
  clear ho4_5
  have hoG_6 := own_belowS hoG hb6
  go_wp2_with fail
  refine (toCommandS_any A0 n0 c0 l0 _ (by omega) HL0.out (ha0.belowS bw6)).mono ?_
  rintro e w7 ⟨g7, rfl, ho7, hb7⟩
  have bw7 := below_step bw6 hb7
  have atW_7 := atW_6.belowS hb7
  clear atW_6
  have ho4_7 := own_belowS ho4_6 hb7
  clear ho4_6
  have hoG_7 := own_belowS hoG_6 hb7
  clear hoG_6
  go_wp2_with fail
  refine (eqCommandS_same _ n0 _ _ _ l0 _ (by omega) HL0.out (own_at encK_len ho4_7 HL0.out) (own_at encK_len ho7 HL0.out)).mono ?_
  rintro e w8 ⟨rfl, hb8⟩
  have bw8 := below_step bw7 hb8
  have atW_8 := atW_7.belowS hb8
  clear atW_7
  have ho4_8 := own_belowS ho4_7 hb8
  clear ho4_7
  have hoG_8 := own_belowS hoG_7 hb8
  clear hoG_7
  clear ho7
  go_wp2_with fail
  have ha0_m := ha0.belowS bw8
  refine (markCommandS_any _ n0 n0 (1) _ _ _ (by omega) (by omega) (by omega) ho4_8 (by have := hb4.size; have := hb5.size; have := hb6.size; have := hb7.size; have := hb8.size; omega)).mono ?_
  rintro e w9 ⟨rfl, ho4_m, hg9⟩
  have bw9 := below_only bw8 hg9 (rowOf_ge fun _ => by have h1 := hblho4.1; have h2 := bw3.size; show w.heap.size ≤ g4; omega)
  have atW_9 := atW_8.grown hg9 (fun h => rowOf_ne (by have h0 := (hblW (by rw [← HNE.out]; exact h)).2; have h1 := hblho4.1; show blk AW ≠ g4; omega))
  clear atW_8
  have hoG_9 := own_far hoG_8 hg9 (by have h1 := hblho4.2; show g4 < _; omega)
  clear hoG_8
  have ha0_9 := ha0_m.grown hg9 (fun h => rowOf_ne (by have h0 := ha0.lt h; have h1 := hblho4.1; have h2 := bw3.size; show blk A0 ≠ g4; omega))
  clear ha0_m
  clear ho4_m
  have hk9 : decide (((1 + 5 * n0 : Nat) : Int) < 0) = false := decide_eq_false (by omega)
  go_wp2_with fail
  refine (eqCommandS_same _ N _ _ _ m' _ (by omega) HNE.out (own_at encK_len hoG_9 HNE.out) atW_9).mono ?_
  rintro e w10 ⟨rfl, hb10⟩
  have bw10 := below_step bw9 hb10
  have atW_10 := atW_9.belowS hb10
  clear atW_9
  have hoG_10 := own_belowS hoG_9 hb10
  clear hoG_9
  have ha0_10 := ha0_9.belowS hb10
  clear ha0_9
  go_wp2_with fail
  refine (markCommandS_any _ N _ 1 _ _ _ (by omega) (by omega) (by omega) hoG_10 (by have := hb5.size; have := hb6.size; have := hb7.size; have := hb8.size; have := hg9.size; have := hb10.size; omega)).mono ?_
  rintro e w11 ⟨rfl, hoGm, hg11⟩
  have bw11 := below_only bw10 hg11 (rowOf_ge fun h => by have h1 := (hblG h).1; have h2 := bw4.size; omega)
  have atW_11 := atW_10.grown hg11 (fun h => rowOf_ne' fun h2 => by have h0 := (hblW (by rw [← HNE.out]; exact h)).2; have h1 := (hblG h2).1; have := hb4.size; omega)
  clear atW_10
  have ha0_11 := ha0_10.grown hg11 (fun h => rowOf_ne' fun h2 => by have h0 := ha0.lt h; have h1 := (hblG h2).1; have h3 := bw4.size; omega)
  clear ha0_10
  have atG := own_at encK_len hoGm (marksK_len _ _)
  clear hoGm
  have hk11 : decide (((1 + 5 * N : Nat) : Int) < 0) = false := decide_eq_false (by omega)
  have hkk : (((1 + 5 * N : Nat) : Int) != ((1 + 5 * N : Nat) : Int)) = false := by simp
  go_wp2_with fail
  refine (heldCommandS_any _ N _ 1 _ (by omega) (by omega) (by omega) atG).mono ?_
  rintro e w12 ⟨rfl, hb12⟩
  have bw12 := below_step bw11 hb12
  have atW_12 := atW_11.belowS hb12
  clear atW_11
  have ha0_12 := ha0_11.belowS hb12
  clear ha0_11
  have atG_12 := atG.belowS hb12
  go_wp2_with fail
  refine (toCommandS_any A0 n0 c0 l0 _ (by omega) HL0.out ha0_12).mono ?_
  rintro e w13 ⟨g13, rfl, ho13, hb13⟩
  have bw13 := below_step bw12 hb13
  have atW_13 := atW_12.belowS hb13
  clear atW_12
  have ha0_13 := ha0_12.belowS hb13
  clear ha0_12
  have atG_13 := atG_12.belowS hb13
  clear atG_12
  go_wp2_with fail
  refine (implLogCanon_any _ n0 n0 l0 _ (by omega) HL0.out (own_at encK_len ho13 HL0.out) hz0 (HM.out.belowS bw13)).mono ?_
  rintro e w14 ⟨AH, cH, m2, b2, rfl, hR2, hoH, hb14⟩
  obtain ⟨rfl, rfl⟩ := CanR.same hR2 HR.out
  rw [HNE.out] at hoH ⊢
  clear ho13
  clear ha0_13
  have bw14 := below_step bw13 hb14
  have atW_14 := atW_13.belowS hb14
  clear atW_13
  have atG_14 := atG_13.belowS hb14
  clear atG_13
  clear hR2
  go_wp2_with fail
  refine (eqCommandS_same _ N _ _ _ m2 _ (by omega) HNE.out (own_at encK_len hoH HNE.out) atW_14).mono ?_
  rintro e w15 ⟨rfl, hb15⟩
  have bw15 := below_step bw14 hb15
  have atW_15 := atW_14.belowS hb15
  clear atW_14
  have atG_15 := atG_14.belowS hb15
  clear atG_14
  go_wp2_with fail
  clear atW_15
  refine (heldCommandS_any _ N _ 1 _ (by omega) (by omega) (by omega) atG_15).mono ?_
  rintro e w16 ⟨rfl, hb16⟩
  have bw16 := below_step bw15 hb16
  have atG_16 := atG_15.belowS hb16
  clear atG_15
  go_wp2_with fail
  go_ret
  exact ⟨rfl, bw16⟩
end Go.Proofs.YthcfjiapmigjiaaDoor
