/- The walk of the law on the exchange of two commands. -/
import Derived.Test.YtkbebgpafjopnaaDoorSwapI
namespace Go.Proofs.YtkbebgpafjopnaaDoor
open Go.RowKit
set_option linter.unusedVariables false
set_option linter.unusedSimpArgs false
set_option maxRecDepth 20000

theorem swapR_len {l m : List Cmd} {k : Int} {b : Bool} (h : SwapR l k m b) : m.length ≤ l.length := by
  rcases h with ⟨_, _, h2, rfl, _⟩ | ⟨_, rfl, _⟩
  · rw [(swap_perm l k.toNat (by omega)).length_eq]; exact Nat.le_refl _
  · simp
set_option maxHeartbeats 4000000 in
theorem walk_FnExactOrderSwap (A : Option Addr) (n c : Nat) (l : List Cmd) (hl : l.length = n) (hnc : n ≤ c) (hcm : c ≤ maxLen) (k : Int) (wk : (Lit.int .i64 k).wf = true) (w : World) (ha : At encK 5 w A l) (hw : ∀ q ∈ l, q.wf) (hm : MaxAt w) :
    Calls Tryd.prog 12 #[.slice A n c, .int .i64 k] w fun e w' => e = .returned (.bool true) ∧ Below w.heap.size w w' := by
  have HM := Lib.hid hm
  have HL := Lib.hid hl
  clear hm
  go_enter Tryd.func12, Tryd.ntmps12
  go_wp2_with fail
  refine (szCommandS_any A n c l 1048576 _ hl (Nat.le_trans hnc hcm) ha hw (by omega) (by omega)).mono ?_
  rintro e w1 ⟨r, rfl, hr, hb1⟩
  rcases hr with hr | ⟨hr0, hrn, hrz⟩
  · have hd : decide (r < 0) = true := decide_eq_true hr
    clear hl
    go_wp2_with fail
    go_ret
    exact ⟨rfl, hb1⟩
  have hd : decide (r < 0) = false := decide_eq_false (by omega)
  have hn : n ≤ 1048576 := by omega
  have hz : ∀ q ∈ l, q.p.size ≤ 1048576 := fun q hq => by have := hrz q hq; omega
  have HM1 := Lib.hid (HM.out.belowS hb1)
  clear hrn hrz hl
  go_wp2_with fail
  refine (toCommandS_any A n c l _ (by omega) HL.out (ha.belowS hb1)).mono ?_
  rintro e w2 ⟨g2, rfl, ho2, hb2⟩
  have bw2 := below_step hb1 hb2
  have HM2 := Lib.hid (HM1.out.belowS hb2)
  go_wp2_with fail
  refine (specSwap_any _ n n l k _ (by omega) HL.out (own_at encK_len ho2 HL.out) hz).mono ?_
  rintro e w3 ⟨m, b, AW, cW, rfl, hR, hoW, hb3⟩
  have bw3 := below_step bw2 hb3
  have HM3 := Lib.hid (HM2.out.belowS hb3)
  have HR := Lib.hid hR
  have hN := swapR_len hR
  rw [HL.out] at hN
  have hblW := fun h => own_blk hoW h
  have atW := own_at encK_len hoW rfl
  obtain ⟨N, hNe⟩ : ∃ N, m.length = N := ⟨_, rfl⟩
  have HNE := Lib.hid hNe
  rw [hNe] at hN hoW hblW ⊢
  clear hR hNe ho2
  go_wp2_with fail
  refine (toCommandS_any A n c l _ (by omega) HL.out (ha.belowS bw3)).mono ?_
  rintro e w4 ⟨g4, rfl, hoX, hb4⟩
  have bw4 := below_step bw3 hb4
  have HM4 := Lib.hid (HM3.out.belowS hb4)
  have hbl4 := hoX.lt g4 rfl
  have atW4 := atW.belowS hb4
  go_wp2_with fail
  refine (implSwap_any _ n n l k _ (by omega) HL.out (Nat.le_refl _) (own_at encK_len hoX HL.out) hz HM4.out).mono ?_
  rintro e w5 ⟨m', b', AG, cG, rfl, hR', hoG, hb5⟩
  obtain ⟨rfl, rfl⟩ := SwapR.same hR' HR.out
  rw [HNE.out] at hoG ⊢
  have bw5 := below_step bw4 hb5
  have HM5 := Lib.hid (HM4.out.belowS hb5)
  have hblG := fun h => own_blk hoG h
  have atW5 := atW4.belowS hb5
  have atG5 := own_at encK_len hoG HNE.out
  have hoX5 := own_belowS hoX hb5
  have hbb : (b' != b') = false := by simp
  clear hR' atW atW4 hoX
  go_wp2_with fail
  refine (eqCommandS_same _ N _ _ _ m' _ (by omega) HNE.out atG5 atW5).mono ?_
  rintro e w6 ⟨rfl, hb6⟩
  have bw6 := below_step bw5 hb6
  have HM6 := Lib.hid (HM5.out.belowS hb6)
  have atW6 := atW5.belowS hb6
  have hoG6 := own_belowS hoG hb6
  have hoX6 := own_belowS hoX5 hb6
  clear atW5 hoG hoX5 atG5
  go_wp2_with fail
  refine (toCommandS_any A n c l _ (by omega) HL.out (ha.belowS bw6)).mono ?_
  rintro e w7 ⟨g7, rfl, hoY, hb7⟩
  have bw7 := below_step bw6 hb7
  have HM7 := Lib.hid (HM6.out.belowS hb7)
  have atW7 := atW6.belowS hb7
  have hoG7 := own_belowS hoG6 hb7
  have hoX7 := own_belowS hoX6 hb7
  clear atW6 hoG6 hoX6
  go_wp2_with fail
  refine (eqCommandS_same _ n _ _ _ l _ (by omega) HL.out (own_at encK_len hoX7 HL.out) (own_at encK_len hoY HL.out)).mono ?_
  rintro e w8 ⟨rfl, hb8⟩
  have bw8 := below_step bw7 hb8
  have HM8 := Lib.hid (HM7.out.belowS hb8)
  have ha8 := ha.belowS bw8
  have atW8 := atW7.belowS hb8
  have hoG8 := own_belowS hoG7 hb8
  have hoX8 := own_belowS hoX7 hb8
  clear atW7 hoG7 hoX7 hoY
  go_wp2_with fail
  refine (markCommandS_any _ n n 1 _ _ _ (by omega) (by omega) (by omega) hoX8 (by have := bw8.size; have := hb4.size; have := hb5.size; have := hb6.size; have := hb7.size; have := hb8.size; omega)).mono ?_
  rintro e w9 ⟨rfl, hoX9, hg9⟩
  have bw9 := below_only bw8 hg9 (rowOf_ge fun _ => by have := bw3.size; show w.heap.size ≤ g4; omega)
  have ha9 := ha8.grown hg9 (fun h => rowOf_ne (by have := ha.lt h; have := bw3.size; show blk A ≠ g4; omega))
  have atW9 := atW8.grown hg9 (fun h => rowOf_ne (by have := hblW (by rw [← HNE.out]; exact h); show blk AW ≠ g4; omega))
  have hoG9 := own_far hoG8 hg9 (by show g4 < _; omega)
  have HM9 : Hid (MaxAt w9) := Lib.hid (HM.out.belowS bw9)
  have hk0 : decide (((1 + 5 * n : Nat) : Int) < 0) = false := decide_eq_false (by omega)
  clear atW8 hoG8 hoX8
  go_wp2_with fail
  refine (eqCommandS_same _ N _ _ _ m' _ (by omega) HNE.out (own_at encK_len hoG9 HNE.out) atW9).mono ?_
  rintro e w10 ⟨rfl, hb10⟩
  have bw10 := below_step bw9 hb10
  have ha10 := ha9.belowS hb10
  have atW10 := atW9.belowS hb10
  have hoG10 := own_belowS hoG9 hb10
  clear atW9 hoG9 hoX9
  go_wp2_with fail
  refine (markCommandS_any _ N _ 1 _ _ _ (by omega) (by omega) (by omega) hoG10 (by have := bw4.size; have := hb5.size; have := hb6.size; have := hb7.size; have := hb8.size; have := hg9.size; have := hb10.size; omega)).mono ?_
  rintro e w11 ⟨rfl, hoG11, hg11⟩
  have bw11 := below_only bw10 hg11 (rowOf_ge fun h => by have := bw4.size; have := hblG h; omega)
  have ha11 := ha10.grown hg11 (fun h => rowOf_ne' fun h2 => by have := ha.lt h; have := bw4.size; have := hblG h2; omega)
  have atW11 := atW10.grown hg11 (fun h => rowOf_ne' fun h2 => by have := hblW (by rw [← HNE.out]; exact h); have := hb4.size; have := hblG h2; omega)
  have atG11 := own_at encK_len hoG11 (marksK_len _ _)
  have hk1 : decide (((1 + 5 * N : Nat) : Int) < 0) = false := decide_eq_false (by omega)
  have hk2 : (((1 + 5 * N : Nat) : Int) != ((1 + 5 * N : Nat) : Int)) = false := by simp
  clear atW10 hoG10 hoG11
  go_wp2_with fail
  refine (heldCommandS_any _ N _ 1 _ (by omega) (by omega) (by omega) atG11).mono ?_
  rintro e w12 ⟨rfl, hb12⟩
  have bw12 := below_step bw11 hb12
  have ha12 := ha11.belowS hb12
  have atW12 := atW11.belowS hb12
  have atG12 := atG11.belowS hb12
  clear atW11 atG11
  go_wp2_with fail
  refine (toCommandS_any A n c l _ (by omega) HL.out ha12).mono ?_
  rintro e w13 ⟨g13, rfl, hoZ, hb13⟩
  have bw13 := below_step bw12 hb13
  have atW13 := atW12.belowS hb13
  have atG13 := atG12.belowS hb13
  clear atW12 atG12
  go_wp2_with fail
  refine (implSwap_any _ n n l k _ (by omega) HL.out (Nat.le_refl _) (own_at encK_len hoZ HL.out) hz (HM.out.belowS bw13)).mono ?_
  rintro e w14 ⟨m2, b2, AH, cH, rfl, hR2, hoH, hb14⟩
  obtain ⟨rfl, rfl⟩ := SwapR.same hR2 HR.out
  rw [HNE.out] at hoH ⊢
  have bw14 := below_step bw13 hb14
  have atW14 := atW13.belowS hb14
  have atG14 := atG13.belowS hb14
  clear hR2 atW13 atG13
  go_wp2_with fail
  refine (eqCommandS_same _ N _ _ _ m2 _ (by omega) HNE.out (own_at encK_len hoH HNE.out) atW14).mono ?_
  rintro e w15 ⟨rfl, hb15⟩
  have bw15 := below_step bw14 hb15
  have atG15 := atG14.belowS hb15
  go_wp2_with fail
  refine (heldCommandS_any _ N _ 1 _ (by omega) (by omega) (by omega) atG15).mono ?_
  rintro e w16 ⟨rfl, hb16⟩
  have bw16 := below_step bw15 hb16
  go_wp2_with fail
  go_ret
  exact ⟨rfl, bw16⟩
end Go.Proofs.YtkbebgpafjopnaaDoor
