/- The walk of the law on putting a content at a path. -/
import Derived.Test.YtehdoambbeddpaaDoorPutI
import Derived.Test.YtehdoambbeddpaaDoorMarkN
namespace Go.Proofs.YtehdoambbeddpaaDoor
open Go.RowKit
set_option linter.unusedVariables false
set_option linter.unusedSimpArgs false
set_option maxRecDepth 20000

set_option maxHeartbeats 4000000 in
theorem walk_FnExactTreePut (A0 : Option Addr) (n0 c0 : Nat) (l0 : List Nod) (hl0 : l0.length = n0) (hnc0 : n0 ≤ c0) (hcm0 : c0 ≤ maxLen) (s1 : ByteArray) (ws1 : s1.size ≤ maxLen) (x2 y2 : Int) (wx2 : (Lit.int .i64 x2).wf = true) (wy2 : (Lit.int .i64 y2).wf = true) (w : World) (ha0 : At encN 3 w A0 l0) (hw0 : ∀ q ∈ l0, q.wf) (hm : MaxAt w) :
    Calls Tryd.prog 10 #[.slice A0 n0 c0, .string s1, .agg #[.int .i64 x2, .int .i64 y2]] w fun e w' => e = .returned (.bool true) ∧ Below w.heap.size w w' := by
  have HM := Lib.hid hm
  clear hm
  have HL0 := Lib.hid hl0
  have hcc0 := Nat.le_trans hnc0 hcm0
  clear hl0
  have PB := Blk.new w 51 #[.int .i64 x2, .int .i64 y2]
  have bwB := below_alloc (Below.refl w.heap.size w) (.cells #[.int .i64 x2, .int .i64 y2] 51)
  unfold maxLen at ws1
  by_cases hb1 : 1048576 < s1.size
  · go_enter Tryd.func10, Tryd.ntmps10
    go_wp2_with fail
    go_ret
    exact ⟨rfl, bwB⟩
  have hs1 : s1.size ≤ 1048576 := by omega
  clear hb1
  obtain ⟨gB, hgB⟩ : ∃ gB, w.heap.size = gB := ⟨_, rfl⟩
  obtain ⟨W0, hW0⟩ : ∃ W0, W0 = w.alloc (.cells #[.int .i64 x2, .int .i64 y2] 51) := ⟨_, rfl⟩
  rw [hgB, ← hW0] at PB
  rw [← hW0] at bwB
  have hgl := PB.lt
  go_enter Tryd.func10, Tryd.ntmps10
  go_upto_region 1 with fail
  try rw [hgB]
  rw [← hW0]
  clear hgB hW0
  obtain ⟨pb0, pb1⟩ := blk2 PB
  go_wp2_with fail
  refine (szNodeS_any A0 n0 c0 l0 1048576 _ HL0.out hcc0 (ha0.belowS bwB) hw0 (by omega) (by omega)).mono ?_
  rintro e w1 ⟨r0, rfl, hr0, hb1⟩
  have bw1 := below_step bwB hb1
  have PB_1 := PB.belowS hb1
  clear pb0 pb1
  obtain ⟨pb0, pb1⟩ := blk2 PB_1
  rcases hr0 with hr0 | ⟨hra0, hrn0, hrz0⟩
  · have hd0 : decide (r0 < 0) = true := decide_eq_true hr0
    go_wp2_with fail
    go_ret
    exact ⟨rfl, bw1⟩
  rw [HL0.out] at hrn0
  have hd0 : decide (r0 < 0) = false := decide_eq_false (by omega)
  have hn0 : n0 ≤ 1048576 := by omega
  have hz0 : ∀ q ∈ l0, q.p.size ≤ 1048576 := fun q hq => by have := hrz0 q hq; omega
  have hrr0 : r0 ≤ 1048576 := by omega
  clear hrz0 hrn0
  go_wp2_with fail
  go_cut [8, 9] (fun v b W => ∃ (AW : Option Addr) (cW : Nat) (m : List Nod) (b' : Bool), v = .slice AW m.length cW ∧ b = .bool b' ∧ PutR l0 ⟨s1, x2, y2⟩ m b' ∧ W.ownsRow w1.heap.size 60 3 (.slice AW m.length cW) m.length (m.flatMap encN) ∧ Below w1.heap.size w1 W)
  case first =>
    have bwd := bw1.drew
    have PBd : Blk w1.drew gB 51 #[.int .i64 x2, .int .i64 y2] := PB_1
    obtain ⟨pd0, pd1⟩ := blk2 PBd
    go_region_with (first | (go_at_call 13; refine (toNodeS_any A0 n0 c0 l0 _ (by omega) HL0.out (ha0.belowS bwd)).mono ?_; rintro e wd1 ⟨gd1, rfl, hod1, hbd1⟩; have bwd1 := below_step bwd hbd1; have PBd1 := PBd.belowS hbd1; obtain ⟨pd1_0, pd1_1⟩ := blk2 PBd1) | (go_at_call 40; refine (toContent_any x2 y2 _).mono ?_; rintro e wd2 ⟨rfl, hbd2⟩; have bwd2 := below_step bwd1 hbd2; have hod1x2 := own_belowS hod1 hbd2; have PBd2 := PBd1.belowS hbd2; obtain ⟨pd2_0, pd2_1⟩ := blk2 PBd2) | (go_at_call 39; refine (specTreePut_any _ n0 n0 l0 s1 x2 y2 _ (by omega) HL0.out (own_at encN_len hod1x2 HL0.out) hz0 hs1).mono ?_; rintro e wz ⟨AW, cW, m, b', rfl, hR, hoW, hbz⟩))
    all_goals
      go_wp2_with fail
      go_meet
      exact ⟨AW, cW, m, b', rfl, rfl, hR, own_mono hoW (below_step (below_step (Below.refl w1.heap.size w1).drew hbd1) hbd2).size, below_step (below_step (below_step (Below.refl w1.heap.size w1).drew hbd1) hbd2) hbz⟩
  case rest =>
  obtain ⟨AW, cW, m, b, rfl, rfl, hR, hoW, hb2⟩ := hcut
  have bw2 := below_step bw1 hb2
  have PB_2 := PB_1.belowS hb2
  clear pb0 pb1
  obtain ⟨pb0, pb1⟩ := blk2 PB_2
  clear PB_1
  have HR := Lib.hid hR
  have hN := hR.len
  rw [HL0.out] at hN
  have hblW := fun h => own_blk hoW h
  have atW := own_at encN_len hoW rfl
  obtain ⟨N, hNe⟩ : ∃ N, m.length = N := ⟨_, rfl⟩
  have HNE := Lib.hid hNe
  rw [hNe] at hN hoW hblW ⊢
  clear hR hNe hoW
  go_wp2_with fail
  refine (toNodeS_any A0 n0 c0 l0 _ (by omega) HL0.out (ha0.belowS bw2)).mono ?_
  rintro e w3 ⟨g3, rfl, ho3, hb3⟩
  have bw3 := below_step bw2 hb3
  have PB_3 := PB_2.belowS hb3
  clear pb0 pb1
  obtain ⟨pb0, pb1⟩ := blk2 PB_3
  clear PB_2
  have atW_3 := atW.belowS hb3
  have hblho3 := ho3.lt g3 rfl
  go_wp2_with fail
  refine (toContent_any x2 y2 _).mono ?_
  rintro e w4 ⟨rfl, hb4⟩
  have bw4 := below_step bw3 hb4
  have PB_4 := PB_3.belowS hb4
  clear pb0 pb1
  obtain ⟨pb0, pb1⟩ := blk2 PB_4
  clear PB_3
  have atW_4 := atW_3.belowS hb4
  clear atW_3
  have ho3_4 := own_belowS ho3 hb4
  go_wp2_with fail
  refine (implTreePut_any _ n0 n0 l0 s1 x2 y2 _ (by omega) HL0.out (own_at encN_len ho3_4 HL0.out) hz0 hs1 (HM.out.belowS bw4)).mono ?_
  rintro e w5 ⟨AG, cG, m', b', rfl, hR', hoG, hb5⟩
  obtain ⟨rfl, rfl⟩ := PutR.same hR' HR.out
  rw [HNE.out] at hoG ⊢
  have bw5 := below_step bw4 hb5
  have PB_5 := PB_4.belowS hb5
  clear pb0 pb1
  obtain ⟨pb0, pb1⟩ := blk2 PB_5
  clear PB_4
  have atW_5 := atW_4.belowS hb5
  clear atW_4
  have ho3_5 := own_belowS ho3_4 hb5
  clear ho3_4
  have hblG := fun h => own_blk hoG h
  clear hR'
  have hbb : (b' != b') = false := by simp
  go_wp2_with fail
  refine (eqNodeS_same _ N _ _ _ m' _ (by omega) HNE.out (own_at encN_len hoG HNE.out) atW_5).mono ?_
  rintro e w6 ⟨rfl, hb6⟩
  have bw6 := below_step bw5 hb6
  have PB_6 := PB_5.belowS hb6
  clear pb0 pb1
  obtain ⟨pb0, pb1⟩ := blk2 PB_6
  clear PB_5
  have atW_6 := atW_5.belowS hb6
  clear atW_5
  have ho3_6 := own_belowS ho3_5 hb6
  clear ho3_5
  have hoG_6 := own_belowS hoG hb6
  go_wp2_with fail
  refine (toNodeS_any A0 n0 c0 l0 _ (by omega) HL0.out (ha0.belowS bw6)).mono ?_
  rintro e w7 ⟨g7, rfl, ho7, hb7⟩
  have bw7 := below_step bw6 hb7
  have PB_7 := PB_6.belowS hb7
  clear pb0 pb1
  obtain ⟨pb0, pb1⟩ := blk2 PB_7
  clear PB_6
  have atW_7 := atW_6.belowS hb7
  clear atW_6
  have ho3_7 := own_belowS ho3_6 hb7
  clear ho3_6
  have hoG_7 := own_belowS hoG_6 hb7
  clear hoG_6
  go_wp2_with fail
  refine (eqNodeS_same _ n0 _ _ _ l0 _ (by omega) HL0.out (own_at encN_len ho3_7 HL0.out) (own_at encN_len ho7 HL0.out)).mono ?_
  rintro e w8 ⟨rfl, hb8⟩
  have bw8 := below_step bw7 hb8
  have PB_8 := PB_7.belowS hb8
  clear pb0 pb1
  obtain ⟨pb0, pb1⟩ := blk2 PB_8
  clear PB_7
  have atW_8 := atW_7.belowS hb8
  clear atW_7
  have ho3_8 := own_belowS ho3_7 hb8
  clear ho3_7
  have hoG_8 := own_belowS hoG_7 hb8
  clear hoG_7
  clear ho7
  go_wp2_with fail
  have ha0_m := ha0.belowS bw8
  refine (markNodeS_any _ n0 n0 (1) _ _ _ (by omega) (by omega) (by omega) ho3_8 (by have := hb3.size; have := hb4.size; have := hb5.size; have := hb6.size; have := hb7.size; have := hb8.size; omega)).mono ?_
  rintro e w9 ⟨rfl, ho3_m, hg9⟩
  have bw9 := below_only bw8 hg9 (rowOf_ge fun _ => by have h1 := hblho3.1; have h2 := bw2.size; show w.heap.size ≤ g3; omega)
  have PB_9 := PB_8.grown hg9 (rowOf_ne (by have h1 := hblho3.1; have := hb1.size; have := hb2.size; show gB ≠ g3; omega))
  clear pb0 pb1
  obtain ⟨pb0, pb1⟩ := blk2 PB_9
  clear PB_8
  have atW_9 := atW_8.grown hg9 (fun h => rowOf_ne (by have h0 := (hblW (by rw [← HNE.out]; exact h)).2; have h1 := hblho3.1; show blk AW ≠ g3; omega))
  clear atW_8
  have hoG_9 := own_far hoG_8 hg9 (by have h1 := hblho3.2; have := hb4.size; show g3 < _; omega)
  clear hoG_8
  have ha0_9 := ha0_m.grown hg9 (fun h => rowOf_ne (by have h0 := ha0.lt h; have h1 := hblho3.1; have h2 := bw2.size; show blk A0 ≠ g3; omega))
  clear ha0_m
  clear ho3_m
  have hk9 : decide (((1 + 3 * n0 : Nat) : Int) < 0) = false := decide_eq_false (by omega)
  go_wp2_with fail
  refine (eqNodeS_same _ N _ _ _ m' _ (by omega) HNE.out (own_at encN_len hoG_9 HNE.out) atW_9).mono ?_
  rintro e w10 ⟨rfl, hb10⟩
  have bw10 := below_step bw9 hb10
  have PB_10 := PB_9.belowS hb10
  clear pb0 pb1
  obtain ⟨pb0, pb1⟩ := blk2 PB_10
  clear PB_9
  have atW_10 := atW_9.belowS hb10
  clear atW_9
  have hoG_10 := own_belowS hoG_9 hb10
  clear hoG_9
  have ha0_10 := ha0_9.belowS hb10
  clear ha0_9
  go_wp2_with fail
  refine (markNodeS_any _ N _ 1 _ _ _ (by omega) (by omega) (by omega) hoG_10 (by have := hb5.size; have := hb6.size; have := hb7.size; have := hb8.size; have := hg9.size; have := hb10.size; omega)).mono ?_
  rintro e w11 ⟨rfl, hoGm, hg11⟩
  have bw11 := below_only bw10 hg11 (rowOf_ge fun h => by have h1 := (hblG h).1; have h2 := bw4.size; omega)
  have PB_11 := PB_10.grown hg11 (rowOf_ne' fun h2 => by have h1 := (hblG h2).1; have := hb1.size; have := hb2.size; have := hb3.size; have := hb4.size; omega)
  clear pb0 pb1
  obtain ⟨pb0, pb1⟩ := blk2 PB_11
  clear PB_10
  have atW_11 := atW_10.grown hg11 (fun h => rowOf_ne' fun h2 => by have h0 := (hblW (by rw [← HNE.out]; exact h)).2; have h1 := (hblG h2).1; have := hb3.size; have := hb4.size; omega)
  clear atW_10
  have ha0_11 := ha0_10.grown hg11 (fun h => rowOf_ne' fun h2 => by have h0 := ha0.lt h; have h1 := (hblG h2).1; have h3 := bw4.size; omega)
  clear ha0_10
  have atG := own_at encN_len hoGm (marksN_len _ _)
  clear hoGm
  have hk11 : decide (((1 + 3 * N : Nat) : Int) < 0) = false := decide_eq_false (by omega)
  have hkk : (((1 + 3 * N : Nat) : Int) != ((1 + 3 * N : Nat) : Int)) = false := by simp
  go_wp2_with fail
  refine (heldNodeS_any _ N _ 1 _ (by omega) (by omega) (by omega) atG).mono ?_
  rintro e w12 ⟨rfl, hb12⟩
  have bw12 := below_step bw11 hb12
  have PB_12 := PB_11.belowS hb12
  clear pb0 pb1
  obtain ⟨pb0, pb1⟩ := blk2 PB_12
  clear PB_11
  have atW_12 := atW_11.belowS hb12
  clear atW_11
  have ha0_12 := ha0_11.belowS hb12
  clear ha0_11
  have atG_12 := atG.belowS hb12
  go_wp2_with fail
  have bwd := bw12.drew
  have PBd : Blk w12.drew gB 51 #[.int .i64 x2, .int .i64 y2] := PB_12
  obtain ⟨pd0, pd1⟩ := blk2 PBd
  go_region_with (first | (go_at_call 13; refine (toNodeS_any A0 n0 c0 l0 _ (by omega) HL0.out (ha0.belowS bwd)).mono ?_; rintro e wd1 ⟨gd1, rfl, hod1, hbd1⟩; have bwd1 := below_step bwd hbd1; have PBd1 := PBd.belowS hbd1; obtain ⟨pd1_0, pd1_1⟩ := blk2 PBd1) | (go_at_call 40; refine (toContent_any x2 y2 _).mono ?_; rintro e wd2 ⟨rfl, hbd2⟩; have bwd2 := below_step bwd1 hbd2; have hod1x2 := own_belowS hod1 hbd2; have PBd2 := PBd1.belowS hbd2; obtain ⟨pd2_0, pd2_1⟩ := blk2 PBd2) | (go_at_call 41; refine (implTreePut_any _ n0 n0 l0 s1 x2 y2 _ (by omega) HL0.out (own_at encN_len hod1x2 HL0.out) hz0 hs1 (HM.out.belowS bwd2)).mono ?_; rintro e wz ⟨AH, cH, m2, b2, rfl, hR2, hoH, hbz⟩))
  all_goals
    obtain ⟨rfl, rfl⟩ := PutR.same hR2 HR.out
    rw [HNE.out] at hoH ⊢
    have bwz := below_step bwd2 hbz
    have atW_z := atW_12.belowS (below_step (below_step (below_step (Below.refl w12.heap.size w12).drew hbd1) hbd2) hbz)
    have atG_z := atG_12.belowS (below_step (below_step (below_step (Below.refl w12.heap.size w12).drew hbd1) hbd2) hbz)
    clear hR2
    go_wp2_with fail
    refine (eqNodeS_same _ N _ _ _ m2 _ (by omega) HNE.out (own_at encN_len hoH HNE.out) atW_z).mono ?_
    rintro e w13 ⟨rfl, hb13⟩
    have bw13 := below_step bwz hb13
    have atW_13 := atW_z.belowS hb13
    clear atW_z
    have atG_13 := atG_z.belowS hb13
    clear atG_z
    go_wp2_with fail
    clear atW_13
    refine (heldNodeS_any _ N _ 1 _ (by omega) (by omega) (by omega) atG_13).mono ?_
    rintro e w14 ⟨rfl, hb14⟩
    have bw14 := below_step bw13 hb14
    have atG_14 := atG_13.belowS hb14
    clear atG_13
    go_wp2_with fail
    go_ret
    exact ⟨rfl, bw14⟩
end Go.Proofs.YtehdoambbeddpaaDoor
