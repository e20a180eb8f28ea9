/- The walk of the law on applying a command. -/
import Derived.Test.YtlhhplhciiobfaaDoorApply
import Derived.Test.YtlhhplhciiobfaaDoorMarkN
namespace Go.Proofs.YtlhhplhciiobfaaDoor
open Go.RowKit
set_option linter.unusedVariables false
set_option linter.unusedSimpArgs false
set_option maxRecDepth 20000

set_option maxHeartbeats 4000000 in
theorem walk_FnExactCommandApply (A0 : Option Addr) (n0 c0 : Nat) (l0 : List Nod) (hl0 : l0.length = n0) (hnc0 : n0 ≤ c0) (hcm0 : c0 ≤ maxLen) (s1 : ByteArray) (x1 y1 z1 u1 : Int) (ws1 : s1.size ≤ maxLen) (wx1 : (Lit.int .i64 x1).wf = true) (wy1 : (Lit.int .i64 y1).wf = true) (wz1 : (Lit.int .i64 z1).wf = true) (wu1 : (Lit.int .i64 u1).wf = true) (w : World) (ha0 : At encN 3 w A0 l0) (hw0 : ∀ q ∈ l0, q.wf) (hm : MaxAt w) :
    Calls Tryd.prog 3 #[.slice A0 n0 c0, .agg #[.string s1, .int .i64 x1, .int .i64 y1, .int .i64 z1, .int .i64 u1]] w fun e w' => e = .returned (.bool true) ∧ Below w.heap.size w w' := by
  have HM := Lib.hid hm
  clear hm
  have HL0 := Lib.hid hl0
  have hcc0 := Nat.le_trans hnc0 hcm0
  clear hl0
  have PB := Blk.new w 26 #[.string s1, .int .i64 x1, .int .i64 y1, .int .i64 z1, .int .i64 u1]
  have bwB := below_alloc (Below.refl w.heap.size w) (.cells #[.string s1, .int .i64 x1, .int .i64 y1, .int .i64 z1, .int .i64 u1] 26)
  obtain ⟨gB, hgB⟩ : ∃ gB, w.heap.size = gB := ⟨_, rfl⟩
  obtain ⟨W0, hW0⟩ : ∃ W0, W0 = w.alloc (.cells #[.string s1, .int .i64 x1, .int .i64 y1, .int .i64 z1, .int .i64 u1] 26) := ⟨_, rfl⟩
  rw [hgB, ← hW0] at PB
  rw [← hW0] at bwB
  have hgl := PB.lt
  go_enter Tryd.func3, Tryd.ntmps3
  go_upto_region 1 with fail
  try rw [hgB]
  rw [← hW0]
  clear hgB hW0
  obtain ⟨pb0, pb1, pb2, pb3, pb4⟩ := blk5 PB
  go_wp2_with fail
  refine (szNodeS_any A0 n0 c0 l0 1048576 _ HL0.out hcc0 (ha0.belowS bwB) hw0 (by omega) (by omega)).mono ?_
  rintro e w1 ⟨r0, rfl, hr0, hb1⟩
  have bw1 := below_step bwB hb1
  have PB_1 := PB.belowS hb1
  clear pb0 pb1 pb2 pb3 pb4
  obtain ⟨pb0, pb1, pb2, pb3, pb4⟩ := blk5 PB_1
  rcases hr0 with hr0 | ⟨hra0, hrn0, hrz0⟩
  · have hd0 : decide (r0 < 0) = true := decide_eq_true hr0
    go_wp2_with fail
    go_ret
    exact ⟨rfl, bw1⟩
  rw [HL0.out] at hrn0
  have hd0 : decide (r0 < 0) = false := decide_eq_false (by omega)
  have hn0 : n0 ≤ 1048576 := by omega
  have hz0 : ∀ q ∈ l0, q.p.size ≤ 1048576 := fun q hq => by have := hrz0 q hq; omega
  have hrr0 : r0 ≤ 1048576 := by omega
  clear hrz0 hrn0
  go_wp2_with fail
  refine (szCommand_any s1 x1 y1 z1 u1 r0 _ ws1 (by omega) (by omega)).mono ?_
  rintro e w2 ⟨rfl, hb2⟩
  have bw2 := below_step bw1 hb2
  have PB_2 := PB_1.belowS hb2
  clear pb0 pb1 pb2 pb3 pb4
  obtain ⟨pb0, pb1, pb2, pb3, pb4⟩ := blk5 PB_2
  clear PB_1
  by_cases hk1 : r0 < (s1.size : Int)
  · have hd1 : szL s1.size r0 = -1 := if_pos hk1
    rw [hd1]
    go_wp2_with fail
    go_ret
    exact ⟨rfl, bw2⟩
  have hdd1 : szL s1.size r0 = r0 - s1.size := if_neg hk1
  have hd1 : decide (r0 - (s1.size : Int) < 0) = false := decide_eq_false (by omega)
  have hs1 : s1.size ≤ 1048576 := by omega
  rw [hdd1]
  clear hdd1
  go_wp2_with fail
  go_cut [6, 7] (fun v b W => ∃ (AW : Option Addr) (cW : Nat) (m : List Nod) (b' : Bool), v = .slice AW m.length cW ∧ b = .bool b' ∧ CmdR l0 ⟨s1, x1, y1, z1, u1⟩ m b' ∧ W.ownsRow w2.heap.size 73 3 (.slice AW m.length cW) m.length (m.flatMap encN) ∧ Below w2.heap.size w2 W)
  case first =>
    have bwd := bw2.drew
    have PBd : Blk w2.drew gB 26 #[.string s1, .int .i64 x1, .int .i64 y1, .int .i64 z1, .int .i64 u1] := PB_2
    obtain ⟨pd0, pd1, pd2, pd3, pd4⟩ := blk5 PBd
    go_region_with (first | (go_at_call 17; refine (toNodeS_any A0 n0 c0 l0 _ (by omega) HL0.out (ha0.belowS bwd)).mono ?_; rintro e wd1 ⟨gd1, rfl, hod1, hbd1⟩; have bwd1 := below_step bwd hbd1; have PBd1 := PBd.belowS hbd1; obtain ⟨pd1_0, pd1_1, pd1_2, pd1_3, pd1_4⟩ := blk5 PBd1) | (go_at_call 18; refine (toCommand_any s1 x1 y1 z1 u1 _).mono ?_; rintro e wd2 ⟨rfl, hbd2⟩; have bwd2 := below_step bwd1 hbd2; have hod1x2 := own_belowS hod1 hbd2; have PBd2 := PBd1.belowS hbd2; obtain ⟨pd2_0, pd2_1, pd2_2, pd2_3, pd2_4⟩ := blk5 PBd2) | (go_at_call 16; refine (specApply_any _ n0 n0 l0 s1 x1 y1 z1 u1 _ (by omega) HL0.out (own_at encN_len hod1x2 HL0.out) hz0 hs1).mono ?_; rintro e wz ⟨AW, cW, m, b', rfl, hR, hoW, hbz⟩))
    all_goals
      go_wp2_with fail
      go_meet
      exact ⟨AW, cW, m, b', rfl, rfl, hR, own_mono hoW (below_step (below_step (Below.refl w2.heap.size w2).drew hbd1) hbd2).size, below_step (below_step (below_step (Below.refl w2.heap.size w2).drew hbd1) hbd2) hbz⟩
  case rest =>
  obtain ⟨AW, cW, m, b, rfl, rfl, hR, hoW, hb3⟩ := hcut
  have bw3 := below_step bw2 hb3
  have PB_3 := PB_2.belowS hb3
  clear pb0 pb1 pb2 pb3 pb4
  obtain ⟨pb0, pb1, pb2, pb3, pb4⟩ := blk5 PB_3
  clear PB_2
  have HR := Lib.hid hR
  have hN := hR.len
  rw [HL0.out] at hN
  have hblW := fun h => own_blk hoW h
  have atW := own_at encN_len hoW rfl
  obtain ⟨N, hNe⟩ : ∃ N, m.length = N := ⟨_, rfl⟩
  have HNE := Lib.hid hNe
  rw [hNe] at hN hoW hblW ⊢
  clear hR hNe hoW
  go_wp2_with fail
  refine (toNodeS_any A0 n0 c0 l0 _ (by omega) HL0.out (ha0.belowS bw3)).mono ?_
  rintro e w4 ⟨g4, rfl, ho4, hb4⟩
  have bw4 := below_step bw3 hb4
  have PB_4 := PB_3.belowS hb4
  clear pb0 pb1 pb2 pb3 pb4
  obtain ⟨pb0, pb1, pb2, pb3, pb4⟩ := blk5 PB_4
  clear PB_3
  have atW_4 := atW.belowS hb4
  have hblho4 := ho4.lt g4 rfl
  go_wp2_with fail
  refine (toCommand_any s1 x1 y1 z1 u1 _).mono ?_
  rintro e w5 ⟨rfl, hb5⟩
  have bw5 := below_step bw4 hb5
  have PB_5 := PB_4.belowS hb5
  clear pb0 pb1 pb2 pb3 pb4
  obtain ⟨pb0, pb1, pb2, pb3, pb4⟩ := blk5 PB_5
  clear PB_4
  have atW_5 := atW_4.belowS hb5
  clear atW_4
  have ho4_5 := own_belowS ho4 hb5
  go_wp2_with fail
  refine (implCommandApply_any _ n0 n0 l0 s1 x1 y1 z1 u1 _ (by omega) HL0.out (own_at encN_len ho4_5 HL0.out) hz0 hs1 (HM.out.belowS bw5)).mono ?_
  rintro e w6 ⟨AG, cG, m', b', rfl, hR', hoG, hb6⟩
  obtain ⟨rfl, rfl⟩ := CmdR.same hR' HR.out
  rw [HNE.out] at hoG ⊢
  have bw6 := below_step bw5 hb6
  have PB_6 := PB_5.belowS hb6
  clear pb0 pb1 pb2 pb3 pb4
  obtain ⟨pb0, pb1, pb2, pb3, pb4⟩ := blk5 PB_6
  clear PB_5
  have atW_6 := atW_5.belowS hb6
  clear atW_5
  have ho4_6 := own_belowS ho4_5 hb6
  clear ho4_5
  have hblG := fun h => own_blk hoG h
  clear hR'
  have hbb : (b' != b') = false := by simp
  go_wp2_with fail
  refine (eqNodeS_same _ N _ _ _ m' _ (by omega) HNE.out (own_at encN_len hoG HNE.out) atW_6).mono ?_
  rintro e w7 ⟨rfl, hb7⟩
  have bw7 := below_step bw6 hb7
  have PB_7 := PB_6.belowS hb7
  clear pb0 pb1 pb2 pb3 pb4
  obtain ⟨pb0, pb1, pb2, pb3, pb4⟩ := blk5 PB_7
  clear PB_6
  have atW_7 := atW_6.belowS hb7
  clear atW_6
  have ho4_7 := own_belowS ho4_6 hb7
  clear ho4_6
  have hoG_7 := own_belowS hoG hb7
  go_wp2_with fail
  refine (toNodeS_any A0 n0 c0 l0 _ (by omega) HL0.out (ha0.belowS bw7)).mono ?_
  rintro e w8 ⟨g8, rfl, ho8, hb8⟩
  have bw8 := below_step bw7 hb8
  have PB_8 := PB_7.belowS hb8
  clear pb0 pb1 pb2 pb3 pb4
  obtain ⟨pb0, pb1, pb2, pb3, pb4⟩ := blk5 PB_8
  clear PB_7
  have atW_8 := atW_7.belowS hb8
  clear atW_7
  have ho4_8 := own_belowS ho4_7 hb8
  clear ho4_7
  have hoG_8 := own_belowS hoG_7 hb8
  clear hoG_7
  go_wp2_with fail
  refine (eqNodeS_same _ n0 _ _ _ l0 _ (by omega) HL0.out (own_at encN_len ho4_8 HL0.out) (own_at encN_len ho8 HL0.out)).mono ?_
  rintro e w9 ⟨rfl, hb9⟩
  have bw9 := below_step bw8 hb9
  have PB_9 := PB_8.belowS hb9
  clear pb0 pb1 pb2 pb3 pb4
  obtain ⟨pb0, pb1, pb2, pb3, pb4⟩ := blk5 PB_9
  clear PB_8
  have atW_9 := atW_8.belowS hb9
  clear atW_8
  have ho4_9 := own_belowS ho4_8 hb9
  clear ho4_8
  have hoG_9 := own_belowS hoG_8 hb9
  clear hoG_8
  clear ho8
  go_wp2_with fail
  have ha0_m := ha0.belowS bw9
  refine (markNodeS_any _ n0 n0 (1) _ _ _ (by omega) (by omega) (by omega) ho4_9 (by have := hb4.size; have := hb5.size; have := hb6.size; have := hb7.size; have := hb8.size; have := hb9.size; omega)).mono ?_
  rintro e w10 ⟨rfl, ho4_m, hg10⟩
  have bw10 := below_only bw9 hg10 (rowOf_ge fun _ => by have h1 := hblho4.1; have h2 := bw3.size; show w.heap.size ≤ g4; omega)
  have PB_10 := PB_9.grown hg10 (rowOf_ne (by have h1 := hblho4.1; have := hb1.size; have := hb2.size; have := hb3.size; show gB ≠ g4; omega))
  clear pb0 pb1 pb2 pb3 pb4
  obtain ⟨pb0, pb1, pb2, pb3, pb4⟩ := blk5 PB_10
  clear PB_9
  have atW_10 := atW_9.grown hg10 (fun h => rowOf_ne (by have h0 := (hblW (by rw [← HNE.out]; exact h)).2; have h1 := hblho4.1; show blk AW ≠ g4; omega))
  clear atW_9
  have hoG_10 := own_far hoG_9 hg10 (by have h1 := hblho4.2; have := hb5.size; show g4 < _; omega)
  clear hoG_9
  have ha0_10 := ha0_m.grown hg10 (fun h => rowOf_ne (by have h0 := ha0.lt h; have h1 := hblho4.1; have h2 := bw3.size; show blk A0 ≠ g4; omega))
  clear ha0_m
  clear ho4_m
  have hk10 : decide (((1 + 3 * n0 : Nat) : Int) < 0) = false := decide_eq_false (by omega)
  go_wp2_with fail
  refine (eqNodeS_same _ N _ _ _ m' _ (by omega) HNE.out (own_at encN_len hoG_10 HNE.out) atW_10).mono ?_
  rintro e w11 ⟨rfl, hb11⟩
  have bw11 := below_step bw10 hb11
  have PB_11 := PB_10.belowS hb11
  clear pb0 pb1 pb2 pb3 pb4
  obtain ⟨pb0, pb1, pb2, pb3, pb4⟩ := blk5 PB_11
  clear PB_10
  have atW_11 := atW_10.belowS hb11
  clear atW_10
  have hoG_11 := own_belowS hoG_10 hb11
  clear hoG_10
  have ha0_11 := ha0_10.belowS hb11
  clear ha0_10
  go_wp2_with fail
  refine (markNodeS_any _ N _ 1 _ _ _ (by omega) (by omega) (by omega) hoG_11 (by have := hb6.size; have := hb7.size; have := hb8.size; have := hb9.size; have := hg10.size; have := hb11.size; omega)).mono ?_
  rintro e w12 ⟨rfl, hoGm, hg12⟩
  have bw12 := below_only bw11 hg12 (rowOf_ge fun h => by have h1 := (hblG h).1; have h2 := bw5.size; omega)
  have PB_12 := PB_11.grown hg12 (rowOf_ne' fun h2 => by have h1 := (hblG h2).1; have := hb1.size; have := hb2.size; have := hb3.size; have := hb4.size; have := hb5.size; omega)
  clear pb0 pb1 pb2 pb3 pb4
  obtain ⟨pb0, pb1, pb2, pb3, pb4⟩ := blk5 PB_12
  clear PB_11
  have atW_12 := atW_11.grown hg12 (fun h => rowOf_ne' fun h2 => by have h0 := (hblW (by rw [← HNE.out]; exact h)).2; have h1 := (hblG h2).1; have := hb4.size; have := hb5.size; omega)
  clear atW_11
  have ha0_12 := ha0_11.grown hg12 (fun h => rowOf_ne' fun h2 => by have h0 := ha0.lt h; have h1 := (hblG h2).1; have h3 := bw5.size; omega)
  clear ha0_11
  have atG := own_at encN_len hoGm (marksN_len _ _)
  clear hoGm
  have hk12 : decide (((1 + 3 * N : Nat) : Int) < 0) = false := decide_eq_false (by omega)
  have hkk : (((1 + 3 * N : Nat) : Int) != ((1 + 3 * N : Nat) : Int)) = false := by simp
  go_wp2_with fail
  refine (heldNodeS_any _ N _ 1 _ (by omega) (by omega) (by omega) atG).mono ?_
  rintro e w13 ⟨rfl, hb13⟩
  have bw13 := below_step bw12 hb13
  have PB_13 := PB_12.belowS hb13
  clear pb0 pb1 pb2 pb3 pb4
  obtain ⟨pb0, pb1, pb2, pb3, pb4⟩ := blk5 PB_13
  clear PB_12
  have atW_13 := atW_12.belowS hb13
  clear atW_12
  have ha0_13 := ha0_12.belowS hb13
  clear ha0_12
  have atG_13 := atG.belowS hb13
  go_wp2_with fail
  have bwd := bw13.drew
  have PBd : Blk w13.drew gB 26 #[.string s1, .int .i64 x1, .int .i64 y1, .int .i64 z1, .int .i64 u1] := PB_13
  obtain ⟨pd0, pd1, pd2, pd3, pd4⟩ := blk5 PBd
  go_region_with (first | (go_at_call 17; refine (toNodeS_any A0 n0 c0 l0 _ (by omega) HL0.out (ha0.belowS bwd)).mono ?_; rintro e wd1 ⟨gd1, rfl, hod1, hbd1⟩; have bwd1 := below_step bwd hbd1; have PBd1 := PBd.belowS hbd1; obtain ⟨pd1_0, pd1_1, pd1_2, pd1_3, pd1_4⟩ := blk5 PBd1) | (go_at_call 18; refine (toCommand_any s1 x1 y1 z1 u1 _).mono ?_; rintro e wd2 ⟨rfl, hbd2⟩; have bwd2 := below_step bwd1 hbd2; have hod1x2 := own_belowS hod1 hbd2; have PBd2 := PBd1.belowS hbd2; obtain ⟨pd2_0, pd2_1, pd2_2, pd2_3, pd2_4⟩ := blk5 PBd2) | (go_at_call 19; refine (implCommandApply_any _ n0 n0 l0 s1 x1 y1 z1 u1 _ (by omega) HL0.out (own_at encN_len hod1x2 HL0.out) hz0 hs1 (HM.out.belowS bwd2)).mono ?_; rintro e wz ⟨AH, cH, m2, b2, rfl, hR2, hoH, hbz⟩))
  all_goals
    obtain ⟨rfl, rfl⟩ := CmdR.same hR2 HR.out
    rw [HNE.out] at hoH ⊢
    have bwz := below_step bwd2 hbz
    have atW_z := atW_13.belowS (below_step (below_step (below_step (Below.refl w13.heap.size w13).drew hbd1) hbd2) hbz)
    have atG_z := atG_13.belowS (below_step (below_step (below_step (Below.refl w13.heap.size w13).drew hbd1) hbd2) hbz)
    clear hR2
    go_wp2_with fail
    refine (eqNodeS_same _ N _ _ _ m2 _ (by omega) HNE.out (own_at encN_len hoH HNE.out) atW_z).mono ?_
    rintro e w14 ⟨rfl, hb14⟩
    have bw14 := below_step bwz hb14
    have atW_14 := atW_z.belowS hb14
    clear atW_z
    have atG_14 := atG_z.belowS hb14
    clear atG_z
    go_wp2_with fail
    clear atW_14
    refine (heldNodeS_any _ N _ 1 _ (by omega) (by omega) (by omega) atG_14).mono ?_
    rintro e w15 ⟨rfl, hb15⟩
    have bw15 := below_step bw14 hb15
    have atG_15 := atG_14.belowS hb15
    clear atG_14
    go_wp2_with fail
    go_ret
    exact ⟨rfl, bw15⟩
end Go.Proofs.YtlhhplhciiobfaaDoor
