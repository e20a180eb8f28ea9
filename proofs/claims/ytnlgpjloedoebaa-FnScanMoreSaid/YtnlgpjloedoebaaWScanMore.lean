/- Good frames stay good: the walk of the law. -/
import Derived.Test.YtnlgpjloedoebaaWTabs
import Derived.Test.YtnlgpjloedoebaaWScan
namespace Go.Proofs.Ytnlgpjloedoebaa
open Go.RowKit
set_option linter.unusedVariables false
set_option linter.unusedSimpArgs false

set_option maxRecDepth 100000 in
set_option maxHeartbeats 2000000 in
theorem walk_FnScanMore (A0 : Option Addr) (n0 c0 : Nat) (l0 : List Int) (hl0 : l0.length = n0) (hnc0 : n0 ≤ c0) (hcm0 : c0 ≤ maxLen) (w : World)
    (ha0 : At encU 1 w A0 l0) (hw0 : ∀ u ∈ l0, (Lit.int .u8 u).wf = true) :
    Calls Try.prog 17 #[.slice A0 n0 c0] w fun e w' => e = .returned (.bool true) ∧ Below w.heap.size w w' := by
  have H0 := Lib.hid hl0
  clear hl0
  obtain ⟨i0, hi, hz0, hz1, hz2⟩ := info_parts infoInt
  obtain ⟨j0, ji, jz0, jz1, jz2⟩ := info_parts infoSl
  unfold maxLen at hcm0
  by_cases hb0 : 1048576 < n0
  · go_enter Try.func17, Try.ntmps17
    go_wp2
    go_ret
    exact ⟨rfl, Below.refl _ _⟩
  go_enter Try.func17, Try.ntmps17
  go_wp2_with fail
  refine (drawFramesScan_any A0 n0 c0 l0 _ H0.out hnc0 ha0 (u8_bd hw0) (by omega)).mono ?_
  rintro e w1 ⟨l, A, c, rfl, at1, hnc, hcm, hn, hwf, bw1⟩
  obtain ⟨n, hln⟩ : ∃ n, l.length = n := ⟨_, rfl⟩
  have HL := Lib.hid hln
  rw [hln] at hn hnc ⊢
  clear hln
  obtain ⟨bs, hbs⟩ : ∃ bs, (scanL l).1 = bs := ⟨_, rfl⟩
  obtain ⟨p, hp⟩ : ∃ p, (scanL l).2 = p := ⟨_, rfl⟩
  have hpn : p ≤ n := by rw [← hp, ← HL.out]; exact (scan_back l).2.2
  obtain ⟨N, hN⟩ : ∃ N, bs.length = N := ⟨_, rfl⟩
  have hNp : 2 * N ≤ p := by have := (scanL_tot l).1; rw [hbs, hp, hN] at this; omega
  have hz16 : ∀ rows : List RowI, rows.map (·.zs) = bs → rows.length = N ∧ ∀ r ∈ rows, r.zs.length ≤ 16 := fun rows h => ⟨by rw [← hN, ← h, List.length_map], fun r hr => by
    have h1 : r.zs ∈ bs := by rw [← h]; exact List.mem_map.2 ⟨r, hr, rfl⟩
    rw [← hbs] at h1
    exact ((bodyB_iff.1 ((scan_back l).1 r.zs h1)).1).2⟩
  have HZ := Lib.hid hz16
  have HB := Lib.hid hbs
  have HP := Lib.hid hp
  have HN := Lib.hid hN
  have hx0 : ((p : Int) != (p : Int)) = false := by simp
  clear hbs hp hN hz16
  go_wp2_with fail
  refine (implScan_any A n c l _ HL.out hnc hcm at1 hwf (by omega)).mono ?_
  rw [HB.out, HP.out]
  rintro e w2 ⟨r2, A2, c2, rfl, hm2, hr2, hb2⟩
  have HM2 := Lib.hid hm2
  rw [(HZ.out _ hm2).1] at hr2 ⊢
  clear hm2
  have bw2 := below_step bw1 hb2
  have at2 := at1.belowS hb2
  have tab2 := hr2.tab (HZ.out _ HM2.out).1
  obtain ⟨hNc, hcm2⟩ := own_caps hr2.outer
  rw [(HZ.out _ HM2.out).1] at hNc
  go_wp2_with fail
  refine (specScan_any A n c l _ HL.out hnc hcm at2 hwf (by omega)).mono ?_
  rw [HB.out, HP.out]
  rintro e w3 ⟨r3, A3, c3, rfl, hm3, hr3, hb3⟩
  have HM3 := Lib.hid hm3
  rw [(HZ.out _ hm3).1] at hr3 ⊢
  clear hm3
  have bw3 := below_step bw2 hb3
  have at3 := at2.belowS hb3
  have tab23 := tab2.belowS hb3
  go_wp2_with fail
  refine (sameTable_t _ _ N _ _ r2 r3 _ (HM2.out.trans HM3.out.symm) (by omega) (HZ.out _ HM2.out).1 tab23 (hr3.tab (HZ.out _ HM3.out).1) (fun r hr => by have := (HZ.out _ HM2.out).2 r hr; omega)).mono ?_
  rintro e w4 ⟨rfl, hb4⟩
  have bw4 := below_step bw3 hb4
  have at4 := at3.belowS hb4
  have tab4 := tab23.belowS hb4
  clear hx0
  have own0 := World.ownsRow_lit (base := w4.heap.size) (e := 3) (size := 1) w4 #[] 0 (Nat.le_refl _) (by decide) rfl
  have hb40 := (Below.refl w4.heap.size w4).alloc (Nat.le_refl _) (.cells #[] 3)
  have hb56 : bodyB [5, 6] = true := by decide
  have hfr : frameL [5, 6] = [2, 5, 6, sumL [5, 6]] := by rw [frameL_pos hb56]; rfl
  have hmore := scan_more l hb56
  rw [HB.out, HP.out] at hmore
  replace hmore : scanL (l.take p ++ frameL [5, 6]) = (bs ++ [[5, 6]], p + 4) := hmore
  have hTl : (l.take p).length = p := by rw [List.length_take, HL.out]; omega
  have HTL := Lib.hid hTl
  have HMO := Lib.hid hmore
  have HFR := Lib.hid hfr
  have at1w := (at4.belowS hb40).take (c := c) (m := p) (by rw [HL.out]; exact hnc) (by rw [HL.out]; exact hpn)
  have hsl : ∀ W, (Instr.slice 32 (.slice A n c) none (some (.int .i64 (p : Int))) none).run Try.prog W = .ok (.slice A p c) W := fun W => run_slice_upto Try.underlying32 hi hz1 A n c W p (by omega)
  clear hb56 hfr hmore hTl
  go_wp2_with (at_builtin; refine wpList_append_at _ rfl _ _ 32 rfl w4.heap.size 3 i0 (.int .i64 0) 1 8 Try.underlying32 hi hz0 hz1 hz2 rfl (by decide) _ 0 [] rfl own0 encI_len encI_one A p c (l.take p) rfl HTL.out at1w (by unfold maxLen; omega) (by omega) (by simp) ?_; intro v5 w5 ho5 hg5 hv5)
  have hb5 := below_app hb40 hg5 (own_ge own0)
  have hz5 := hb5.size
  have ho5' := ho5.alloc (.cells #[.int .i64 5, .int .i64 6] 3)
  have hn5 := at_new (enc := encI) w5 encI_len [5, 6] 3 #[.int .i64 5, .int .i64 6] rfl (show 2 ≤ maxLen by decide)
  refine (implFrameOf_any _ 2 _ [5, 6] _ (by omega) rfl hn5).mono ?_
  rw [HFR.out]
  rintro e w6 ⟨A6, c6, rfl, ho6, hb6⟩
  have ho5x := own_belowS ho5' hb6
  have hb56 := below_step (below_alloc hb5 _) hb6
  have hz6 := hb56.size
  have at6 := own_at encI_len ho6 rfl
  simp only [List.length_cons, List.length_nil, Nat.reduceAdd]
  go_wp2_with (at_builtin; refine wpList_append_at _ rfl _ _ 32 rfl w4.heap.size 3 i0 (.int .i64 0) 1 8 Try.underlying32 hi hz0 hz1 hz2 rfl (by decide) v5 (0 + p) _ rfl ho5x encI_len encI_one A6 4 c6 [2, 5, 6, sumL [5, 6]] rfl rfl at6 (by unfold maxLen; omega) (by omega) (by omega) ?_; intro v7 w7 ho7 hg7 hv7)
  obtain ⟨A7, c7, rfl, h7c, h7m, -⟩ := own_form ho7
  unfold maxLen at h7m
  have hb7 := below_app hb56 hg7 (own_ge ho5x)
  rw [Nat.zero_add, List.nil_append] at ho7
  rw [Nat.zero_add] at h7c
  have hL : (l.take p ++ frameL [5, 6]).length = p + 4 := by rw [List.length_append, HTL.out, HFR.out]; rfl
  have at7 : At encI 1 w7 A7 (l.take p ++ frameL [5, 6]) := own_at (k := 1) (base := w4.heap.size) (e := 3) (n := p + 4) (c := c7) encI_len (by rw [List.flatMap_append, HFR.out]; exact ho7) hL
  have hwf7 : ∀ z ∈ l.take p ++ frameL [5, 6], -9223372036854775808 ≤ z ∧ z ≤ 9223372036854775807 := fun z hz => by
    rcases List.mem_append.1 hz with hz | hz
    · exact hwf z (List.mem_of_mem_take hz)
    · exact frameL_bd z hz
  have HL7 := Lib.hid hL
  have bw7 := below_step bw4 hb7
  have tab7 := tab4.belowS hb7
  clear hL
  rw [Nat.zero_add]
  refine (implScan_any A7 (p + 4) c7 (l.take p ++ frameL [5, 6]) _ HL7.out h7c (by omega) at7 hwf7 (by omega)).mono ?_
  rw [HMO.out]
  rintro e w8 ⟨r8, A8, c8, rfl, hm8, hr8, hb8⟩
  have hl8 : r8.length = N + 1 := by have := congrArg List.length hm8; rw [List.length_map, List.length_append, HN.out] at this; exact this
  have HL8 := Lib.hid hl8
  rw [hl8] at hr8 ⊢
  obtain ⟨h8c, h8m⟩ := own_caps hr8.outer
  rw [hl8] at h8c
  have tab8 := hr8.tab HL8.out
  have hlN : N < r8.length := by rw [hl8]; omega
  have hT8 : (r8.take N).map (·.zs) = bs := by rw [List.map_take, hm8, ← HN.out, List.take_left]
  have hlast : r8[N].zs = [5, 6] := by
    have h1 : (r8.map (·.zs))[N]? = some r8[N].zs := by rw [List.getElem?_map, List.getElem?_eq_getElem hlN]; rfl
    rw [hm8, List.getElem?_append_right (by rw [HN.out]; exact Nat.le_refl _), HN.out, Nat.sub_self] at h1
    injection h1 with h1
    exact h1.symm
  have hidx := fun W => run_index_one (c := c8) (n := N + 1) Try.underlying39 ji jz1 (tab8.outer.addr (by omega)) (show N < N + 1 by omega) W
  have hcz : ∀ W, TabAt W A8 r8 → W.cell? ⟨blk A8, off A8 + N, none⟩ = some (.slice r8[N].A 2 r8[N].c) ∧ At encI 1 W r8[N].A [5, 6] := fun W h => ⟨by
    have := h.outer.cell1 hlN (u := .slice r8[N].A r8[N].zs.length r8[N].c) rfl
    rw [hlast] at this; exact this, by rw [← hlast]; exact h.inner _ (List.getElem_mem _)⟩
  generalize r8[N] = rl at hcz
  have hsl8 : ∀ W, (Instr.slice 39 (.slice A8 (N + 1) c8) none (some (.int .i64 (N : Int))) none).run Try.prog W = .ok (.slice A8 N c8) W := fun W => run_slice_upto Try.underlying39 ji jz1 A8 _ c8 W N (by omega)
  have HCZ := Lib.hid hcz
  have HT8 := Lib.hid hT8
  have hx1 : ((p : Int) + 4 == (p : Int) + 4) = true := by simp
  have hx2 : ((N : Int) + 1 == (N : Int) + 1) = true := by simp
  have bw8 := below_step bw7 hb8
  have tab28 := tab7.belowS hb8
  have hlT : (r8.take N).length = N := by rw [List.length_take, HL8.out]; omega
  have HLT := Lib.hid hlT
  clear hl8 hm8 hT8 hlast hcz hsl hlT
  go_wp2_with fail
  refine (sameTable_t _ _ N _ _ (r8.take N) r2 _ (HT8.out.trans HM2.out.symm) (by omega) HLT.out (tab8.take (c := c8) (by rw [HL8.out]; exact h8c) (by rw [HL8.out]; omega)) tab28 (fun r hr => ?_)).mono ?_
  · have h1 : r.zs ∈ (r8.take N).map (·.zs) := List.mem_map.2 ⟨r, hr, rfl⟩
    rw [HT8.out, ← HM2.out] at h1
    obtain ⟨r', hr', he⟩ := List.mem_map.1 h1
    rw [← he]; have := (HZ.out _ HM2.out).2 r' hr'; omega
  rintro e w9 ⟨rfl, hb9⟩
  have bw9 := below_step bw8 hb9
  obtain ⟨cz, atL⟩ := HCZ.out w9 (tab8.belowS hb9)
  have hn9 := at_new (enc := encI) w9 encI_len [5, 6] 3 #[.int .i64 5, .int .i64 6] rfl (show 2 ≤ maxLen by decide)
  have atL' := atL.belowS ((Below.refl w9.heap.size w9).alloc (Nat.le_refl _) (.cells #[.int .i64 5, .int .i64 6] 3))
  clear hsl8
  go_wp2_with fail
  refine (sameInts_t _ _ 2 _ _ [5, 6] [5, 6] _ rfl (by omega) rfl atL' hn9).mono ?_
  rintro e w10 ⟨rfl, hb10⟩
  go_wp2_with fail
  go_ret
  exact ⟨rfl, below_step (below_alloc bw9 _) hb10⟩
end Go.Proofs.Ytnlgpjloedoebaa
