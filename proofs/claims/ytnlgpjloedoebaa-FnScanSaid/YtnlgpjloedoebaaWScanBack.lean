/- What is read was written: the walk of the law. -/
import Derived.Test.YtnlgpjloedoebaaWTabs
import Derived.Test.YtnlgpjloedoebaaWScan
namespace Go.Proofs.Ytnlgpjloedoebaa
open Go.RowKit
set_option linter.unusedVariables false
set_option linter.unusedSimpArgs false

set_option maxHeartbeats 2000000 in
theorem walk_FnScan (A0 : Option Addr) (n0 c0 : Nat) (l0 : List Int) (hl0 : l0.length = n0) (hnc0 : n0 ≤ c0) (hcm0 : c0 ≤ maxLen) (w : World)
    (ha0 : At encU 1 w A0 l0) (hw0 : ∀ u ∈ l0, (Lit.int .u8 u).wf = true) :
    Calls Try.prog 16 #[.slice A0 n0 c0] w fun e w' => e = .returned (.bool true) ∧ Below w.heap.size w w' := by
  have H0 := Lib.hid hl0
  clear hl0
  obtain ⟨i0, hi, hz0, hz1, hz2⟩ := info_parts infoInt
  obtain ⟨j0, ji, jz0, jz1, jz2⟩ := info_parts infoSl
  unfold maxLen at hcm0
  by_cases hb0 : 1048576 < n0
  · go_enter Try.func16, Try.ntmps16
    go_wp2
    go_ret
    exact ⟨rfl, Below.refl _ _⟩
  go_enter Try.func16, Try.ntmps16
  go_wp2_with fail
  refine (drawFramesScan_any A0 n0 c0 l0 _ H0.out hnc0 ha0 (u8_bd hw0) (by omega)).mono ?_
  rintro e w1 ⟨l, A, c, rfl, at1, hnc, hcm, hn, hwf, bw1⟩
  obtain ⟨n, hln⟩ : ∃ n, l.length = n := ⟨_, rfl⟩
  have HL := Lib.hid hln
  rw [hln] at hn hnc ⊢
  clear hln
  obtain ⟨bs, hbs⟩ : ∃ bs, (scanL l).1 = bs := ⟨_, rfl⟩
  obtain ⟨p, hp⟩ : ∃ p, (scanL l).2 = p := ⟨_, rfl⟩
  have hpn : p ≤ n := by rw [← hp, ← HL.out]; exact (scan_back l).2.2
  obtain ⟨N, hN⟩ : ∃ N, bs.length = N := ⟨_, rfl⟩
  have hNp : 2 * N ≤ p := by have := (scanL_tot l).1; rw [hbs, hp, hN] at this; omega
  have hz16 : ∀ rows : List RowI, rows.map (·.zs) = bs → rows.length = N ∧ ∀ r ∈ rows, r.zs.length ≤ 16 := fun rows h => ⟨by rw [← hN, ← h, List.length_map], fun r hr => by
    have h1 : r.zs ∈ bs := by rw [← h]; exact List.mem_map.2 ⟨r, hr, rfl⟩
    rw [← hbs] at h1
    exact ((bodyB_iff.1 ((scan_back l).1 r.zs h1)).1).2⟩
  have HZ := Lib.hid hz16
  have HB := Lib.hid hbs
  have HP := Lib.hid hp
  have HN := Lib.hid hN
  have hx0 : ((p : Int) != (p : Int)) = false := by simp
  clear hbs hp hN hz16
  go_wp2_with fail
  refine (implScan_any A n c l _ HL.out hnc hcm at1 hwf (by omega)).mono ?_
  rw [HB.out, HP.out]
  rintro e w2 ⟨r2, A2, c2, rfl, hm2, hr2, hb2⟩
  have HM2 := Lib.hid hm2
  rw [(HZ.out _ hm2).1] at hr2 ⊢
  clear hm2
  have bw2 := below_step bw1 hb2
  have at2 := at1.belowS hb2
  have tab2 := hr2.tab (HZ.out _ HM2.out).1
  obtain ⟨hNc, hcm2⟩ := own_caps hr2.outer
  rw [(HZ.out _ HM2.out).1] at hNc
  go_wp2_with fail
  refine (specScan_any A n c l _ HL.out hnc hcm at2 hwf (by omega)).mono ?_
  rw [HB.out, HP.out]
  rintro e w3 ⟨r3, A3, c3, rfl, hm3, hr3, hb3⟩
  have HM3 := Lib.hid hm3
  rw [(HZ.out _ hm3).1] at hr3 ⊢
  clear hm3
  have bw3 := below_step bw2 hb3
  have at3 := at2.belowS hb3
  have tab23 := tab2.belowS hb3
  go_wp2_with fail
  refine (sameTable_t _ _ N _ _ r2 r3 _ (HM2.out.trans HM3.out.symm) (by omega) (HZ.out _ HM2.out).1 tab23 (hr3.tab (HZ.out _ HM3.out).1) (fun r hr => by have := (HZ.out _ HM2.out).2 r hr; omega)).mono ?_
  rintro e w4 ⟨rfl, hb4⟩
  have bw4 := below_step bw3 hb4
  have at4 := at3.belowS hb4
  have tab4 := tab23.belowS hb4
  clear hx0
  have own0 := World.ownsRow_lit (base := w4.heap.size) (e := 3) (size := 1) w4 #[] 0 (Nat.le_refl _) (by decide) rfl
  have hb40 := (Below.refl w4.heap.size w4).alloc (Nat.le_refl _) (.cells #[] 3)
  have hback := scan_back l
  rw [HB.out, HP.out] at hback
  have HBK := Lib.hid hback
  clear hback
  go_wp2_with fail
  go_loopw [8, 9] (fun v i wr => ∃ k : Nat, i = .int .i64 k ∧ k ≤ N ∧ wr.ownsRow w4.heap.size 3 1 v (((bs.take k).flatMap frameL).length) (((bs.take k).flatMap frameL).flatMap encI) ∧ Below w4.heap.size w4 wr) (fun _ i _ => N - (intOf i).toNat)
  case atStart => exact ⟨0, rfl, Nat.zero_le _, own0, hb40⟩
  case round =>
    obtain ⟨k, rfl, hk, ho, hbw⟩ := hrel
    have tabw := tab4.belowS hbw
    by_cases hlt : k < N
    · have hlk : k < r2.length := by rw [(HZ.out _ HM2.out).1]; exact hlt
      have hidx := fun W => run_index_one (c := c2) Try.underlying39 ji jz1 (tabw.outer.addr (by omega)) hlt W
      have cz : wr.cell? ⟨blk A2, off A2 + k, none⟩ = some (.slice r2[k].A r2[k].zs.length r2[k].c) := tabw.outer.cell1 hlk rfl
      have hri := tabw.inner r2[k] (List.getElem_mem _)
      have hzr := (HZ.out _ HM2.out).2 r2[k] (List.getElem_mem _)
      have HT := Lib.hid (show bs.take (k + 1) = bs.take k ++ [r2[k].zs] by rw [← HM2.out, take_snoc' _ k (by simpa using hlk)]; simp)
      have hle := flat_le (bs.take k)
      have hlt' : (bs.take k).length ≤ k := List.length_take_le _ _
      generalize r2[k] = r at cz hri hzr HT
      clear hlk
      generalize hX : (bs.take k).flatMap frameL = X at ho hle
      have HX := Lib.hid hX
      clear hX
      go_wp2_with fail
      refine (implFrameOf_any _ _ _ r.zs _ (by omega) rfl hri).mono ?_
      rintro e w5 ⟨A5, c5, rfl, ho5, hb5⟩
      have hf18 := frameL_len18' r.zs
      obtain ⟨m, hm⟩ : ∃ m, (frameL r.zs).length = m := ⟨_, rfl⟩
      have HM5 := Lib.hid hm
      rw [hm] at ho5 hf18 ⊢
      clear hm
      have hz5 := hb5.size
      have hz4 := hbw.size
      have hoX := own_belowS ho hb5
      have at5 := own_at encI_len ho5 HM5.out
      go_wp2_with (at_builtin; refine wpList_append_at _ rfl _ _ 32 rfl w4.heap.size 3 i0 (.int .i64 0) 1 8 Try.underlying32 hi hz0 hz1 hz2 rfl (by decide) _ X.length _ rfl hoX encI_len encI_one A5 m c5 (frameL r.zs) rfl HM5.out at5 (by unfold maxLen; omega) (by omega) (by omega) ?_; intro v6 w6 ho6 hg6 hv6)
      go_roundw
      case rel =>
        refine ⟨k + 1, by go_num, by omega, ?_, below_app (below_step hbw hb5) hg6 (own_ge ho)⟩
        rw [HT.out, List.flatMap_append, HX.out]
        have : (X ++ [r.zs].flatMap frameL) = X ++ frameL r.zs := by simp
        rw [this, List.length_append, HM5.out, List.flatMap_append]
        exact ho6
      case measure => simp [intOf]; omega
    · obtain rfl : N = k := by omega
      have hTl : (l.take p).length = p := by rw [List.length_take, HL.out]; omega
      have HTL := Lib.hid hTl
      have HE := Lib.hid (show (bs.take N).flatMap frameL = l.take p by rw [List.take_of_length_le (by rw [HN.out]; exact Nat.le_refl _)]; exact HBK.out.2.1)
      rw [HE.out, hTl] at ho
      clear hTl
      obtain ⟨A5, c5, rfl, _⟩ := own_form ho
      have at5 := own_at encI_len ho HTL.out
      have at1w := (at4.belowS hbw).take (c := c) (m := p) (by rw [HL.out]; exact hnc) (by rw [HL.out]; exact hpn)
      have hsl : ∀ W, (Instr.slice 32 (.slice A n c) none (some (.int .i64 (p : Int))) none).run Try.prog W = .ok (.slice A p c) W := fun W => run_slice_upto Try.underlying32 hi hz1 A n c W p (by omega)
      have bww := below_step bw4 hbw
      go_wp2_with fail
      refine (sameInts_t _ _ p _ _ _ _ _ rfl (by omega) HTL.out at5 at1w).mono ?_
      rintro e w6 ⟨rfl, hb6⟩
      go_wp2_with fail
      go_ret
      exact ⟨rfl, below_step bww hb6⟩
end Go.Proofs.Ytnlgpjloedoebaa
