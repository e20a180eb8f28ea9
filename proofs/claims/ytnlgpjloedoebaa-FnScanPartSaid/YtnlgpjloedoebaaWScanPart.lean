/- A part of the bytes has a part of the bodies: the walk of the law. -/
import Derived.Test.YtnlgpjloedoebaaWTabs
import Derived.Test.YtnlgpjloedoebaaWScan
namespace Go.Proofs.Ytnlgpjloedoebaa
open Go.RowKit
set_option linter.unusedVariables false
set_option linter.unusedSimpArgs false

set_option maxHeartbeats 2000000 in
theorem walk_FnScanPart (A0 : Option Addr) (n0 c0 : Nat) (l0 : List Int) (hl0 : l0.length = n0) (hnc0 : n0 ≤ c0) (hcm0 : c0 ≤ maxLen) (A1 : Option Addr) (n1 c1 : Nat) (l1 : List Int) (hl1 : l1.length = n1) (hnc1 : n1 ≤ c1) (hcm1 : c1 ≤ maxLen) (w : World)
    (ha0 : At encU 1 w A0 l0) (hw0 : ∀ u ∈ l0, (Lit.int .u8 u).wf = true) (ha1 : At encU 1 w A1 l1) (hw1 : ∀ u ∈ l1, (Lit.int .u8 u).wf = true) :
    Calls Try.prog 15 #[.slice A0 n0 c0, .slice A1 n1 c1] w fun e w' => e = .returned (.bool true) ∧ Below w.heap.size w w' := by
  have H0 := Lib.hid hl0
  clear hl0
  obtain ⟨i0, hi, hz0, hz1, hz2⟩ := info_parts infoInt
  obtain ⟨j0, ji, jz0, jz1, jz2⟩ := info_parts infoSl
  unfold maxLen at hcm0
  by_cases hb0 : 1048576 < n0
  · go_enter Try.func15, Try.ntmps15
    go_wp2
    go_ret
    exact ⟨rfl, Below.refl _ _⟩
  clear hl1
  unfold maxLen at hcm1
  by_cases hb1 : 1048576 < n1
  · go_enter Try.func15, Try.ntmps15
    go_wp2
    go_ret
    exact ⟨rfl, Below.refl _ _⟩
  go_enter Try.func15, Try.ntmps15
  go_wp2_with fail
  refine (drawFramesScan_any A0 n0 c0 l0 _ H0.out hnc0 ha0 (u8_bd hw0) (by omega)).mono ?_
  rintro e w1 ⟨l, A, c, rfl, at1, hnc, hcm, hn, hwf, bw1⟩
  obtain ⟨n, hln⟩ : ∃ n, l.length = n := ⟨_, rfl⟩
  have HL := Lib.hid hln
  rw [hln] at hn hnc ⊢
  clear hln
  obtain ⟨bs, hbs⟩ : ∃ bs, (scanL l).1 = bs := ⟨_, rfl⟩
  obtain ⟨p, hp⟩ : ∃ p, (scanL l).2 = p := ⟨_, rfl⟩
  have hpn : p ≤ n := by rw [← hp, ← HL.out]; exact (scan_back l).2.2
  obtain ⟨N, hN⟩ : ∃ N, bs.length = N := ⟨_, rfl⟩
  have hNp : 2 * N ≤ p := by have := (scanL_tot l).1; rw [hbs, hp, hN] at this; omega
  have hz16 : ∀ rows : List RowI, rows.map (·.zs) = bs → rows.length = N ∧ ∀ r ∈ rows, r.zs.length ≤ 16 := fun rows h => ⟨by rw [← hN, ← h, List.length_map], fun r hr => by
    have h1 : r.zs ∈ bs := by rw [← h]; exact List.mem_map.2 ⟨r, hr, rfl⟩
    rw [← hbs] at h1
    exact ((bodyB_iff.1 ((scan_back l).1 r.zs h1)).1).2⟩
  have HZ := Lib.hid hz16
  have HB := Lib.hid hbs
  have HP := Lib.hid hp
  have HN := Lib.hid hN
  have hx0 : ((p : Int) != (p : Int)) = false := by simp
  clear hbs hp hN hz16
  go_wp2_with fail
  refine (implScan_any A n c l _ HL.out hnc hcm at1 hwf (by omega)).mono ?_
  rw [HB.out, HP.out]
  rintro e w2 ⟨r2, A2, c2, rfl, hm2, hr2, hb2⟩
  have HM2 := Lib.hid hm2
  rw [(HZ.out _ hm2).1] at hr2 ⊢
  clear hm2
  have bw2 := below_step bw1 hb2
  have at2 := at1.belowS hb2
  have tab2 := hr2.tab (HZ.out _ HM2.out).1
  obtain ⟨hNc, hcm2⟩ := own_caps hr2.outer
  rw [(HZ.out _ HM2.out).1] at hNc
  go_wp2_with fail
  refine (specScan_any A n c l _ HL.out hnc hcm at2 hwf (by omega)).mono ?_
  rw [HB.out, HP.out]
  rintro e w3 ⟨r3, A3, c3, rfl, hm3, hr3, hb3⟩
  have HM3 := Lib.hid hm3
  rw [(HZ.out _ hm3).1] at hr3 ⊢
  clear hm3
  have bw3 := below_step bw2 hb3
  have at3 := at2.belowS hb3
  have tab23 := tab2.belowS hb3
  go_wp2_with fail
  refine (sameTable_t _ _ N _ _ r2 r3 _ (HM2.out.trans HM3.out.symm) (by omega) (HZ.out _ HM2.out).1 tab23 (hr3.tab (HZ.out _ HM3.out).1) (fun r hr => by have := (HZ.out _ HM2.out).2 r hr; omega)).mono ?_
  rintro e w4 ⟨rfl, hb4⟩
  have bw4 := below_step bw3 hb4
  have at4 := at3.belowS hb4
  have tab4 := tab23.belowS hb4
  clear hx0
  have hK : n1 % (n + 1) < n + 1 := Nat.mod_lt _ (by omega)
  have em : ((n1 : Int) % ((n : Int) + 1)) = ((n1 % (n + 1) : Nat) : Int) := by rw [Int.natCast_emod]; rfl
  have hn00 : ((n : Int) + 1 == 0) = false := by simp; omega
  obtain ⟨k, hkk⟩ : ∃ k, n1 % (n + 1) = k := ⟨_, rfl⟩
  rw [hkk] at hK em
  have EM := Lib.hid em
  clear em hkk
  have hsl1 : ∀ W, (Instr.slice 32 (.slice A n c) none (some (.int .i64 ((n1 : Int) % ((n : Int) + 1)))) none).run Try.prog W = .ok (.slice A k c) W := fun W => by rw [EM.out]; exact run_slice_upto Try.underlying32 hi hz1 A n c W k (by omega)
  have hlk : (l.take k).length = k := by rw [List.length_take, HL.out]; omega
  have HLK := Lib.hid hlk
  have hpart := scan_part l k
  obtain ⟨bsk, hbsk⟩ : ∃ bs, (scanL (l.take k)).1 = bs := ⟨_, rfl⟩
  obtain ⟨pk, hpk⟩ : ∃ p, (scanL (l.take k)).2 = p := ⟨_, rfl⟩
  rw [hbsk, hpk, HB.out, HP.out] at hpart
  obtain ⟨Nk, hNk⟩ : ∃ N, bsk.length = N := ⟨_, rfl⟩
  have hpre : bsk = bs.take Nk := by rw [← hNk]; exact (List.prefix_iff_eq_take.1 hpart.1)
  have hle : Nk ≤ N := by rw [← hNk, ← HN.out]; exact hpart.1.length_le
  obtain ⟨-, hpk1, hpk2⟩ := hpart
  have HBK := Lib.hid hbsk
  have HPK := Lib.hid hpk
  have HNK := Lib.hid hNk
  have HPRE := Lib.hid hpre
  have hpkm : (pk : Int) ≤ (n1 : Int) % ((n : Int) + 1) := by rw [EM.out]; omega
  clear hbsk hpk hNk hpre hlk
  have hsl2 : ∀ W, (Instr.slice 39 (.slice A2 N c2) none (some (.int .i64 (Nk : Int))) none).run Try.prog W = .ok (.slice A2 Nk c2) W := fun W => run_slice_upto Try.underlying39 ji jz1 A2 N c2 W Nk (by omega)
  go_wp2_with fail
  refine (implScan_any A k c (l.take k) _ HLK.out (by omega) hcm (at4.take (c := c) (by rw [HL.out]; exact hnc) (by rw [HL.out]; omega)) (fun z hz => hwf z (List.mem_of_mem_take hz)) (by omega)).mono ?_
  rw [HBK.out, HPK.out]
  rintro e w5 ⟨r5, A5, c5, rfl, hm5, hr5, hb5⟩
  have hl5 : r5.length = Nk := by rw [← HNK.out, ← hm5, List.length_map]
  have HL5 := Lib.hid hl5
  have HM5 := Lib.hid hm5
  rw [hl5] at hr5 ⊢
  clear hl5 hm5
  have bw5 := below_step bw4 hb5
  have tab5 := tab4.belowS hb5
  have hTm : (r2.take Nk).map (·.zs) = bsk := by rw [List.map_take, HM2.out, HPRE.out]
  have HTM := Lib.hid hTm
  clear hTm
  go_wp2_with fail
  refine (sameTable_t _ _ Nk _ _ r5 (r2.take Nk) _ (HM5.out.trans HTM.out.symm) (by omega) HL5.out (hr5.tab HL5.out) (tab5.take (c := c2) (by rw [(HZ.out _ HM2.out).1]; exact hNc) (by rw [(HZ.out _ HM2.out).1]; exact hle)) (fun r hr => ?_)).mono ?_
  · have h1 : r.zs ∈ (r2.take Nk).map (·.zs) := by rw [HTM.out, ← HM5.out]; exact List.mem_map.2 ⟨r, hr, rfl⟩
    obtain ⟨r', hr', he⟩ := List.mem_map.1 h1
    rw [← he]; have := (HZ.out _ HM2.out).2 r' (List.mem_of_mem_take hr'); omega
  rintro e w6 ⟨rfl, hb6⟩
  go_wp2_with fail
  go_ret
  exact ⟨rfl, below_step bw5 hb6⟩
end Go.Proofs.Ytnlgpjloedoebaa
