/- A torn frame is left out: the walk of the law. -/
import Derived.Test.YtnlgpjloedoebaaWTabs
namespace Go.Proofs.Ytnlgpjloedoebaa
open Go.RowKit
set_option linter.unusedVariables false
set_option linter.unusedSimpArgs false

set_option maxHeartbeats 2000000 in
theorem walk_FnFramesTorn (A0 : Option Addr) (n0 c0 : Nat) (l0 : List Int) (hl0 : l0.length = n0) (hnc0 : n0 ≤ c0) (hcm0 : c0 ≤ maxLen) (w : World)
    (ha0 : At encU 1 w A0 l0) (hw0 : ∀ u ∈ l0, (Lit.int .u8 u).wf = true) :
    Calls Try.prog 14 #[.slice A0 n0 c0] w fun e w' => e = .returned (.bool true) ∧ Below w.heap.size w w' := by
  have H0 := Lib.hid hl0
  clear hl0
  obtain ⟨i0, hi, hz0, hz1, hz2⟩ := info_parts infoInt
  obtain ⟨j0, ji, jz0, jz1, jz2⟩ := info_parts infoSl
  unfold maxLen at hcm0
  by_cases hb0 : 1048576 < n0
  · go_enter Try.func14, Try.ntmps14
    go_wp2
    go_ret
    exact ⟨rfl, Below.refl _ _⟩
  go_enter Try.func14, Try.ntmps14
  go_wp2_with fail
  refine (drawFramesOf_any A0 n0 c0 l0 _ H0.out hnc0 ha0 (u8_bd hw0) (by omega)).mono ?_
  rintro e w1 ⟨rows, A, c, rfl, hro, hn, hrange, bw1⟩
  obtain ⟨n, hln⟩ : ∃ n, rows.length = n := ⟨_, rfl⟩
  have HL := Lib.hid hln
  rw [hln] at hn hro ⊢
  clear hln
  have tab1 := hro.tab HL.out
  obtain ⟨hnc, hcm⟩ := own_caps hro.outer
  rw [HL.out] at hnc
  have hz17 : ∀ r ∈ rows, r.zs.length ≤ 1048576 := fun r hr => by have := (hrange r hr).1; omega
  obtain ⟨bs, hbs⟩ : ∃ bs, rows.map (·.zs) = bs := ⟨_, rfl⟩
  have HBS := Lib.hid hbs
  have hF : (framesL bs).length ≤ 738 := framesL_len (by rw [← hbs, List.length_map, HL.out]; omega)
  obtain ⟨m, hm⟩ : ∃ m, (framesL bs).length = m := ⟨_, rfl⟩
  have HM := Lib.hid hm
  rw [hm] at hF
  clear hm hbs hro hrange
  by_cases hk : okT bs = true
  case neg =>
    have hk' : okT bs = false := by simpa using hk
    have HK := Lib.hid hk'
    clear hk hk'
    go_wp2_with fail
    refine (implFramesOf_any _ _ _ rows _ HL.out tab1 (by omega) hz17).mono ?_
    rw [HBS.out, HK.out]
    rintro e w2 ⟨A2, c2, rfl, ho2, hb2⟩
    rw [HM.out] at ho2 ⊢
    have tab2 := tab1.belowS hb2
    have at2 := own_at encI_len ho2 HM.out
    have bw2 := below_step bw1 hb2
    go_wp2_with fail
    refine (specFramesOf_any _ _ _ rows _ HL.out tab2 (by omega) hz17).mono ?_
    rw [HBS.out, HK.out]
    rintro e w3 ⟨A3, c3, rfl, ho3, hb3⟩
    rw [HM.out] at ho3 ⊢
    have at23 := at2.belowS hb3
    have at33 := own_at encI_len ho3 HM.out
    have bw3 := below_step bw2 hb3
    go_wp2_with fail
    refine (sameInts_t _ _ _ _ _ _ _ _ rfl (by omega) HM.out at23 at33).mono ?_
    rintro e w4 ⟨rfl, hb4⟩
    have bw4 := below_step bw3 hb4
    go_wp2_with fail
    refine (sameInts_t _ _ _ _ _ _ _ _ rfl (by omega) HM.out (at23.belowS hb4) (at33.belowS hb4)).mono ?_
    rintro e w5 ⟨rfl, hb5⟩
    have bw5 := below_step bw4 hb5
    go_wp2_with fail
    go_ret
    exact ⟨rfl, bw5⟩
  case pos =>
    by_cases hn0 : n = 0
    · have hn00 : ((n : Int) == 0) = true := by simp; omega
      have HK := Lib.hid hk
      clear hk hn0
      go_wp2_with fail
      refine (implFramesOf_any _ _ _ rows _ HL.out tab1 (by omega) hz17).mono ?_
      rw [HBS.out, HK.out]
      rintro e w2 ⟨A2, c2, rfl, ho2, hb2⟩
      rw [HM.out] at ho2 ⊢
      have tab2 := tab1.belowS hb2
      have at2 := own_at encI_len ho2 HM.out
      have bw2 := below_step bw1 hb2
      go_wp2_with fail
      refine (specFramesOf_any _ _ _ rows _ HL.out tab2 (by omega) hz17).mono ?_
      rw [HBS.out, HK.out]
      rintro e w3 ⟨A3, c3, rfl, ho3, hb3⟩
      rw [HM.out] at ho3 ⊢
      have at23 := at2.belowS hb3
      have at33 := own_at encI_len ho3 HM.out
      have bw3 := below_step bw2 hb3
      go_wp2_with fail
      refine (sameInts_t _ _ _ _ _ _ _ _ rfl (by omega) HM.out at23 at33).mono ?_
      rintro e w4 ⟨rfl, hb4⟩
      have bw4 := below_step bw3 hb4
      go_wp2_with fail
      refine (sameInts_t _ _ _ _ _ _ _ _ rfl (by omega) HM.out (at23.belowS hb4) (at33.belowS hb4)).mono ?_
      rintro e w5 ⟨rfl, hb5⟩
      have bw5 := below_step bw4 hb5
      go_wp2_with fail
      go_ret
      exact ⟨rfl, bw5⟩
    have hn00 : ((n : Int) == 0) = false := by simp; omega
    have hlast : n - 1 < rows.length := by rw [HL.out]; omega
    have hbs1 : bs = bs.take (n - 1) ++ [rows[n - 1].zs] := by
      rw [← HBS.out, ← List.map_take]
      have h1 : rows.take (n - 1) ++ [rows[n - 1]] = rows := by
        rw [← take_snoc' rows (n - 1) hlast, show n - 1 + 1 = n from by omega]
        exact List.take_of_length_le (by rw [HL.out]; exact Nat.le_refl _)
      rw [show (rows.take (n - 1)).map (·.zs) ++ [rows[n - 1].zs] = (rows.take (n - 1) ++ [rows[n - 1]]).map (·.zs) from by rw [List.map_append]; rfl, h1]
    have htorn := frames_torn (bs := bs.take (n - 1)) (b := rows[n - 1].zs) (by rw [← hbs1]; exact hk)
    rw [← hbs1, HM.out] at htorn
    have hmb : rows[n - 1].zs.length + 2 ≤ m := by
      have hb := (okT_iff.1 hk).2 rows[n - 1].zs (by rw [hbs1]; simp)
      have := frameL_size hb
      have h2 : framesL bs = (bs.take (n - 1)).flatMap frameL ++ frameL rows[n - 1].zs := by rw [framesL_pos hk]; exact (congrArg (List.flatMap frameL) hbs1).trans (by simp only [List.flatMap_append, List.flatMap_cons, List.flatMap_nil, List.append_nil])
      have h3 := congrArg List.length h2
      rw [List.length_append, HM.out] at h3
      omega
    have hzl := hz17 rows[n - 1] (List.getElem_mem _)
    have hcz : ∀ W, At encR 1 W A rows → W.cell? ⟨blk A, off A + (n - 1), none⟩ = some (.slice rows[n - 1].A rows[n - 1].zs.length rows[n - 1].c) := fun W h => h.cell1 hlast rfl
    generalize rows[n - 1] = rl at hbs1 htorn hmb hzl hcz
    obtain ⟨bl, hbl⟩ : ∃ bl, rl.zs.length = bl := ⟨_, rfl⟩
    rw [hbl] at hmb htorn hzl
    simp only [hbl] at hcz
    obtain ⟨d, rfl⟩ : ∃ d, m = d + (bl + 2) := ⟨m - (bl + 2), by omega⟩
    rw [Nat.add_sub_cancel] at htorn
    obtain ⟨N, rfl⟩ : ∃ N, n = N + 1 := ⟨n - 1, by omega⟩
    simp only [Nat.add_sub_cancel] at htorn hcz
    have HTN := Lib.hid htorn
    have HK := Lib.hid hk
    have HCZ := Lib.hid hcz
    clear hk hbs1 htorn hbl hlast hn0 hcz
    have hsl1 : ∀ W A c, d + (bl + 2) ≤ c → (Instr.slice 32 (.slice A (d + (bl + 2)) c) none (some (.int .i64 ((d : Int) + ((bl : Int) + 2) - 1))) none).run Try.prog W = .ok (.slice A (d + (bl + 2) - 1) c) W := fun W A c hc => by
      rw [show ((d : Int) + ((bl : Int) + 2) - 1) = ((d + (bl + 2) - 1 : Nat) : Int) by omega]; exact run_slice_upto Try.underlying32 hi hz1 A _ c W _ (by omega)
    have hsl2 : ∀ W, (Instr.slice 39 (.slice A (N + 1) c) none (some (.int .i64 (N : Int))) none).run Try.prog W = .ok (.slice A N c) W := fun W => run_slice_upto Try.underlying39 ji jz1 A _ c W N (by omega)
    have hidx : ∀ W, (Instr.indexAt 39 (.slice A (N + 1) c) (.int .i64 (N : Int))).run Try.prog W = .ok (.pointer (some ⟨blk A, off A + N, none⟩)) W := fun W => run_index_one (c := c) Try.underlying39 ji jz1 (tab1.outer.addr (by rw [HL.out]; omega)) (by omega) W
    go_wp2_with fail
    refine (implFramesOf_any _ _ _ rows _ HL.out tab1 (by omega) hz17).mono ?_
    rw [HBS.out, HK.out]
    rintro e w2 ⟨A2, c2, rfl, ho2, hb2⟩
    rw [HM.out] at ho2 ⊢
    have tab2 := tab1.belowS hb2
    have at2 := own_at encI_len ho2 HM.out
    obtain ⟨hnc2, hcm2⟩ := own_caps ho2
    have bw2 := below_step bw1 hb2
    go_wp2_with fail
    refine (specFramesOf_any _ _ _ rows _ HL.out tab2 (by omega) hz17).mono ?_
    rw [HBS.out, HK.out]
    rintro e w3 ⟨A3, c3, rfl, ho3, hb3⟩
    rw [HM.out] at ho3 ⊢
    have tab3 := tab2.belowS hb3
    have at23 := at2.belowS hb3
    have at33 := own_at encI_len ho3 HM.out
    have bw3 := below_step bw2 hb3
    go_wp2_with fail
    refine (sameInts_t _ _ _ _ _ _ _ _ rfl (by omega) HM.out at23 at33).mono ?_
    rintro e w4 ⟨rfl, hb4⟩
    have bw4 := below_step bw3 hb4
    have tab4 := tab3.belowS hb4
    have at24 := at23.belowS hb4
    have hsl1' := fun W => hsl1 W A2 c2 hnc2
    clear hsl1
    go_wp2_with fail
    refine (implScan_any _ (d + (bl + 2) - 1) c2 ((framesL bs).take (d + (bl + 2) - 1)) _ (by rw [List.length_take, HM.out]; omega) (by omega) hcm2 (at24.take (c := c2) (by rw [HM.out]; exact hnc2) (by rw [HM.out]; omega)) (fun z hz => framesL_bd z (List.mem_of_mem_take hz)) (by omega)).mono ?_
    rw [HTN.out]
    rintro e w5 ⟨r5, A5, c5, rfl, hm5, hr5, hb5⟩
    have hTl : (rows.take N).length = N := by rw [List.length_take, HL.out]; omega
    have hTm : (rows.take N).map (·.zs) = bs.take N := by rw [List.map_take, HBS.out]
    have hl5 : r5.length = N := by rw [len_of_map (hm5.trans hTm.symm), hTl]
    have HL5 := Lib.hid hl5
    have HM5 := Lib.hid hm5
    have HTM := Lib.hid hTm
    rw [hl5] at hr5 ⊢
    clear hl5 hm5 hTl hTm
    have bw5 := below_step bw4 hb5
    have tab5 := tab4.belowS hb5
    have hcz5 : ∀ W, (w5.heap.size ≤ W.heap.size) → Below w5.heap.size w5 W → W.cell? ⟨blk A, off A + N, none⟩ = some (.slice rl.A bl rl.c) := fun W _ hb => HCZ.out W (tab5.belowS hb).outer
    have HC5 := Lib.hid hcz5
    clear hcz5
    go_wp2_with fail
    refine (sameTable_t _ _ N _ _ r5 (rows.take N) _ (HM5.out.trans HTM.out.symm) (by omega) HL5.out (hr5.tab HL5.out) (tab5.take (c := c) (by rw [HL.out]; exact hnc) (by rw [HL.out]; omega)) (fun r hr => ?_)).mono ?_
    · have h1 : r.zs ∈ (rows.take N).map (·.zs) := by rw [HTM.out, ← HM5.out]; exact List.mem_map.2 ⟨r, hr, rfl⟩
      obtain ⟨r', hr', he⟩ := List.mem_map.1 h1
      rw [← he]; have := hz17 r' (List.mem_of_mem_take hr'); omega
    rintro e w6 ⟨rfl, hb6⟩
    have cz := HC5.out w6 hb6.size hb6
    have hx1 : ((d : Int) == (d : Int) + ((bl : Int) + 2) - (bl : Int) - 2) = true := by simp; omega
    clear hsl1' hsl2
    go_wp2_with fail
    go_ret
    exact ⟨rfl, below_step bw5 hb6⟩
end Go.Proofs.Ytnlgpjloedoebaa
