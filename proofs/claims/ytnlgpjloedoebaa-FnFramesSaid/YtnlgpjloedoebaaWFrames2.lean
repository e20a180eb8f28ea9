/- Several frames are read: the walk of the law. -/
import Derived.Test.YtnlgpjloedoebaaWTabs
namespace Go.Proofs.Ytnlgpjloedoebaa
open Go.RowKit
set_option linter.unusedVariables false
set_option linter.unusedSimpArgs false

set_option maxHeartbeats 2000000 in
theorem walk_FnFrames (A0 : Option Addr) (n0 c0 : Nat) (l0 : List Int) (hl0 : l0.length = n0) (hnc0 : n0 ≤ c0) (hcm0 : c0 ≤ maxLen) (w : World)
    (ha0 : At encU 1 w A0 l0) (hw0 : ∀ u ∈ l0, (Lit.int .u8 u).wf = true) :
    Calls Try.prog 13 #[.slice A0 n0 c0] w fun e w' => e = .returned (.bool true) ∧ Below w.heap.size w w' := by
  have H0 := Lib.hid hl0
  clear hl0
  obtain ⟨i0, hi, hz0, hz1, hz2⟩ := info_parts infoInt
  obtain ⟨j0, ji, jz0, jz1, jz2⟩ := info_parts infoSl
  unfold maxLen at hcm0
  by_cases hb0 : 1048576 < n0
  · go_enter Try.func13, Try.ntmps13
    go_wp2
    go_ret
    exact ⟨rfl, Below.refl _ _⟩
  go_enter Try.func13, Try.ntmps13
  go_wp2_with fail
  refine (drawFramesOf_any A0 n0 c0 l0 _ H0.out hnc0 ha0 (u8_bd hw0) (by omega)).mono ?_
  rintro e w1 ⟨rows, A, c, rfl, hro, hn, hrange, bw1⟩
  obtain ⟨n, hln⟩ : ∃ n, rows.length = n := ⟨_, rfl⟩
  have HL := Lib.hid hln
  rw [hln] at hn hro ⊢
  clear hln
  have tab1 := hro.tab HL.out
  obtain ⟨hnc, hcm⟩ := own_caps hro.outer
  rw [HL.out] at hnc
  have hz17 : ∀ r ∈ rows, r.zs.length ≤ 1048576 := fun r hr => by have := (hrange r hr).1; omega
  obtain ⟨bs, hbs⟩ : ∃ bs, rows.map (·.zs) = bs := ⟨_, rfl⟩
  have HBS := Lib.hid hbs
  have hF : (framesL bs).length ≤ 738 := framesL_len (by rw [← hbs, List.length_map, HL.out]; omega)
  obtain ⟨m, hm⟩ : ∃ m, (framesL bs).length = m := ⟨_, rfl⟩
  have HM := Lib.hid hm
  rw [hm] at hF
  clear hm hbs hro hrange
  by_cases hk : okT bs = true
  case neg =>
    have hk' : okT bs = false := by simpa using hk
    have HK := Lib.hid hk'
    clear hk hk'
    go_wp2_with fail
    refine (implFramesOf_any _ _ _ rows _ HL.out tab1 (by omega) hz17).mono ?_
    rw [HBS.out, HK.out]
    rintro e w2 ⟨A2, c2, rfl, ho2, hb2⟩
    rw [HM.out] at ho2 ⊢
    have tab2 := tab1.belowS hb2
    have at2 := own_at encI_len ho2 HM.out
    have bw2 := below_step bw1 hb2
    go_wp2_with fail
    refine (specFramesOf_any _ _ _ rows _ HL.out tab2 (by omega) hz17).mono ?_
    rw [HBS.out, HK.out]
    rintro e w3 ⟨A3, c3, rfl, ho3, hb3⟩
    rw [HM.out] at ho3 ⊢
    have at23 := at2.belowS hb3
    have at33 := own_at encI_len ho3 HM.out
    have bw3 := below_step bw2 hb3
    go_wp2_with fail
    refine (sameInts_t _ _ _ _ _ _ _ _ rfl (by omega) HM.out at23 at33).mono ?_
    rintro e w4 ⟨rfl, hb4⟩
    have bw4 := below_step bw3 hb4
    go_wp2_with fail
    refine (sameInts_t _ _ _ _ _ _ _ _ rfl (by omega) HM.out (at23.belowS hb4) (at33.belowS hb4)).mono ?_
    rintro e w5 ⟨rfl, hb5⟩
    have bw5 := below_step bw4 hb5
    go_wp2_with fail
    go_ret
    exact ⟨rfl, bw5⟩
  case pos =>
    have HK := Lib.hid hk
    have HR := Lib.hid (frames_read hk)
    clear hk
    go_wp2_with fail
    refine (implFramesOf_any _ _ _ rows _ HL.out tab1 (by omega) hz17).mono ?_
    rw [HBS.out, HK.out]
    rintro e w2 ⟨A2, c2, rfl, ho2, hb2⟩
    rw [HM.out] at ho2 ⊢
    have tab2 := tab1.belowS hb2
    have at2 := own_at encI_len ho2 HM.out
    obtain ⟨hnc2, hcm2⟩ := own_caps ho2
    have bw2 := below_step bw1 hb2
    go_wp2_with fail
    refine (specFramesOf_any _ _ _ rows _ HL.out tab2 (by omega) hz17).mono ?_
    rw [HBS.out, HK.out]
    rintro e w3 ⟨A3, c3, rfl, ho3, hb3⟩
    rw [HM.out] at ho3 ⊢
    have tab3 := tab2.belowS hb3
    have at23 := at2.belowS hb3
    have at33 := own_at encI_len ho3 HM.out
    have bw3 := below_step bw2 hb3
    go_wp2_with fail
    refine (sameInts_t _ _ _ _ _ _ _ _ rfl (by omega) HM.out at23 at33).mono ?_
    rintro e w4 ⟨rfl, hb4⟩
    have bw4 := below_step bw3 hb4
    have tab4 := tab3.belowS hb4
    have at24 := at23.belowS hb4
    go_wp2_with fail
    refine (implScan_any _ m c2 (framesL bs) _ HM.out hnc2 hcm2 at24 framesL_bd (by omega)).mono ?_
    rw [HR.out, HM.out]
    rintro e w5 ⟨r5, A5, c5, rfl, hm5, hr5, hb5⟩
    have hl5 : r5.length = n := by have := congrArg List.length hm5; rw [List.length_map] at this; rw [this, ← HBS.out, List.length_map, HL.out]
    have HL5 := Lib.hid hl5
    have HM5 := Lib.hid hm5
    rw [hl5] at hr5 ⊢
    clear hl5 hm5
    have bw5 := below_step bw4 hb5
    have tab5 := tab4.belowS hb5
    go_wp2_with fail
    refine (sameTable_t _ _ n _ _ r5 rows _ (HM5.out.trans HBS.out.symm) (by omega) HL5.out (hr5.tab HL5.out) tab5 (fun r hr => ?_)).mono ?_
    · have h1 : r.zs ∈ rows.map (·.zs) := by rw [HBS.out, ← HM5.out]; exact List.mem_map.2 ⟨r, hr, rfl⟩
      obtain ⟨r', hr', he⟩ := List.mem_map.1 h1
      rw [← he]; have := hz17 r' hr'; omega
    rintro e w6 ⟨rfl, hb6⟩
    go_wp2_with fail
    go_ret
    exact ⟨rfl, below_step bw5 hb6⟩
end Go.Proofs.Ytnlgpjloedoebaa
