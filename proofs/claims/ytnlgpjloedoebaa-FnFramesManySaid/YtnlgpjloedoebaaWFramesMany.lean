/- Frames are one behind the other: the walk of the law. -/
import Derived.Test.YtnlgpjloedoebaaWTabs
namespace Go.Proofs.Ytnlgpjloedoebaa
open Go.RowKit
set_option linter.unusedVariables false
set_option linter.unusedSimpArgs false

set_option maxHeartbeats 2000000 in
theorem walk_FnFramesMany (A0 : Option Addr) (n0 c0 : Nat) (l0 : List Int) (hl0 : l0.length = n0) (hnc0 : n0 ≤ c0) (hcm0 : c0 ≤ maxLen) (A1 : Option Addr) (n1 c1 : Nat) (l1 : List Int) (hl1 : l1.length = n1) (hnc1 : n1 ≤ c1) (hcm1 : c1 ≤ maxLen) (w : World)
    (ha0 : At encU 1 w A0 l0) (hw0 : ∀ u ∈ l0, (Lit.int .u8 u).wf = true) (ha1 : At encU 1 w A1 l1) (hw1 : ∀ u ∈ l1, (Lit.int .u8 u).wf = true) :
    Calls Try.prog 10 #[.slice A0 n0 c0, .slice A1 n1 c1] w fun e w' => e = .returned (.bool true) ∧ Below w.heap.size w w' := by
  have H0 := Lib.hid hl0
  clear hl0 hl1
  obtain ⟨i0, hi, hz0, hz1, hz2⟩ := info_parts infoInt
  obtain ⟨j0, ji, jz0, jz1, jz2⟩ := info_parts infoSl
  unfold maxLen at hcm0 hcm1
  by_cases hb0 : 1048576 < n0
  · go_enter Try.func10, Try.ntmps10
    go_wp2
    go_ret
    exact ⟨rfl, Below.refl _ _⟩
  by_cases hb1 : 1048576 < n1
  · go_enter Try.func10, Try.ntmps10
    go_wp2
    go_ret
    exact ⟨rfl, Below.refl _ _⟩
  go_enter Try.func10, Try.ntmps10
  go_wp2_with fail
  refine (drawFramesOf_any A0 n0 c0 l0 _ H0.out hnc0 ha0 (u8_bd hw0) (by omega)).mono ?_
  rintro e w1 ⟨rows, A, c, rfl, hro, hn, hrange, bw1⟩
  obtain ⟨n, hln⟩ : ∃ n, rows.length = n := ⟨_, rfl⟩
  have HL := Lib.hid hln
  rw [hln] at hn hro ⊢
  clear hln
  have tab1 := hro.tab HL.out
  obtain ⟨hnc, hcm⟩ := own_caps hro.outer
  rw [HL.out] at hnc
  have hz17 : ∀ r ∈ rows, r.zs.length ≤ 1048576 := fun r hr => by have := (hrange r hr).1; omega
  obtain ⟨bs, hbs⟩ : ∃ bs, rows.map (·.zs) = bs := ⟨_, rfl⟩
  have HBS := Lib.hid hbs
  have hF : (framesL bs).length ≤ 738 := framesL_len (by rw [← hbs, List.length_map, HL.out]; omega)
  obtain ⟨m, hm⟩ : ∃ m, (framesL bs).length = m := ⟨_, rfl⟩
  have HM := Lib.hid hm
  rw [hm] at hF
  clear hm hbs hro hrange
  by_cases hk : okT bs = true
  case neg =>
    have hk' : okT bs = false := by simpa using hk
    have HK := Lib.hid hk'
    clear hk hk'
    go_wp2_with fail
    refine (implFramesOf_any _ _ _ rows _ HL.out tab1 (by omega) hz17).mono ?_
    rw [HBS.out, HK.out]
    rintro e w2 ⟨A2, c2, rfl, ho2, hb2⟩
    rw [HM.out] at ho2 ⊢
    have tab2 := tab1.belowS hb2
    have at2 := own_at encI_len ho2 HM.out
    have bw2 := below_step bw1 hb2
    go_wp2_with fail
    refine (specFramesOf_any _ _ _ rows _ HL.out tab2 (by omega) hz17).mono ?_
    rw [HBS.out, HK.out]
    rintro e w3 ⟨A3, c3, rfl, ho3, hb3⟩
    rw [HM.out] at ho3 ⊢
    have at23 := at2.belowS hb3
    have at33 := own_at encI_len ho3 HM.out
    have bw3 := below_step bw2 hb3
    go_wp2_with fail
    refine (sameInts_t _ _ _ _ _ _ _ _ rfl (by omega) HM.out at23 at33).mono ?_
    rintro e w4 ⟨rfl, hb4⟩
    have bw4 := below_step bw3 hb4
    go_wp2_with fail
    refine (sameInts_t _ _ _ _ _ _ _ _ rfl (by omega) HM.out (at23.belowS hb4) (at33.belowS hb4)).mono ?_
    rintro e w5 ⟨rfl, hb5⟩
    have bw5 := below_step bw4 hb5
    go_wp2_with fail
    go_ret
    exact ⟨rfl, bw5⟩
  case pos =>
    have hK : n1 % (n + 1) < n + 1 := Nat.mod_lt _ (by omega)
    have em : ((n1 : Int) % ((n : Int) + 1)) = ((n1 % (n + 1) : Nat) : Int) := by rw [Int.natCast_emod]; rfl
    have hn00 : ((n : Int) + 1 == 0) = false := by simp; omega
    obtain ⟨k, hkk⟩ : ∃ k, n1 % (n + 1) = k := ⟨_, rfl⟩
    rw [hkk] at hK em
    have EM := Lib.hid em
    clear em hkk
    have hsl1 : ∀ W, (Instr.slice 39 (.slice A n c) none (some (.int .i64 ((n1 : Int) % ((n : Int) + 1)))) none).run Try.prog W = .ok (.slice A k c) W := fun W => by rw [EM.out]; exact run_slice_upto Try.underlying39 ji jz1 A n c W k (by omega)
    have hsl2 : ∀ W, (Instr.slice 39 (.slice A n c) (some (.int .i64 ((n1 : Int) % ((n : Int) + 1)))) none none).run Try.prog W = .ok (.slice (sub A c k 1) (n - k) (c - k)) W := fun W => by rw [EM.out]; exact run_slice_from Try.underlying39 ji jz1 A n c W k (by omega)
    have HK := Lib.hid hk
    have HT := Lib.hid (okT_take hk k)
    have HD := Lib.hid (okT_drop hk k)
    have HJ := Lib.hid (frames_many hk k)
    have hTl : (rows.take k).length = k := by rw [List.length_take, HL.out]; omega
    have HTL := Lib.hid hTl
    have hDl : (rows.drop k).length = n - k := by rw [List.length_drop, HL.out]
    have HDL := Lib.hid hDl
    have HTB := Lib.hid (show (rows.take k).map (·.zs) = bs.take k by rw [List.map_take, HBS.out])
    have HDB := Lib.hid (show (rows.drop k).map (·.zs) = bs.drop k by rw [List.map_drop, HBS.out])
    obtain ⟨mT, hmT⟩ : ∃ m, (framesL (bs.take k)).length = m := ⟨_, rfl⟩
    obtain ⟨mD, hmD⟩ : ∃ m, (framesL (bs.drop k)).length = m := ⟨_, rfl⟩
    have hsum : mT + mD ≤ 738 ∧ mT + mD = m := by
      have := congrArg List.length HJ.out
      rw [List.length_append, hmT, hmD, HM.out] at this
      omega
    have hsumm : mT + mD ≤ 738 := hsum.1
    have HSUM := Lib.hid hsum.2
    have HMT := Lib.hid hmT
    have HMD := Lib.hid hmD
    clear hk hTl hDl hmT hmD hsum
    go_wp2_with fail
    refine (implFramesOf_any _ _ _ rows _ HL.out tab1 (by omega) hz17).mono ?_
    rw [HBS.out, HK.out]
    rintro e w2 ⟨A2, c2, rfl, ho2, hb2⟩
    rw [HM.out] at ho2 ⊢
    have tab2 := tab1.belowS hb2
    have at2 := own_at encI_len ho2 HM.out
    have bw2 := below_step bw1 hb2
    go_wp2_with fail
    refine (specFramesOf_any _ _ _ rows _ HL.out tab2 (by omega) hz17).mono ?_
    rw [HBS.out, HK.out]
    rintro e w3 ⟨A3, c3, rfl, ho3, hb3⟩
    rw [HM.out] at ho3 ⊢
    have tab3 := tab2.belowS hb3
    have at23 := at2.belowS hb3
    have at33 := own_at encI_len ho3 HM.out
    have bw3 := below_step bw2 hb3
    go_wp2_with fail
    refine (sameInts_t _ _ _ _ _ _ _ _ rfl (by omega) HM.out at23 at33).mono ?_
    rintro e w4 ⟨rfl, hb4⟩
    have bw4 := below_step bw3 hb4
    have tab4 := tab3.belowS hb4
    have at24 := at23.belowS hb4
    go_wp2_with fail
    refine (implFramesOf_any _ k c (rows.take k) _ HTL.out (tab4.take (c := c) (by rw [HL.out]; exact hnc) (by rw [HL.out]; omega)) (by omega) (fun r hr => hz17 r (List.mem_of_mem_take hr))).mono ?_
    rw [HTB.out, HT.out]
    rintro e w5 ⟨A5, c5, rfl, ho5, hb5⟩
    rw [HMT.out] at ho5 ⊢
    have bw5 := below_step bw4 hb5
    have tab5 := tab4.belowS hb5
    have at25 := at24.belowS hb5
    have at5 := own_at encI_len ho5 HMT.out
    go_wp2_with fail
    refine (implFramesOf_any _ (n - k) (c - k) (rows.drop k) _ HDL.out (tab5.drop (c := c) (by rw [HL.out]; exact hnc) (by rw [HL.out]; omega)) (by omega) (fun r hr => hz17 r (List.mem_of_mem_drop hr))).mono ?_
    rw [HDB.out, HD.out]
    rintro e w6 ⟨A6, c6, rfl, ho6, hb6⟩
    rw [HMD.out] at ho6 ⊢
    have bw6 := below_step bw5 hb6
    have at26 := at25.belowS hb6
    have at56 := at5.belowS hb6
    have at6 := own_at encI_len ho6 HMD.out
    have own0 := World.ownsRow_lit (base := w6.heap.size) (e := 3) (size := 1) w6 #[] 0 (Nat.le_refl _) (by decide) rfl
    have hb0' := (Below.refl w6.heap.size w6).alloc (Nat.le_refl _) (.cells #[] 3)
    have at57 := at56.belowS hb0'
    go_wp2_with (first
      | (at_builtin; refine wpList_append_on _ rfl _ _ 32 rfl w6.heap.size 3 i0 (.int .i64 0) 1 8 Try.underlying32 hi hz0 hz1 hz2 rfl (by decide) v7 (0 + mT) _ rfl ho7 encI_len encI_one A6 mD c6 (framesL (bs.drop k)) rfl HMD.out (at6.belowS (below_app hb0' hg7 (own_ge own0))) (by unfold maxLen; omega) (by omega) (below_app hb0' hg7 (own_ge own0)).size ?_; intro v8 w8 ho8 hg8 hv8)
      | (at_builtin; refine wpList_append_on _ rfl _ _ 32 rfl w6.heap.size 3 i0 (.int .i64 0) 1 8 Try.underlying32 hi hz0 hz1 hz2 rfl (by decide) _ 0 [] rfl own0 encI_len encI_one A5 mT c5 (framesL (bs.take k)) rfl HMT.out at57 (by unfold maxLen; omega) (by omega) (by simp) ?_; intro v7 w7 ho7 hg7 hv7))
    have bw7 := below_app hb0' hg7 (own_ge own0)
    have bw8 := below_app bw7 hg8 (own_ge ho7)
    have bwe := below_step bw6 bw8
    obtain ⟨A8, c8, rfl, _⟩ := own_form ho8
    have at8 : At encI 1 w8 A8 (framesL bs) := own_at (k := 1) (base := w6.heap.size) (e := 3) (n := m) (c := c8) encI_len (by rw [← HJ.out, List.flatMap_append]; have := ho8; rw [Nat.zero_add, HSUM.out] at this; exact this) HM.out
    rw [Nat.zero_add, HSUM.out]
    refine (sameInts_t _ _ _ _ _ _ _ _ rfl (by omega) HM.out at8 (at26.belowS bw8)).mono ?_
    rintro e w9 ⟨rfl, hb9⟩
    go_wp2_with fail
    go_ret
    exact ⟨rfl, below_step bwe hb9⟩
end Go.Proofs.Ytnlgpjloedoebaa
