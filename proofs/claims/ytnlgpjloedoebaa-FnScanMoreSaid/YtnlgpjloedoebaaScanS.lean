/- The scan of frames, by the reference's text. -/
import Derived.Test.YtnlgpjloedoebaaScan
namespace Go.Proofs.Ytnlgpjloedoebaa
open Go.RowKit
set_option linter.unusedVariables false
set_option linter.unusedSimpArgs false

/-- The head of what is left, test by test. -/
theorem headL_at {l : List Int} {k : Nat} (hk : k < l.length) : headL (l.drop k) = if inB l[k] 1 16 = true ∧ k + l[k].toNat + 1 < l.length ∧ bytesB ((l.drop (k + 1)).take l[k].toNat) = true ∧ l[k + 1 + l[k].toNat]? = some (sumL ((l.drop (k + 1)).take l[k].toNat)) then some ((l.drop (k + 1)).take l[k].toNat) else none := by
  rw [List.drop_eq_getElem_cons hk, headL_cons]
  have e1 : (l[k].toNat + 1 ≤ (l.drop (k + 1)).length) ↔ (k + l[k].toNat + 1 < l.length) := by rw [List.length_drop]; omega
  simp only [e1, List.getElem?_drop]
theorem headL_end {l : List Int} : headL (l.drop l.length) = none := by rw [List.drop_length]; rfl

set_option maxHeartbeats 1000000 in
theorem specScan_any (A : Option Addr) (n c : Nat) (l : List Int) (w : World) (hl : l.length = n) (hnc : n ≤ c) (hcm : c ≤ 9223372036854775807) (ha : At encI 1 w A l) (hwf : ∀ z ∈ l, -9223372036854775808 ≤ z ∧ z ≤ 9223372036854775807) (hn : n ≤ 1048576) :
    Calls Try.prog 37 #[.slice A n c] w (OutT (scanL l).1 (scanL l).2 w) := by
  obtain ⟨i0, hi, hz0, hz1, hz2⟩ := info_parts infoInt
  obtain ⟨j0, ji, jz0, jz1, jz2⟩ := info_parts infoSl
  have HL := Lib.hid hl
  clear hl
  have hb0 := (Below.refl w.heap.size w).alloc (Nat.le_refl _) (.cells #[] 32)
  have own0 := World.ownsRow_lit (base := w.heap.size) (e := 32) (size := 1) w #[] 0 (Nat.le_refl _) (by decide) rfl
  go_enter Try.func37, Try.ntmps37
  go_wp2_with fail
  go_loopw [4, 5] (fun v i wr => ∃ (k : Nat) (rows : List RowI), i = .int .i64 k ∧ k ≤ n ∧ 3 * rows.length ≤ k ∧ ScanAt l k (rows.map (·.zs)) ∧ Rows1 wr w.heap.size v rows ∧ Below w.heap.size w wr) (fun _ i _ => n - (intOf i).toNat)
  case atStart => exact ⟨0, [], rfl, Nat.zero_le _, Nat.le_refl _, ScanAt.zero l, ⟨own0, fun r hr => by simp at hr, List.Pairwise.nil⟩, hb0⟩
  case round =>
    obtain ⟨k, rows, rfl, hk, hrk, hsc, hro, hbw⟩ := hrel
    have HSC := Lib.hid hsc
    clear hsc hb0 own0
    by_cases hlt : k < n
    case neg =>
      obtain rfl : n = k := by omega
      go_wp2_with fail
      go_ret2
      have := HSC.out.done (by rw [← HL.out]; exact headL_end)
      rw [this]
      exact OutT.of rfl hro hbw
    have hlk : k < l.length := by rw [HL.out]; exact hlt
    have HH := Lib.hid (headL_at hlk)
    have har := ha.belowS hbw
    have hA := har.addr (by omega)
    have HA := Lib.hid hA
    clear hA
    have hidx0 : ∀ W, (Instr.indexAt 32 (.slice A n c) (.int .i64 (k : Int))).run Try.prog W = .ok (.pointer (some ⟨blk A, off A + k, none⟩)) W := fun W => run_index_one (c := c) Try.underlying32 hi hz1 HA.out hlt W
    have c0 : wr.cell? ⟨blk A, off A + k, none⟩ = some (.int .i64 l[k]) := har.cell1 hlk rfl
    have hz64 := hwf l[k] (List.getElem_mem _)
    have c0' : (wr.alloc (.cells #[] 3)).cell? ⟨blk A, off A + k, none⟩ = some (.int .i64 l[k]) := (har.belowS ((Below.refl wr.heap.size wr).alloc (Nat.le_refl _) _)).cell1 hlk rfl
    generalize l[k] = z at HH c0 c0' hz64
    by_cases h1 : inB z 1 16 = true
    case neg =>
      have h1' : inB z 1 16 = false := by simpa using h1
      have hh : headL (l.drop k) = none := by rw [HH.out, if_neg (fun h => h1 h.1)]
      have HN := Lib.hid (HSC.out.done hh)
      clear h1 hh
      go_wp2_with (go_at_call 45; refine (specIn_any _ _ _ _).mono ?_; rintro e w' ⟨rfl, rfl⟩)
      go_ret2
      rw [HN.out]
      exact OutT.of rfl hro hbw
    have hm : 1 ≤ z ∧ z ≤ 16 := by unfold inB at h1; rwa [decide_eq_true_eq] at h1
    obtain ⟨m, rfl⟩ := Int.eq_ofNat_of_zero_le (show 0 ≤ z by omega)
    simp only [Int.toNat_natCast] at HH
    by_cases h2 : k + m + 1 < n
    case neg =>
      have hh : headL (l.drop k) = none := by rw [HH.out, if_neg (fun h => h2 (by have := h.2.1; rwa [HL.out] at this))]
      have HN := Lib.hid (HSC.out.done hh)
      clear hh
      go_wp2_with (go_at_call 45; refine (specIn_any _ _ _ _).mono ?_; rintro e w' ⟨rfl, rfl⟩)
      go_ret2
      rw [HN.out]
      exact OutT.of rfl hro hbw
    have hsl : ∀ W, (Instr.slice 32 (.slice A n c) (some (.int .i64 ((k : Int) + 1))) (some (.int .i64 ((k : Int) + 1 + (m : Int)))) none).run Try.prog W = .ok (.slice (sub A c (k + 1) 1) m (c - (k + 1))) W := fun W => by
      have := run_slice_both Try.underlying32 hi hz1 A n c W (k + 1) (k + 1 + m) (by omega) (by omega)
      rw [Nat.add_sub_cancel_left] at this
      exact this
    have hsub : At encI 1 wr (sub A c (k + 1) 1) ((l.drop (k + 1)).take m) := har.sub (by rw [HL.out]; exact hnc) (by rw [HL.out]; omega)
    obtain ⟨b, hb⟩ : ∃ b, (l.drop (k + 1)).take m = b := ⟨_, rfl⟩
    have hbl : b.length = m := by rw [← hb, List.length_take, List.length_drop, HL.out]; omega
    rw [hb] at hsub
    have HHB := Lib.hid hb
    have HBL := Lib.hid hbl
    clear hb hbl
    have own1 := World.ownsRow_lit (base := wr.heap.size) (e := 3) (size := 1) wr #[] 0 (Nat.le_refl _) (by decide) rfl
    have hb1 := (Below.refl wr.heap.size wr).alloc (Nat.le_refl _) (.cells #[] 3)
    have hsub1 := hsub.belowS hb1
    go_wp2_with (first | (go_at_call 45; refine (specIn_any _ _ _ _).mono ?_; rintro e w' ⟨rfl, rfl⟩) | (at_builtin; refine wpList_append_at _ rfl _ _ 32 rfl wr.heap.size 3 i0 (.int .i64 0) 1 8 Try.underlying32 hi hz0 hz1 hz2 rfl (by decide) _ 0 [] rfl own1 encI_len encI_one _ m _ b rfl HBL.out hsub1 (by unfold maxLen; omega) (by omega) (by simp) ?_; intro v2 w2 ho2 hg2 hv2))
    have hbw2 := below_app hb1 hg2 (own_ge own1)
    have ho2' : w2.ownsRow wr.heap.size 3 1 v2 m (b.flatMap encI) := by simpa using ho2
    clear ho2 hg2 hv2 hb1 hsub1 own1
    have hbww := below_step hbw hbw2
    have hro2 := hro.belowS hbw2
    obtain ⟨A2, c2, rfl, _⟩ := own_form ho2'
    have hat2 := own_at encI_len ho2' HBL.out
    have har2 := har.belowS hbw2
    have hkl : k + 1 + m < l.length := by rw [HL.out]; omega
    have hidx1 : ∀ W, (Instr.indexAt 32 (.slice A n c) (.int .i64 ((k : Int) + 1 + (m : Int)))).run Try.prog W = .ok (.pointer (some ⟨blk A, off A + (k + 1 + m), none⟩)) W := fun W => run_index_one (c := c) (j := k + 1 + m) Try.underlying32 hi hz1 HA.out (by omega) W
    have c2' : w2.cell? ⟨blk A, off A + (k + 1 + m), none⟩ = some (.int .i64 l[k + 1 + m]) := har2.cell1 hkl rfl
    have HG := Lib.hid (List.getElem?_eq_getElem hkl)
    generalize l[k + 1 + m] = y at c2' HG
    clear c0 c0' hidx0 hsl hsub
    by_cases h3 : bytesB b = true
    case neg =>
      have h3' : bodyB b = false := by unfold bodyB; rw [Bool.and_eq_false_iff]; right; simpa using h3
      have hh : headL (l.drop k) = none := by rw [HH.out, if_neg]; rintro ⟨_, _, h, _⟩; rw [HHB.out] at h; exact h3 h
      have HN := Lib.hid (HSC.out.done hh)
      clear h3 hh
      go_quiet ((go_at_call 49; exact Calls.quiet_of_same ((specBody_any _ _ _ b _ (by omega) HBL.out (hat2.drewN _)).mono fun _ _ ⟨h1, h2⟩ => ⟨h1, h2.symm⟩)))
      go_wp2
      go_ret2
      rw [HN.out]
      exact OutT.of rfl ⟨hro2.outer, hro2.inner, hro2.apart⟩ (below_drawn hbww _)
    have h3' : bodyB b = true := by unfold bodyB; rw [h3, Bool.and_true]; unfold inB; rw [decide_eq_true_eq, HBL.out]; omega
    have hby := (bodyB_iff.1 h3').2
    by_cases h4 : y = sumL b
    case neg =>
      have hh : headL (l.drop k) = none := by rw [HH.out, if_neg]; rintro ⟨_, _, _, h⟩; rw [HHB.out, HG.out] at h; injection h with h; exact h4 h
      have HN := Lib.hid (HSC.out.done hh)
      have h4' : (sumL b != y) = true := by simpa using fun h => h4 h.symm
      clear h4 hh
      go_quiet ((first | (go_at_call 49; exact Calls.quiet_of_same ((specBody_any _ _ _ b _ (by omega) HBL.out (hat2.drewN _)).mono fun _ _ ⟨h1, h2⟩ => ⟨h1, h2.symm⟩)) | (go_at_call 50; exact Calls.quiet_of_same ((specL4Sum_any _ _ _ b _ (by omega) HBL.out hby (hat2.drewN _)).mono fun _ _ ⟨h1, h2⟩ => ⟨h1, h2.symm⟩))))
      go_wp2
      go_ret2
      rw [HN.out]
      exact OutT.of rfl ⟨hro2.outer, hro2.inner, hro2.apart⟩ (below_drawn hbww _)
    subst h4
    have hh : headL (l.drop k) = some b := by rw [HH.out, if_pos ⟨h1, by rw [HL.out]; exact h2, by rw [HHB.out]; exact h3, by rw [HHB.out]; exact HG.out⟩, HHB.out]
    have hnx := HSC.out.next hh
    rw [HL.out, HBL.out] at hnx
    have HNX := Lib.hid hnx.1
    have hnl := hnx.2
    clear hnx hh
    go_quiet ((first | (go_at_call 49; exact Calls.quiet_of_same ((specBody_any _ _ _ b _ (by omega) HBL.out (hat2.drewN _)).mono fun _ _ ⟨h1, h2⟩ => ⟨h1, h2.symm⟩)) | (go_at_call 50; exact Calls.quiet_of_same ((specL4Sum_any _ _ _ b _ (by omega) HBL.out hby (hat2.drewN _)).mono fun _ _ ⟨h1, h2⟩ => ⟨h1, h2.symm⟩))))
    obtain ⟨q, hq⟩ : ∃ q : Nat, q = nq := ⟨_, rfl⟩
    subst hq
    have hroA : ((w2.drewN q).alloc (.cells #[.slice A2 m c2] 32)).ownsRow w.heap.size 32 1 u4 rows.length (rows.flatMap encR) := World.ownsRow.alloc (w := w2.drewN q) hro2.outer _
    have hn2 := at_new (enc := encR) (w2.drewN q) encR_len [⟨A2, c2, b⟩] 32 #[.slice A2 m c2] (by simp [encR, HBL.out]) (show 1 ≤ maxLen by decide)
    have hz2' := hbw2.size
    have hz0' := hbw.size
    have hrow3 : ((w2.drewN q).alloc (.cells #[.slice A2 m c2] 32)).ownsRow wr.heap.size 3 1 (.slice A2 m c2) m (b.flatMap encI) := World.ownsRow.alloc (w := w2.drewN q) ho2' _
    go_wp2_with (at_builtin; refine wpList_append_at _ rfl _ _ 39 rfl w.heap.size 32 j0 (.slice none 0 0) 1 24 Try.underlying39 ji jz0 jz1 jz2 rfl (by decide) _ rows.length _ rfl hroA encR_len encR_one _ 1 1 [⟨A2, c2, b⟩] rfl rfl hn2 (by unfold maxLen; omega) (by omega) (by simp; omega) ?_; intro v3 w3 ho3 hg3 hv3)
    go_roundw
    case rel =>
      refine ⟨k + (m + 2), rows ++ [⟨A2, c2, b⟩], by go_num, by omega, by simp; omega, by rw [List.map_append]; exact HNX.out, ?_, ?_⟩
      · refine Rows1.push hro (below_alloc (below_drawn hbw2 q) _) hz0' ?_ ho3 hg3
        show World.ownsRow _ _ _ _ (.slice A2 b.length c2) b.length _
        rw [HBL.out]; exact hrow3
      · exact below_app (below_alloc (below_drawn hbww q) _) hg3 (own_ge hro.outer)
    case measure => simp [intOf]; omega
end Go.Proofs.Ytnlgpjloedoebaa
