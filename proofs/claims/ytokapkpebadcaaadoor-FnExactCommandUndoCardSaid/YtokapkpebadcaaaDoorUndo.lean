/- Commands that lead back, by both texts; the walks of the laws on CommandValid and CommandUndo. -/
import Derived.Test.YtokapkpebadcaaaDoorCmdH
namespace Go.Proofs.YtokapkpebadcaaaDoor
open Go.RowKit
set_option linter.unusedVariables false
set_option linter.unusedSimpArgs false
set_option maxRecDepth 20000

/-- The command that leads back. -/
def undoR (s : ByteArray) (x y z u : Int) : ByteArray × Int × Int × Int × Int := if okK s.data.toList x y z u = true then (s, z, u, x, y) else (⟨#[]⟩, 0, 0, 0, 0)
def UndoOf (s : ByteArray) (x y z u : Int) (w : World) (e : Ending) (w' : World) : Prop := ∃ (t : ByteArray) (a b c d : Int), e = .returned (.agg #[.string t, .int .i64 a, .int .i64 b, .int .i64 c, .int .i64 d]) ∧ undoR s x y z u = (t, a, b, c, d) ∧ Below w.heap.size w w'

set_option maxHeartbeats 1000000 in
theorem specUndo_any (s : ByteArray) (x y z u : Int) (w : World) (hs : s.size ≤ 1048576) :
    Calls Tryd.prog 32 #[.agg #[.string s, .int .i64 x, .int .i64 y, .int .i64 z, .int .i64 u]] w (UndoOf s x y z u w) := by
  have A0 : Blk ((w.alloc (.cells #[.string s, .int .i64 x, .int .i64 y, .int .i64 z, .int .i64 u] 41)).alloc (.cells #[.string ⟨#[]⟩, .int .i64 0, .int .i64 0, .int .i64 0, .int .i64 0] 41)) w.heap.size 41 #[.string s, .int .i64 x, .int .i64 y, .int .i64 z, .int .i64 u] := (Blk.new _ _ _).alloc _
  have R0 : Blk ((w.alloc (.cells #[.string s, .int .i64 x, .int .i64 y, .int .i64 z, .int .i64 u] 41)).alloc (.cells #[.string ⟨#[]⟩, .int .i64 0, .int .i64 0, .int .i64 0, .int .i64 0] 41)) (w.heap.size + 1) 41 #[.string ⟨#[]⟩, .int .i64 0, .int .i64 0, .int .i64 0, .int .i64 0] := by
    have := Blk.new (w.alloc (.cells #[.string s, .int .i64 x, .int .i64 y, .int .i64 z, .int .i64 u] 41)) 41 #[.string ⟨#[]⟩, .int .i64 0, .int .i64 0, .int .i64 0, .int .i64 0]
    rwa [World.size_alloc] at this
  have bw0 := below_alloc (below_alloc (Below.refl w.heap.size w) (.cells #[.string s, .int .i64 x, .int .i64 y, .int .i64 z, .int .i64 u] 41)) (.cells #[.string ⟨#[]⟩, .int .i64 0, .int .i64 0, .int .i64 0, .int .i64 0] 41)
  have hge : w.heap.size ≤ w.heap.size + 1 := by omega
  have hne : w.heap.size ≠ w.heap.size + 1 := by omega
  cases hk : okK s.data.toList x y z u with
  | false =>
    have HK := Lib.hid hk
    have HU := Lib.hid (show undoR s x y z u = (⟨#[]⟩, 0, 0, 0, 0) from if_neg (by rw [hk]; simp))
    clear hk
    go_enter Tryd.func32, Tryd.ntmps32
    go_wp2_with fail
    refine (specCommandValid_any s x y z u _ hs).mono ?_
    rw [HK.out]
    rintro e w1 ⟨rfl, hb1⟩
    have bw1 := below_step bw0 hb1
    have R1 := R0.belowS hb1
    obtain ⟨g1, hg1⟩ : ∃ g1, w.heap.size + 1 = g1 := ⟨_, rfl⟩
    rw [hg1] at R1 hge hne ⊢
    clear hg1 A0 R0 hb1
    obtain ⟨f0, f1, f2, f3, f4⟩ := blk5f R1
    obtain ⟨c0, c1, c2, c3, c4⟩ := blk5 R1
    go_wp2_with fail
    refine bodyPost_ret (v := .agg #[.string ⟨#[]⟩, .int .i64 0, .int .i64 0, .int .i64 0, .int .i64 0]) (by simp [results, Tryd.results32, go_sem, c0, c1, c2, c3, c4]) rfl ?_
    exact ⟨_, _, _, _, _, rfl, HU.out, below_set (below_set (below_set (below_set (below_set bw1 hge _) hge _) hge _) hge _) hge _⟩
  | true =>
    have HK := Lib.hid hk
    have HU := Lib.hid (show undoR s x y z u = (s, z, u, x, y) from if_pos hk)
    clear hk
    go_enter Tryd.func32, Tryd.ntmps32
    go_wp2_with fail
    refine (specCommandValid_any s x y z u _ hs).mono ?_
    rw [HK.out]
    rintro e w1 ⟨rfl, hb1⟩
    have bw1 := below_step bw0 hb1
    have R1 := R0.belowS hb1
    have A1 := A0.belowS hb1
    obtain ⟨g1, hg1⟩ : ∃ g1, w.heap.size + 1 = g1 := ⟨_, rfl⟩
    rw [hg1] at R1 hge hne ⊢
    clear hg1 A0 R0 hb1
    obtain ⟨f0, f1, f2, f3, f4⟩ := blk5f R1
    obtain ⟨c0, c1, c2, c3, c4⟩ := blk5 R1
    obtain ⟨a0, a1, a2, a3, a4⟩ := blk5 A1
    go_wp2_with fail
    refine bodyPost_ret (v := .agg #[.string s, .int .i64 z, .int .i64 u, .int .i64 x, .int .i64 y]) (by simp [results, Tryd.results32, go_sem, c0, c1, c2, c3, c4]) rfl ?_
    exact ⟨_, _, _, _, _, rfl, HU.out, below_set (below_set (below_set (below_set (below_set bw1 hge _) hge _) hge _) hge _) hge _⟩

set_option maxHeartbeats 1000000 in
theorem implUndo_any (s : ByteArray) (x y z u : Int) (w : World) (hs : s.size ≤ 1048576) (hm : MaxAt w) :
    Calls Tryd.prog 33 #[.agg #[.string s, .int .i64 x, .int .i64 y, .int .i64 z, .int .i64 u]] w (UndoOf s x y z u w) := by
  have HM := Lib.hid ((hm.belowS ((Below.refl w.heap.size w).alloc (Nat.le_refl _) (.cells #[.string s, .int .i64 x, .int .i64 y, .int .i64 z, .int .i64 u] 41))).belowS ((Below.refl _ _).alloc (Nat.le_refl _) (.cells #[.string ⟨#[]⟩, .int .i64 0, .int .i64 0, .int .i64 0, .int .i64 0] 41)))
  clear hm
  have A0 : Blk ((w.alloc (.cells #[.string s, .int .i64 x, .int .i64 y, .int .i64 z, .int .i64 u] 41)).alloc (.cells #[.string ⟨#[]⟩, .int .i64 0, .int .i64 0, .int .i64 0, .int .i64 0] 41)) w.heap.size 41 #[.string s, .int .i64 x, .int .i64 y, .int .i64 z, .int .i64 u] := (Blk.new _ _ _).alloc _
  have R0 : Blk ((w.alloc (.cells #[.string s, .int .i64 x, .int .i64 y, .int .i64 z, .int .i64 u] 41)).alloc (.cells #[.string ⟨#[]⟩, .int .i64 0, .int .i64 0, .int .i64 0, .int .i64 0] 41)) (w.heap.size + 1) 41 #[.string ⟨#[]⟩, .int .i64 0, .int .i64 0, .int .i64 0, .int .i64 0] := by
    have := Blk.new (w.alloc (.cells #[.string s, .int .i64 x, .int .i64 y, .int .i64 z, .int .i64 u] 41)) 41 #[.string ⟨#[]⟩, .int .i64 0, .int .i64 0, .int .i64 0, .int .i64 0]
    rwa [World.size_alloc] at this
  have bw0 := below_alloc (below_alloc (Below.refl w.heap.size w) (.cells #[.string s, .int .i64 x, .int .i64 y, .int .i64 z, .int .i64 u] 41)) (.cells #[.string ⟨#[]⟩, .int .i64 0, .int .i64 0, .int .i64 0, .int .i64 0] 41)
  have hge : w.heap.size ≤ w.heap.size + 1 := by omega
  have hne : w.heap.size ≠ w.heap.size + 1 := by omega
  cases hk : okK s.data.toList x y z u with
  | false =>
    have HK := Lib.hid hk
    have HU := Lib.hid (show undoR s x y z u = (⟨#[]⟩, 0, 0, 0, 0) from if_neg (by rw [hk]; simp))
    clear hk
    go_enter Tryd.func33, Tryd.ntmps33
    go_wp2_with fail
    refine (implCommandValid_any s x y z u _ hs HM.out).mono ?_
    rw [HK.out]
    rintro e w1 ⟨rfl, hb1⟩
    have bw1 := below_step bw0 hb1
    have R1 := R0.belowS hb1
    obtain ⟨g1, hg1⟩ : ∃ g1, w.heap.size + 1 = g1 := ⟨_, rfl⟩
    rw [hg1] at R1 hge hne ⊢
    clear hg1 A0 R0 hb1
    obtain ⟨f0, f1, f2, f3, f4⟩ := blk5f R1
    obtain ⟨c0, c1, c2, c3, c4⟩ := blk5 R1
    go_wp2_with fail
    refine bodyPost_ret (v := .agg #[.string ⟨#[]⟩, .int .i64 0, .int .i64 0, .int .i64 0, .int .i64 0]) (by simp [results, Tryd.results33, go_sem, c0, c1, c2, c3, c4]) rfl ?_
    exact ⟨_, _, _, _, _, rfl, HU.out, below_set (below_set (below_set (below_set (below_set bw1 hge _) hge _) hge _) hge _) hge _⟩
  | true =>
    have HK := Lib.hid hk
    have HU := Lib.hid (show undoR s x y z u = (s, z, u, x, y) from if_pos hk)
    clear hk
    go_enter Tryd.func33, Tryd.ntmps33
    go_wp2_with fail
    refine (implCommandValid_any s x y z u _ hs HM.out).mono ?_
    rw [HK.out]
    rintro e w1 ⟨rfl, hb1⟩
    have bw1 := below_step bw0 hb1
    have R1 := R0.belowS hb1
    have A1 := A0.belowS hb1
    obtain ⟨g1, hg1⟩ : ∃ g1, w.heap.size + 1 = g1 := ⟨_, rfl⟩
    rw [hg1] at R1 hge hne ⊢
    clear hg1 A0 R0 hb1
    obtain ⟨f0, f1, f2, f3, f4⟩ := blk5f R1
    obtain ⟨c0, c1, c2, c3, c4⟩ := blk5 R1
    obtain ⟨a0, a1, a2, a3, a4⟩ := blk5 A1
    go_wp2_with fail
    refine bodyPost_ret (v := .agg #[.string s, .int .i64 z, .int .i64 u, .int .i64 x, .int .i64 y]) (by simp [results, Tryd.results33, go_sem, c0, c1, c2, c3, c4]) rfl ?_
    exact ⟨_, _, _, _, _, rfl, HU.out, below_set (below_set (below_set (below_set (below_set bw1 hge _) hge _) hge _) hge _) hge _⟩

set_option maxHeartbeats 1000000 in
theorem walk_FnExactCommandValid (s : ByteArray) (x y z u : Int) (ws : s.size ≤ maxLen) (wx : (Lit.int .i64 x).wf = true) (wy : (Lit.int .i64 y).wf = true) (wz : (Lit.int .i64 z).wf = true) (wu : (Lit.int .i64 u).wf = true) (w : World) (hm : MaxAt w) :
    Calls Tryd.prog 10 #[.agg #[.string s, .int .i64 x, .int .i64 y, .int .i64 z, .int .i64 u]] w fun e w' => e = .returned (.bool true) ∧ Below w.heap.size w w' := by
  have A0 := Blk.new w 36 #[.string s, .int .i64 x, .int .i64 y, .int .i64 z, .int .i64 u]
  have bw0 := below_alloc (Below.refl w.heap.size w) (.cells #[.string s, .int .i64 x, .int .i64 y, .int .i64 z, .int .i64 u] 36)
  by_cases hbig : 1048576 < s.size
  · have HS := Lib.hid (show szL s.size 1048576 = -1 from if_pos (by omega))
    go_enter Tryd.func10, Tryd.ntmps10
    go_wp2_with fail
    refine (szCommand_any s x y z u 1048576 _ ws (by omega) (by omega)).mono ?_
    rw [HS.out]
    rintro e w1 ⟨rfl, hb1⟩
    have bw1 := below_step bw0 hb1
    go_wp2_with fail
    go_ret
    exact ⟨rfl, bw1⟩
  have HS := Lib.hid (show szL s.size 1048576 = 1048576 - s.size from if_neg (by omega))
  have HM := Lib.hid (hm.belowS ((Below.refl w.heap.size w).alloc (Nat.le_refl _) (.cells #[.string s, .int .i64 x, .int .i64 y, .int .i64 z, .int .i64 u] 36)))
  clear hm
  have hs : s.size ≤ 1048576 := by omega
  go_enter Tryd.func10, Tryd.ntmps10
  go_wp2_with fail
  refine (szCommand_any s x y z u 1048576 _ ws (by omega) (by omega)).mono ?_
  rw [HS.out]
  rintro e w1 ⟨rfl, hb1⟩
  have bw1 := below_step bw0 hb1
  have A1 := A0.belowS hb1
  have HM1 := Lib.hid (HM.out.belowS hb1)
  obtain ⟨c0, c1, c2, c3, c4⟩ := blk5 A1
  have hd : decide ((1048576 : Int) - (s.size : Int) < 0) = false := decide_eq_false (by omega)
  clear A0 hb1 HM
  go_wp2_with fail
  refine (toCommand_any s x y z u _).mono ?_
  rintro e w2 ⟨rfl, hb2⟩
  have bw2 := below_step bw1 hb2
  have A2 := A1.belowS hb2
  have HM2 := Lib.hid (HM1.out.belowS hb2)
  clear c0 c1 c2 c3 c4 A1 hb2 HM1 hd
  obtain ⟨k, hk⟩ : ∃ k, okK s.data.toList x y z u = k := ⟨_, rfl⟩
  have HK := Lib.hid hk
  clear hk
  go_wp2_with fail
  refine (specCommandValid_any s x y z u _ hs).mono ?_
  rw [HK.out]
  rintro e w3 ⟨rfl, hb3⟩
  have bw3 := below_step bw2 hb3
  have A3 := A2.belowS hb3
  have HM3 := Lib.hid (HM2.out.belowS hb3)
  obtain ⟨c0, c1, c2, c3, c4⟩ := blk5 A3
  clear A2 hb3 HM2
  go_wp2_with fail
  refine (toCommand_any s x y z u _).mono ?_
  rintro e w4 ⟨rfl, hb4⟩
  have bw4 := below_step bw3 hb4
  have HM4 := Lib.hid (HM3.out.belowS hb4)
  go_wp2_with fail
  refine (implCommandValid_any s x y z u _ hs HM4.out).mono ?_
  rw [HK.out]
  rintro e w5 ⟨rfl, hb5⟩
  have bw5 := below_step bw4 hb5
  have hkk : (k != k) = false := by simp
  go_wp2_with fail
  go_ret
  exact ⟨rfl, bw5⟩

set_option maxHeartbeats 1000000 in
theorem walk_FnExactCommandUndo (s : ByteArray) (x y z u : Int) (ws : s.size ≤ maxLen) (wx : (Lit.int .i64 x).wf = true) (wy : (Lit.int .i64 y).wf = true) (wz : (Lit.int .i64 z).wf = true) (wu : (Lit.int .i64 u).wf = true) (w : World) (hm : MaxAt w) :
    Calls Tryd.prog 11 #[.agg #[.string s, .int .i64 x, .int .i64 y, .int .i64 z, .int .i64 u]] w fun e w' => e = .returned (.bool true) ∧ Below w.heap.size w w' := by
  have A0 := Blk.new w 36 #[.string s, .int .i64 x, .int .i64 y, .int .i64 z, .int .i64 u]
  have bw0 := below_alloc (Below.refl w.heap.size w) (.cells #[.string s, .int .i64 x, .int .i64 y, .int .i64 z, .int .i64 u] 36)
  by_cases hbig : 1048576 < s.size
  · have HS := Lib.hid (show szL s.size 1048576 = -1 from if_pos (by omega))
    go_enter Tryd.func11, Tryd.ntmps11
    go_wp2_with fail
    refine (szCommand_any s x y z u 1048576 _ ws (by omega) (by omega)).mono ?_
    rw [HS.out]
    rintro e w1 ⟨rfl, hb1⟩
    have bw1 := below_step bw0 hb1
    go_wp2_with fail
    go_ret
    exact ⟨rfl, bw1⟩
  have HS := Lib.hid (show szL s.size 1048576 = 1048576 - s.size from if_neg (by omega))
  have HM := Lib.hid (hm.belowS ((Below.refl w.heap.size w).alloc (Nat.le_refl _) (.cells #[.string s, .int .i64 x, .int .i64 y, .int .i64 z, .int .i64 u] 36)))
  clear hm
  have hs : s.size ≤ 1048576 := by omega
  go_enter Tryd.func11, Tryd.ntmps11
  go_wp2_with fail
  refine (szCommand_any s x y z u 1048576 _ ws (by omega) (by omega)).mono ?_
  rw [HS.out]
  rintro e w1 ⟨rfl, hb1⟩
  have bw1 := below_step bw0 hb1
  have A1 := A0.belowS hb1
  have HM1 := Lib.hid (HM.out.belowS hb1)
  obtain ⟨c0, c1, c2, c3, c4⟩ := blk5 A1
  have hd : decide ((1048576 : Int) - (s.size : Int) < 0) = false := decide_eq_false (by omega)
  clear A0 hb1 HM
  go_wp2_with fail
  refine (toCommand_any s x y z u _).mono ?_
  rintro e w2 ⟨rfl, hb2⟩
  have bw2 := below_step bw1 hb2
  have A2 := A1.belowS hb2
  have HM2 := Lib.hid (HM1.out.belowS hb2)
  clear c0 c1 c2 c3 c4 A1 hb2 HM1 hd
  go_wp2_with fail
  refine (specUndo_any s x y z u _ hs).mono ?_
  rintro e w3 ⟨t, a, b, c, d, rfl, h3, hb3⟩
  have H3 := Lib.hid h3
  have bw3 := below_step bw2 hb3
  have A3 := (A2.belowS hb3).alloc (.cells #[.string t, .int .i64 a, .int .i64 b, .int .i64 c, .int .i64 d] 41)
  have T3 := Blk.new w3 41 #[.string t, .int .i64 a, .int .i64 b, .int .i64 c, .int .i64 d]
  have bw3' := below_alloc bw3 (.cells #[.string t, .int .i64 a, .int .i64 b, .int .i64 c, .int .i64 d] 41)
  have HM3 := Lib.hid ((HM2.out.belowS hb3).belowS ((Below.refl w3.heap.size w3).alloc (Nat.le_refl _) (.cells #[.string t, .int .i64 a, .int .i64 b, .int .i64 c, .int .i64 d] 41)))
  obtain ⟨c0, c1, c2, c3, c4⟩ := blk5 A3
  clear A2 hb3 HM2 h3
  go_wp2_with fail
  refine (toCommand_any s x y z u _).mono ?_
  rintro e w4 ⟨rfl, hb4⟩
  have bw4 := below_step bw3' hb4
  have T4 := T3.belowS hb4
  have HM4 := Lib.hid (HM3.out.belowS hb4)
  clear A3 T3 HM3 c0 c1 c2 c3 c4
  go_wp2_with fail
  refine (implUndo_any s x y z u _ hs HM4.out).mono ?_
  rintro e w5 ⟨t', a', b', c', d', rfl, h5, hb5⟩
  have h6 := H3.out.symm.trans h5
  simp only [Prod.mk.injEq] at h6
  obtain ⟨rfl, rfl, rfl, rfl, rfl⟩ := h6
  have bw5 := below_step bw4 hb5
  have T5 := T4.belowS hb5
  have hz5 := T5.lt
  have hne : w3.heap.size ≠ w5.heap.size := by omega
  obtain ⟨r0, r1, r2, r3, r4⟩ := blk5 T5
  clear T4 hb5 h5 hb4
  go_wp2_with fail
  refine (eqCommand_same t t rfl a b c d _).mono ?_
  rintro e w6 ⟨rfl, hb6⟩
  have bw6 := below_step (below_alloc bw5 _) hb6
  go_wp2_with fail
  go_ret
  exact ⟨rfl, bw6⟩
end Go.Proofs.YtokapkpebadcaaaDoor
