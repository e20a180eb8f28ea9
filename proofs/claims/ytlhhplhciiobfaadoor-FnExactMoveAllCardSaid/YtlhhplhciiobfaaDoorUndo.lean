/- Commands that lead back, by both texts. -/
import Derived.Test.YtlhhplhciiobfaaDoorCmdH
namespace Go.Proofs.YtlhhplhciiobfaaDoor
open Go.RowKit
set_option linter.unusedVariables false
set_option linter.unusedSimpArgs false
set_option maxRecDepth 20000

/-- The command that leads back. -/
def undoR (s : ByteArray) (x y z u : Int) : ByteArray × Int × Int × Int × Int := if okK s.data.toList x y z u = true then (s, z, u, x, y) else (⟨#[]⟩, 0, 0, 0, 0)
def UndoOf (s : ByteArray) (x y z u : Int) (w : World) (e : Ending) (w' : World) : Prop := ∃ (t : ByteArray) (a b c d : Int), e = .returned (.agg #[.string t, .int .i64 a, .int .i64 b, .int .i64 c, .int .i64 d]) ∧ undoR s x y z u = (t, a, b, c, d) ∧ Below w.heap.size w w'

set_option maxHeartbeats 1000000 in
theorem specUndo_any (s : ByteArray) (x y z u : Int) (w : World) (hs : s.size ≤ 1048576) :
    Calls Tryd.prog 91 #[.agg #[.string s, .int .i64 x, .int .i64 y, .int .i64 z, .int .i64 u]] w (UndoOf s x y z u w) := by
  have A0 : Blk ((w.alloc (.cells #[.string s, .int .i64 x, .int .i64 y, .int .i64 z, .int .i64 u] 35)).alloc (.cells #[.string ⟨#[]⟩, .int .i64 0, .int .i64 0, .int .i64 0, .int .i64 0] 35)) w.heap.size 35 #[.string s, .int .i64 x, .int .i64 y, .int .i64 z, .int .i64 u] := (Blk.new _ _ _).alloc _
  have R0 : Blk ((w.alloc (.cells #[.string s, .int .i64 x, .int .i64 y, .int .i64 z, .int .i64 u] 35)).alloc (.cells #[.string ⟨#[]⟩, .int .i64 0, .int .i64 0, .int .i64 0, .int .i64 0] 35)) (w.heap.size + 1) 35 #[.string ⟨#[]⟩, .int .i64 0, .int .i64 0, .int .i64 0, .int .i64 0] := by
    have := Blk.new (w.alloc (.cells #[.string s, .int .i64 x, .int .i64 y, .int .i64 z, .int .i64 u] 35)) 35 #[.string ⟨#[]⟩, .int .i64 0, .int .i64 0, .int .i64 0, .int .i64 0]
    rwa [World.size_alloc] at this
  have bw0 := below_alloc (below_alloc (Below.refl w.heap.size w) (.cells #[.string s, .int .i64 x, .int .i64 y, .int .i64 z, .int .i64 u] 35)) (.cells #[.string ⟨#[]⟩, .int .i64 0, .int .i64 0, .int .i64 0, .int .i64 0] 35)
  have hge : w.heap.size ≤ w.heap.size + 1 := by omega
  have hne : w.heap.size ≠ w.heap.size + 1 := by omega
  cases hk : okK s.data.toList x y z u with
  | false =>
    have HK := Lib.hid hk
    have HU := Lib.hid (show undoR s x y z u = (⟨#[]⟩, 0, 0, 0, 0) from if_neg (by rw [hk]; simp))
    clear hk
    go_enter Tryd.func91, Tryd.ntmps91
    go_wp2_with fail
    refine (specCommandValid_any s x y z u _ hs).mono ?_
    rw [HK.out]
    rintro e w1 ⟨rfl, hb1⟩
    have bw1 := below_step bw0 hb1
    have R1 := R0.belowS hb1
    obtain ⟨g1, hg1⟩ : ∃ g1, w.heap.size + 1 = g1 := ⟨_, rfl⟩
    rw [hg1] at R1 hge hne ⊢
    clear hg1 A0 R0 hb1
    obtain ⟨f0, f1, f2, f3, f4⟩ := blk5f R1
    obtain ⟨c0, c1, c2, c3, c4⟩ := blk5 R1
    go_wp2_with fail
    refine bodyPost_ret (v := .agg #[.string ⟨#[]⟩, .int .i64 0, .int .i64 0, .int .i64 0, .int .i64 0]) (by simp [results, Tryd.results91, go_sem, c0, c1, c2, c3, c4]) rfl ?_
    exact ⟨_, _, _, _, _, rfl, HU.out, below_set (below_set (below_set (below_set (below_set bw1 hge _) hge _) hge _) hge _) hge _⟩
  | true =>
    have HK := Lib.hid hk
    have HU := Lib.hid (show undoR s x y z u = (s, z, u, x, y) from if_pos hk)
    clear hk
    go_enter Tryd.func91, Tryd.ntmps91
    go_wp2_with fail
    refine (specCommandValid_any s x y z u _ hs).mono ?_
    rw [HK.out]
    rintro e w1 ⟨rfl, hb1⟩
    have bw1 := below_step bw0 hb1
    have R1 := R0.belowS hb1
    have A1 := A0.belowS hb1
    obtain ⟨g1, hg1⟩ : ∃ g1, w.heap.size + 1 = g1 := ⟨_, rfl⟩
    rw [hg1] at R1 hge hne ⊢
    clear hg1 A0 R0 hb1
    obtain ⟨f0, f1, f2, f3, f4⟩ := blk5f R1
    obtain ⟨c0, c1, c2, c3, c4⟩ := blk5 R1
    obtain ⟨a0, a1, a2, a3, a4⟩ := blk5 A1
    go_wp2_with fail
    refine bodyPost_ret (v := .agg #[.string s, .int .i64 z, .int .i64 u, .int .i64 x, .int .i64 y]) (by simp [results, Tryd.results91, go_sem, c0, c1, c2, c3, c4]) rfl ?_
    exact ⟨_, _, _, _, _, rfl, HU.out, below_set (below_set (below_set (below_set (below_set bw1 hge _) hge _) hge _) hge _) hge _⟩

set_option maxHeartbeats 1000000 in
theorem implUndo_any (s : ByteArray) (x y z u : Int) (w : World) (hs : s.size ≤ 1048576) (hm : MaxAt w) :
    Calls Tryd.prog 93 #[.agg #[.string s, .int .i64 x, .int .i64 y, .int .i64 z, .int .i64 u]] w (UndoOf s x y z u w) := by
  have HM := Lib.hid ((hm.belowS ((Below.refl w.heap.size w).alloc (Nat.le_refl _) (.cells #[.string s, .int .i64 x, .int .i64 y, .int .i64 z, .int .i64 u] 35))).belowS ((Below.refl _ _).alloc (Nat.le_refl _) (.cells #[.string ⟨#[]⟩, .int .i64 0, .int .i64 0, .int .i64 0, .int .i64 0] 35)))
  clear hm
  have A0 : Blk ((w.alloc (.cells #[.string s, .int .i64 x, .int .i64 y, .int .i64 z, .int .i64 u] 35)).alloc (.cells #[.string ⟨#[]⟩, .int .i64 0, .int .i64 0, .int .i64 0, .int .i64 0] 35)) w.heap.size 35 #[.string s, .int .i64 x, .int .i64 y, .int .i64 z, .int .i64 u] := (Blk.new _ _ _).alloc _
  have R0 : Blk ((w.alloc (.cells #[.string s, .int .i64 x, .int .i64 y, .int .i64 z, .int .i64 u] 35)).alloc (.cells #[.string ⟨#[]⟩, .int .i64 0, .int .i64 0, .int .i64 0, .int .i64 0] 35)) (w.heap.size + 1) 35 #[.string ⟨#[]⟩, .int .i64 0, .int .i64 0, .int .i64 0, .int .i64 0] := by
    have := Blk.new (w.alloc (.cells #[.string s, .int .i64 x, .int .i64 y, .int .i64 z, .int .i64 u] 35)) 35 #[.string ⟨#[]⟩, .int .i64 0, .int .i64 0, .int .i64 0, .int .i64 0]
    rwa [World.size_alloc] at this
  have bw0 := below_alloc (below_alloc (Below.refl w.heap.size w) (.cells #[.string s, .int .i64 x, .int .i64 y, .int .i64 z, .int .i64 u] 35)) (.cells #[.string ⟨#[]⟩, .int .i64 0, .int .i64 0, .int .i64 0, .int .i64 0] 35)
  have hge : w.heap.size ≤ w.heap.size + 1 := by omega
  have hne : w.heap.size ≠ w.heap.size + 1 := by omega
  cases hk : okK s.data.toList x y z u with
  | false =>
    have HK := Lib.hid hk
    have HU := Lib.hid (show undoR s x y z u = (⟨#[]⟩, 0, 0, 0, 0) from if_neg (by rw [hk]; simp))
    clear hk
    go_enter Tryd.func93, Tryd.ntmps93
    go_wp2_with fail
    refine (implCommandValid_any s x y z u _ hs HM.out).mono ?_
    rw [HK.out]
    rintro e w1 ⟨rfl, hb1⟩
    have bw1 := below_step bw0 hb1
    have R1 := R0.belowS hb1
    obtain ⟨g1, hg1⟩ : ∃ g1, w.heap.size + 1 = g1 := ⟨_, rfl⟩
    rw [hg1] at R1 hge hne ⊢
    clear hg1 A0 R0 hb1
    obtain ⟨f0, f1, f2, f3, f4⟩ := blk5f R1
    obtain ⟨c0, c1, c2, c3, c4⟩ := blk5 R1
    go_wp2_with fail
    refine bodyPost_ret (v := .agg #[.string ⟨#[]⟩, .int .i64 0, .int .i64 0, .int .i64 0, .int .i64 0]) (by simp [results, Tryd.results93, go_sem, c0, c1, c2, c3, c4]) rfl ?_
    exact ⟨_, _, _, _, _, rfl, HU.out, below_set (below_set (below_set (below_set (below_set bw1 hge _) hge _) hge _) hge _) hge _⟩
  | true =>
    have HK := Lib.hid hk
    have HU := Lib.hid (show undoR s x y z u = (s, z, u, x, y) from if_pos hk)
    clear hk
    go_enter Tryd.func93, Tryd.ntmps93
    go_wp2_with fail
    refine (implCommandValid_any s x y z u _ hs HM.out).mono ?_
    rw [HK.out]
    rintro e w1 ⟨rfl, hb1⟩
    have bw1 := below_step bw0 hb1
    have R1 := R0.belowS hb1
    have A1 := A0.belowS hb1
    obtain ⟨g1, hg1⟩ : ∃ g1, w.heap.size + 1 = g1 := ⟨_, rfl⟩
    rw [hg1] at R1 hge hne ⊢
    clear hg1 A0 R0 hb1
    obtain ⟨f0, f1, f2, f3, f4⟩ := blk5f R1
    obtain ⟨c0, c1, c2, c3, c4⟩ := blk5 R1
    obtain ⟨a0, a1, a2, a3, a4⟩ := blk5 A1
    go_wp2_with fail
    refine bodyPost_ret (v := .agg #[.string s, .int .i64 z, .int .i64 u, .int .i64 x, .int .i64 y]) (by simp [results, Tryd.results93, go_sem, c0, c1, c2, c3, c4]) rfl ?_
    exact ⟨_, _, _, _, _, rfl, HU.out, below_set (below_set (below_set (below_set (below_set bw1 hge _) hge _) hge _) hge _) hge _⟩

end Go.Proofs.YtlhhplhciiobfaaDoor
