/- The laws' helpers on commands. -/
import Derived.Test.YthcfjiapmigjiaaDoorCmd
namespace Go.Proofs.YthcfjiapmigjiaaDoor
open Go.RowKit
set_option linter.unusedVariables false
set_option linter.unusedSimpArgs false
set_option maxRecDepth 20000

/-- What is left of a size. -/
def szL (n : Nat) (left : Int) : Int := if left < n then -1 else left - n
theorem szCommand_any (s : ByteArray) (x y z u left : Int) (w : World) (hs : s.size ≤ maxLen) (h0 : 0 ≤ left) (h1 : left ≤ 1048576) :
    Calls Tryd.prog 35 #[.agg #[.string s, .int .i64 x, .int .i64 y, .int .i64 z, .int .i64 u], .int .i64 left] w fun e w' => e = .returned (.int .i64 (szL s.size left)) ∧ Below w.heap.size w w' := by
  unfold maxLen at hs
  have hw : IntKind.i64.wrap (left - (s.size : Int)) = left - (s.size : Int) := IntWalk.i64_in _ (by omega)
  by_cases hl : left < (s.size : Int)
  · have HS := Lib.hid (show szL s.size left = -1 from if_pos hl)
    have hd : decide (left - (s.size : Int) < 0) = true := decide_eq_true (by omega)
    go_enter Tryd.func35, Tryd.ntmps35
    go_wp2_with fail
    go_ret
    exact ⟨ret_int HS.out.symm, below_alloc (Below.refl _ _) _⟩
  · have HS := Lib.hid (show szL s.size left = left - s.size from if_neg hl)
    have hd : decide (left - (s.size : Int) < 0) = false := decide_eq_false (by omega)
    go_enter Tryd.func35, Tryd.ntmps35
    go_wp2_with fail
    go_ret
    exact ⟨ret_int HS.out.symm, below_alloc (Below.refl _ _) _⟩

set_option maxHeartbeats 1000000 in
theorem toCommand_any (s : ByteArray) (x y z u : Int) (w : World) :
    Calls Tryd.prog 38 #[.agg #[.string s, .int .i64 x, .int .i64 y, .int .i64 z, .int .i64 u]] w fun e w' => e = .returned (.agg #[.string s, .int .i64 x, .int .i64 y, .int .i64 z, .int .i64 u]) ∧ Below w.heap.size w w' := by
  obtain ⟨W0, hW0⟩ : ∃ W0, W0 = ((w.alloc (.cells #[.string s, .int .i64 x, .int .i64 y, .int .i64 z, .int .i64 u] 64)).alloc (.cells #[.string ⟨#[]⟩, .int .i64 0, .int .i64 0, .int .i64 0, .int .i64 0] 52)).alloc (.cells #[.string s, .int .i64 0, .int .i64 0, .int .i64 0, .int .i64 0] 52) := ⟨_, rfl⟩
  have A0 : Blk W0 w.heap.size 64 #[.string s, .int .i64 x, .int .i64 y, .int .i64 z, .int .i64 u] := by rw [hW0]; exact ((Blk.new _ _ _).alloc _).alloc _
  have R0 : Blk W0 (w.heap.size + 1) 52 #[.string ⟨#[]⟩, .int .i64 0, .int .i64 0, .int .i64 0, .int .i64 0] := by
    rw [hW0]
    have := Blk.new (w.alloc (.cells #[.string s, .int .i64 x, .int .i64 y, .int .i64 z, .int .i64 u] 64)) 52 #[.string ⟨#[]⟩, .int .i64 0, .int .i64 0, .int .i64 0, .int .i64 0]
    rw [World.size_alloc] at this
    exact this.alloc _
  have O0 : Blk W0 (w.heap.size + 1 + 1) 52 #[.string s, .int .i64 0, .int .i64 0, .int .i64 0, .int .i64 0] := by
    rw [hW0]
    have := Blk.new ((w.alloc (.cells #[.string s, .int .i64 x, .int .i64 y, .int .i64 z, .int .i64 u] 64)).alloc (.cells #[.string ⟨#[]⟩, .int .i64 0, .int .i64 0, .int .i64 0, .int .i64 0] 52)) 52 #[.string s, .int .i64 0, .int .i64 0, .int .i64 0, .int .i64 0]
    rw [World.size_alloc, World.size_alloc] at this
    exact this
  have bw0 : Below w.heap.size w W0 := by rw [hW0]; exact below_alloc (below_alloc (below_alloc (Below.refl _ _) _) _) _
  go_enter Tryd.func38, Tryd.ntmps38
  go_wp2_with fail
  rw [← hW0]
  clear hW0
  refine (toContent_any x y _).mono ?_
  rintro e w1 ⟨rfl, hb1⟩
  have bw1 := below_step bw0 hb1
  have A1 := A0.belowS hb1
  have R1 := R0.belowS hb1
  have O1 := O0.belowS hb1
  obtain ⟨g1, hg1⟩ : ∃ g1, w.heap.size + 1 = g1 := ⟨_, rfl⟩
  rw [hg1] at R1 O1 ⊢
  obtain ⟨g2, hg2⟩ : ∃ g2, g1 + 1 = g2 := ⟨_, rfl⟩
  rw [hg2] at O1 ⊢
  have hge1 : w.heap.size ≤ g1 := by omega
  have hge2 : w.heap.size ≤ g2 := by omega
  have hn1 : w.heap.size ≠ g1 := by omega
  have hn2 : w.heap.size ≠ g2 := by omega
  have hn3 : g1 ≠ g2 := by omega
  clear hg1 hg2 A0 R0 O0 hb1
  obtain ⟨a0, a1, a2, a3, a4⟩ := blk5 A1
  obtain ⟨o0, o1, o2, o3, o4⟩ := blk5 O1
  obtain ⟨f0, f1, f2, f3, f4⟩ := blk5f O1
  go_wp2_with fail
  obtain ⟨W1, hW1⟩ : ∃ W1, W1 = (w1.setCell ⟨g2, 1, none⟩ (.int .i64 x)).setCell ⟨g2, 2, none⟩ (.int .i64 y) := ⟨_, rfl⟩
  have R2 : Blk W1 g1 52 #[.string ⟨#[]⟩, .int .i64 0, .int .i64 0, .int .i64 0, .int .i64 0] := by rw [hW1]; exact (R1.far hn3 _).far hn3 _
  have O2 : Blk W1 g2 52 #[.string s, .int .i64 x, .int .i64 y, .int .i64 0, .int .i64 0] := by rw [hW1]; exact (O1.set_ 1 _).set_ 2 _
  have bw2 : Below w.heap.size w W1 := by rw [hW1]; exact below_set (below_set bw1 hge2 _) hge2 _
  rw [← hW1]
  clear hW1 a0 a1 a2 a3 a4 o0 o1 o2 o3 o4 f0 f1 f2 f3 f4 A1 R1 O1 bw1
  refine (toContent_any z u _).mono ?_
  rintro e w2 ⟨rfl, hb2⟩
  have bw3 := below_step bw2 hb2
  have R3 := R2.belowS hb2
  have O3 := O2.belowS hb2
  clear R2 O2 hb2 bw2
  obtain ⟨o0, o1, o2, o3, o4⟩ := blk5 O3
  obtain ⟨f0, f1, f2, f3, f4⟩ := blk5f O3
  obtain ⟨r0, r1, r2, r3, r4⟩ := blk5 R3
  obtain ⟨k0, k1, k2, k3, k4⟩ := blk5f R3
  go_wp2_with fail
  obtain ⟨W2, hW2⟩ : ∃ W2, W2 = ((((((w2.setCell ⟨g2, 3, none⟩ (.int .i64 z)).setCell ⟨g2, 4, none⟩ (.int .i64 u)).setCell ⟨g1, 0, none⟩ (.string s)).setCell ⟨g1, 1, none⟩ (.int .i64 x)).setCell ⟨g1, 2, none⟩ (.int .i64 y)).setCell ⟨g1, 3, none⟩ (.int .i64 z)).setCell ⟨g1, 4, none⟩ (.int .i64 u) := ⟨_, rfl⟩
  have R4 : Blk W2 g1 52 #[.string s, .int .i64 x, .int .i64 y, .int .i64 z, .int .i64 u] := by
    rw [hW2]; exact (((((((R3.far hn3 _).far hn3 _).set_ 0 _).set_ 1 _).set_ 2 _).set_ 3 _).set_ 4 _)
  have bw4 : Below w.heap.size w W2 := by
    rw [hW2]
    exact below_set (below_set (below_set (below_set (below_set (below_set (below_set bw3 hge2 _) hge2 _) hge1 _) hge1 _) hge1 _) hge1 _) hge1 _
  rw [← hW2]
  clear hW2 r0 r1 r2 r3 r4 k0 k1 k2 k3 k4 o0 o1 o2 o3 o4 f0 f1 f2 f3 f4
  obtain ⟨r0, r1, r2, r3, r4⟩ := blk5 R4
  refine bodyPost_ret (v := .agg #[.string s, .int .i64 x, .int .i64 y, .int .i64 z, .int .i64 u]) (by simp [results, Tryd.results38, go_sem, r0, r1, r2, r3, r4]) rfl ?_
  exact ⟨rfl, bw4⟩

set_option maxHeartbeats 1000000 in
theorem eqCommand_same (s t : ByteArray) (hst : t.data.toList = s.data.toList) (x y z u : Int) (w : World) :
    Calls Tryd.prog 32 #[.agg #[.string s, .int .i64 x, .int .i64 y, .int .i64 z, .int .i64 u], .agg #[.string t, .int .i64 x, .int .i64 y, .int .i64 z, .int .i64 u]] w fun e w' => e = .returned (.bool true) ∧ Below w.heap.size w w' := by
  have hx : (s.toList == t.toList) = true := by rw [toList_is hst, toList_is rfl]; simp
  clear hst
  obtain ⟨W0, hW0⟩ : ∃ W0, W0 = (w.alloc (.cells #[.string s, .int .i64 x, .int .i64 y, .int .i64 z, .int .i64 u] 52)).alloc (.cells #[.string t, .int .i64 x, .int .i64 y, .int .i64 z, .int .i64 u] 52) := ⟨_, rfl⟩
  have A0 : Blk W0 w.heap.size 52 #[.string s, .int .i64 x, .int .i64 y, .int .i64 z, .int .i64 u] := by rw [hW0]; exact (Blk.new _ _ _).alloc _
  have R0 : Blk W0 (w.heap.size + 1) 52 #[.string t, .int .i64 x, .int .i64 y, .int .i64 z, .int .i64 u] := by
    rw [hW0]
    have := Blk.new (w.alloc (.cells #[.string s, .int .i64 x, .int .i64 y, .int .i64 z, .int .i64 u] 52)) 52 #[.string t, .int .i64 x, .int .i64 y, .int .i64 z, .int .i64 u]
    rwa [World.size_alloc] at this
  have bw0 : Below w.heap.size w W0 := by rw [hW0]; exact below_alloc (below_alloc (Below.refl _ _) _) _
  go_enter Tryd.func32, Tryd.ntmps32
  go_wp2_with fail
  rw [← hW0]
  clear hW0
  refine (eqContent_any x y x y _).mono ?_
  rw [show decide (x = x ∧ y = y) = true from decide_eq_true ⟨rfl, rfl⟩]
  rintro e w1 ⟨rfl, hb1⟩
  have bw1 := below_step bw0 hb1
  have A1 := A0.belowS hb1
  have R1 := R0.belowS hb1
  obtain ⟨a0, a1, a2, a3, a4⟩ := blk5 A1
  obtain ⟨r0, r1, r2, r3, r4⟩ := blk5 R1
  clear A0 R0 hb1
  go_wp2_with fail
  refine (eqContent_any z u z u _).mono ?_
  rw [show decide (z = z ∧ u = u) = true from decide_eq_true ⟨rfl, rfl⟩]
  rintro e w2 ⟨rfl, hb2⟩
  have bw2 := below_step bw1 hb2
  go_wp2_with fail
  go_ret
  exact ⟨rfl, bw2⟩
end Go.Proofs.YthcfjiapmigjiaaDoor
