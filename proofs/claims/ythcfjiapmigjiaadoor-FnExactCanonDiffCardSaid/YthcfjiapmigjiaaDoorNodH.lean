/- The laws' helpers on nodes. -/
import Derived.Test.YthcfjiapmigjiaaDoorOpenK
import Derived.Test.YthcfjiapmigjiaaDoorContent
import Derived.Test.YthcfjiapmigjiaaDoorFacts
import Derived.Test.YthcfjiapmigjiaaDoorPath4
namespace Go.Proofs.YthcfjiapmigjiaaDoor
open Go.RowKit
set_option linter.unusedVariables false
set_option linter.unusedSimpArgs false
set_option maxRecDepth 20000

theorem blk3 {w : World} {g : Nat} {t : TypeId} {a b c : Value} (h : Blk w g t #[a, b, c]) : w.cell? ⟨g, 0, none⟩ = some a ∧ w.cell? ⟨g, 1, none⟩ = some b ∧ w.cell? ⟨g, 2, none⟩ = some c :=
  ⟨h.cell 0, h.cell 1, h.cell 2⟩
theorem blk3f {w : World} {g : Nat} {t : TypeId} {a b c : Value} (h : Blk w g t #[a, b, c]) : w.frozen? ⟨g, 0, none⟩ = false ∧ w.frozen? ⟨g, 1, none⟩ = false ∧ w.frozen? ⟨g, 2, none⟩ = false :=
  ⟨h.frozen 0, h.frozen 1, h.frozen 2⟩

/-- What is left of a size. -/
def szN (n : Nat) (left : Int) : Int := if left < n then -1 else left - n
theorem szNode_any (s : ByteArray) (x y left : Int) (w : World) (hs : s.size ≤ maxLen) (h0 : 0 ≤ left) (h1 : left ≤ 1048576) :
    Calls Tryd.prog 21 #[.agg #[.string s, .int .i64 x, .int .i64 y], .int .i64 left] w fun e w' => e = .returned (.int .i64 (szN s.size left)) ∧ Below w.heap.size w w' := by
  unfold maxLen at hs
  have hw : IntKind.i64.wrap (left - (s.size : Int)) = left - (s.size : Int) := IntWalk.i64_in _ (by omega)
  by_cases hl : left < (s.size : Int)
  · have HS := Lib.hid (show szN s.size left = -1 from if_pos hl)
    have hd : decide (left - (s.size : Int) < 0) = true := decide_eq_true (by omega)
    go_enter Tryd.func21, Tryd.ntmps21
    go_wp2_with fail
    go_ret
    exact ⟨ret_int HS.out.symm, below_alloc (Below.refl _ _) _⟩
  · have HS := Lib.hid (show szN s.size left = left - s.size from if_neg hl)
    have hd : decide (left - (s.size : Int) < 0) = false := decide_eq_false (by omega)
    go_enter Tryd.func21, Tryd.ntmps21
    go_wp2_with fail
    go_ret
    exact ⟨ret_int HS.out.symm, below_alloc (Below.refl _ _) _⟩

set_option maxHeartbeats 1000000 in
theorem toNode_any (s : ByteArray) (x y : Int) (w : World) :
    Calls Tryd.prog 26 #[.agg #[.string s, .int .i64 x, .int .i64 y]] w fun e w' => e = .returned (.agg #[.string s, .int .i64 x, .int .i64 y]) ∧ Below w.heap.size w w' := by
  obtain ⟨W0, hW0⟩ : ∃ W0, W0 = ((w.alloc (.cells #[.string s, .int .i64 x, .int .i64 y] 45)).alloc (.cells #[.string ⟨#[]⟩, .int .i64 0, .int .i64 0] 55)).alloc (.cells #[.string s, .int .i64 0, .int .i64 0] 55) := ⟨_, rfl⟩
  have A0 : Blk W0 w.heap.size 45 #[.string s, .int .i64 x, .int .i64 y] := by rw [hW0]; exact ((Blk.new _ _ _).alloc _).alloc _
  have R0 : Blk W0 (w.heap.size + 1) 55 #[.string ⟨#[]⟩, .int .i64 0, .int .i64 0] := by
    rw [hW0]
    have := Blk.new (w.alloc (.cells #[.string s, .int .i64 x, .int .i64 y] 45)) 55 #[.string ⟨#[]⟩, .int .i64 0, .int .i64 0]
    rw [World.size_alloc] at this
    exact this.alloc _
  have O0 : Blk W0 (w.heap.size + 1 + 1) 55 #[.string s, .int .i64 0, .int .i64 0] := by
    rw [hW0]
    have := Blk.new ((w.alloc (.cells #[.string s, .int .i64 x, .int .i64 y] 45)).alloc (.cells #[.string ⟨#[]⟩, .int .i64 0, .int .i64 0] 55)) 55 #[.string s, .int .i64 0, .int .i64 0]
    rw [World.size_alloc, World.size_alloc] at this
    exact this
  have bw0 : Below w.heap.size w W0 := by rw [hW0]; exact below_alloc (below_alloc (below_alloc (Below.refl _ _) _) _) _
  go_enter Tryd.func26, Tryd.ntmps26
  go_wp2_with fail
  rw [← hW0]
  clear hW0
  refine (toContent_any x y _).mono ?_
  rintro e w1 ⟨rfl, hb1⟩
  have bw1 := below_step bw0 hb1
  have R1 := R0.belowS hb1
  have O1 := O0.belowS hb1
  obtain ⟨g1, hg1⟩ : ∃ g1, w.heap.size + 1 = g1 := ⟨_, rfl⟩
  rw [hg1] at R1 O1 ⊢
  obtain ⟨g2, hg2⟩ : ∃ g2, g1 + 1 = g2 := ⟨_, rfl⟩
  rw [hg2] at O1 ⊢
  have hge1 : w.heap.size ≤ g1 := by omega
  have hge2 : w.heap.size ≤ g2 := by omega
  have hn3 : g1 ≠ g2 := by omega
  clear hg1 hg2 A0 R0 O0 hb1
  obtain ⟨o0, o1, o2⟩ := blk3 O1
  obtain ⟨f0, f1, f2⟩ := blk3f O1
  obtain ⟨r0, r1, r2⟩ := blk3 R1
  obtain ⟨k0, k1, k2⟩ := blk3f R1
  go_wp2_with fail
  obtain ⟨W2, hW2⟩ : ∃ W2, W2 = ((((w1.setCell ⟨g2, 1, none⟩ (.int .i64 x)).setCell ⟨g2, 2, none⟩ (.int .i64 y)).setCell ⟨g1, 0, none⟩ (.string s)).setCell ⟨g1, 1, none⟩ (.int .i64 x)).setCell ⟨g1, 2, none⟩ (.int .i64 y) := ⟨_, rfl⟩
  have R4 : Blk W2 g1 55 #[.string s, .int .i64 x, .int .i64 y] := by
    rw [hW2]; exact (((((R1.far hn3 _).far hn3 _).set_ 0 _).set_ 1 _).set_ 2 _)
  have bw4 : Below w.heap.size w W2 := by
    rw [hW2]
    exact below_set (below_set (below_set (below_set (below_set bw1 hge2 _) hge2 _) hge1 _) hge1 _) hge1 _
  rw [← hW2]
  clear hW2 r0 r1 r2 k0 k1 k2 o0 o1 o2 f0 f1 f2
  obtain ⟨r0, r1, r2⟩ := blk3 R4
  refine bodyPost_ret (v := .agg #[.string s, .int .i64 x, .int .i64 y]) (by simp [results, Tryd.results26, go_sem, r0, r1, r2]) rfl ?_
  exact ⟨rfl, bw4⟩

set_option maxHeartbeats 1000000 in
theorem eqNode_same (s t : ByteArray) (hst : t.data.toList = s.data.toList) (x y : Int) (w : World) :
    Calls Tryd.prog 33 #[.agg #[.string s, .int .i64 x, .int .i64 y], .agg #[.string t, .int .i64 x, .int .i64 y]] w fun e w' => e = .returned (.bool true) ∧ Below w.heap.size w w' := by
  have hx : (s.toList == t.toList) = true := by rw [toList_is hst, toList_is rfl]; simp
  clear hst
  obtain ⟨W0, hW0⟩ : ∃ W0, W0 = (w.alloc (.cells #[.string s, .int .i64 x, .int .i64 y] 55)).alloc (.cells #[.string t, .int .i64 x, .int .i64 y] 55) := ⟨_, rfl⟩
  have bw0 : Below w.heap.size w W0 := by rw [hW0]; exact below_alloc (below_alloc (Below.refl _ _) _) _
  go_enter Tryd.func33, Tryd.ntmps33
  go_wp2_with fail
  rw [← hW0]
  clear hW0
  refine (eqContent_any x y x y _).mono ?_
  rw [show decide (x = x ∧ y = y) = true from decide_eq_true ⟨rfl, rfl⟩]
  rintro e w1 ⟨rfl, hb1⟩
  have bw1 := below_step bw0 hb1
  go_wp2_with fail
  go_ret
  exact ⟨rfl, bw1⟩
end Go.Proofs.YthcfjiapmigjiaaDoor
