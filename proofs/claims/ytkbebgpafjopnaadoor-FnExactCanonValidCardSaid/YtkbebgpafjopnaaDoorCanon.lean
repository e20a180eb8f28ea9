/- The canonical order of commands, by both texts. -/
import Derived.Test.YtkbebgpafjopnaaDoorOrd
namespace Go.Proofs.YtkbebgpafjopnaaDoor
open Go.RowKit
set_option linter.unusedVariables false
set_option linter.unusedSimpArgs false
set_option maxRecDepth 20000

theorem bl_irr : ∀ a : List UInt8, Op.bytesLess a a = false
  | [] => rfl
  | x :: a => by simp [Op.bytesLess, bl_irr a]
theorem bl_total : ∀ a b : List UInt8, a ≠ b → Op.bytesLess b a = !Op.bytesLess a b
  | [], [], h => absurd rfl h
  | [], y :: b, _ => rfl
  | x :: a, [], _ => rfl
  | x :: a, y :: b, h => by
    unfold Op.bytesLess
    by_cases hxy : x = y
    · subst hxy
      have := bl_total a b (fun e => h (by rw [e]))
      simp [this]
    · have h1 : (x == y) = false := by simpa using hxy
      have h2 : (y == x) = false := by simpa using Ne.symm hxy
      rw [h1, h2]
      have h3 : x.toNat ≠ y.toNat := fun e => hxy (UInt8.toNat_inj.1 e)
      have h4 : (decide (y < x)) = !(decide (x < y)) := by
        rw [Bool.eq_iff_iff]; simp [UInt8.lt_iff_toNat_lt]; omega
      simp only [Bool.false_and, Bool.or_false]
      exact h4
theorem gt_eq (a b : List UInt8) : (!Op.bytesLess a b && !(a == b)) = Op.bytesLess b a := by
  by_cases h : a = b
  · subst h; simp [bl_irr]
  · rw [bl_total a b h]; have : (a == b) = false := by simpa using h
    rw [this]; simp
def endsB (x z : Int) : Bool := decide (z = 0) || decide (x = 1)
/-- A command comes before another one in canonical order. -/
def befB (s : List UInt8) (x z : Int) (t : List UInt8) (a c : Int) : Bool := match endsB x z, endsB a c with
  | true, true => Op.bytesLess t s
  | true, false => true
  | false, true => false
  | false, false => Op.bytesLess s t
theorem befB_total {s t : List UInt8} (h : s ≠ t) (x z a c : Int) : befB t a c s x z = !befB s x z t a c := by
  unfold befB
  cases endsB x z <;> cases endsB a c <;> first | rfl | exact bl_total _ _ h | exact bl_total _ _ (Ne.symm h)
theorem nan_any (a : ByteArray) (w : World) : Calls Tryd.prog 103 #[.string a] w fun e w' => e = .returned (.bool false) ∧ w' = w := by
  go_enter Tryd.func103, Tryd.ntmps103
  go_wp2_with fail
  go_ret
  exact ⟨rfl, rfl⟩
theorem compare_any (a b : ByteArray) (w : World) : Calls Tryd.prog 77 #[.string a, .string b] w fun e w' => (∃ r : Int, e = .returned (.int .i64 r) ∧ decide (r < 0) = Op.bytesLess a.toList b.toList) ∧ w' = w := by
  cases h : Op.bytesLess a.toList b.toList with
  | true =>
    go_enter Tryd.func77, Tryd.ntmps77
    go_wp2_with (go_at_call 103; refine (nan_any _ _).mono ?_; rintro e w' ⟨rfl, rfl⟩)
    go_ret
    exact ⟨⟨_, rfl, rfl⟩, rfl⟩
  | false =>
    go_enter Tryd.func77, Tryd.ntmps77
    go_wp2_with (go_at_call 103; refine (nan_any _ _).mono ?_; rintro e w' ⟨rfl, rfl⟩)
    all_goals go_ret
    all_goals exact ⟨⟨_, rfl, rfl⟩, rfl⟩

theorem specEnds_any (s : ByteArray) (x y z u : Int) (w : World) :
    Calls Tryd.prog 90 #[.agg #[.string s, .int .i64 x, .int .i64 y, .int .i64 z, .int .i64 u]] w fun e w' => e = .returned (.bool (endsB x z)) ∧ Below w.heap.size w w' := by
  have bw := below_alloc (Below.refl w.heap.size w) (.cells #[.string s, .int .i64 x, .int .i64 y, .int .i64 z, .int .i64 u] 41)
  by_cases hz : z = 0
  · have HR := Lib.hid (show endsB x z = true by unfold endsB; rw [decide_eq_true hz]; rfl)
    subst hz
    go_enter Tryd.func90, Tryd.ntmps90
    go_wp2_with fail
    go_ret
    exact ⟨ret_bool HR.out.symm, below_alloc (Below.refl _ _) _⟩
  · have hz' : (z == 0) = false := by simpa using hz
    have HR := Lib.hid (show endsB x z = (x == 1) by unfold endsB; rw [decide_eq_false hz, Bool.eq_iff_iff]; simp)
    clear hz
    go_enter Tryd.func90, Tryd.ntmps90
    go_wp2_with fail
    go_ret
    exact ⟨ret_bool HR.out.symm, below_alloc (Below.refl _ _) _⟩

theorem implEnds_any (s : ByteArray) (x y z u : Int) (w : World) :
    Calls Tryd.prog 76 #[.agg #[.string s, .int .i64 x, .int .i64 y, .int .i64 z, .int .i64 u]] w fun e w' => e = .returned (.bool (endsB x z)) ∧ Below w.heap.size w w' := by
  have bw := below_alloc (Below.refl w.heap.size w) (.cells #[.string s, .int .i64 x, .int .i64 y, .int .i64 z, .int .i64 u] 41)
  by_cases hz : z = 0
  · have HR := Lib.hid (show endsB x z = true by unfold endsB; rw [decide_eq_true hz]; rfl)
    subst hz
    go_enter Tryd.func76, Tryd.ntmps76
    go_wp2_with fail
    go_ret
    exact ⟨ret_bool HR.out.symm, below_alloc (Below.refl _ _) _⟩
  · have hz' : (z == 0) = false := by simpa using hz
    have HR := Lib.hid (show endsB x z = (x == 1) by unfold endsB; rw [decide_eq_false hz, Bool.eq_iff_iff]; simp)
    clear hz
    go_enter Tryd.func76, Tryd.ntmps76
    go_wp2_with fail
    go_ret
    exact ⟨ret_bool HR.out.symm, below_alloc (Below.refl _ _) _⟩

set_option maxHeartbeats 2000000 in
theorem specBefore_any (s : ByteArray) (x y z u : Int) (t : ByteArray) (a b c d : Int) (w : World) :
    Calls Tryd.prog 64 #[.agg #[.string s, .int .i64 x, .int .i64 y, .int .i64 z, .int .i64 u], .agg #[.string t, .int .i64 a, .int .i64 b, .int .i64 c, .int .i64 d]] w fun e w' => e = .returned (.bool (befB s.toList x z t.toList a c)) ∧ Below w.heap.size w w' := by
  obtain ⟨W0, hW0⟩ : ∃ W0, W0 = (w.alloc (.cells #[.string s, .int .i64 x, .int .i64 y, .int .i64 z, .int .i64 u] 41)).alloc (.cells #[.string t, .int .i64 a, .int .i64 b, .int .i64 c, .int .i64 d] 41) := ⟨_, rfl⟩
  have A0 : Blk W0 w.heap.size 41 #[.string s, .int .i64 x, .int .i64 y, .int .i64 z, .int .i64 u] := by rw [hW0]; exact (Blk.new _ _ _).alloc _
  have B0 : Blk W0 (w.heap.size + 1) 41 #[.string t, .int .i64 a, .int .i64 b, .int .i64 c, .int .i64 d] := by
    rw [hW0]
    have := Blk.new (w.alloc (.cells #[.string s, .int .i64 x, .int .i64 y, .int .i64 z, .int .i64 u] 41)) 41 #[.string t, .int .i64 a, .int .i64 b, .int .i64 c, .int .i64 d]
    rwa [World.size_alloc] at this
  have bw0 : Below w.heap.size w W0 := by rw [hW0]; exact below_alloc (below_alloc (Below.refl _ _) _) _
  cases h1 : endsB x z with
  | true =>
    have E1 := Lib.hid h1
    clear h1
    cases h2 : endsB a c with
    | true =>
      have E2 := Lib.hid h2
      clear h2
      have HB := Lib.hid (show befB s.toList x z t.toList a c = _ by unfold befB; rw [E1.out, E2.out])
      go_enter Tryd.func64, Tryd.ntmps64
      go_wp2_with fail
      rw [← hW0]
      clear hW0
      refine (specEnds_any s x y z u _).mono ?_
      rw [E1.out]
      rintro e w1 ⟨rfl, hb1⟩
      have bw1 := below_step bw0 hb1
      have A1 := A0.belowS hb1
      have B1 := B0.belowS hb1
      try clear a0 a1 a2 a3 a4 b0 b1 b2 b3 b4
      obtain ⟨a0, a1, a2, a3, a4⟩ := blk5 A1
      obtain ⟨b0, b1, b2, b3, b4⟩ := blk5 B1
      clear A0 B0 hb1
      go_wp2_with fail
      refine (specEnds_any t a b c d _).mono ?_
      rw [E2.out]
      rintro e w2 ⟨rfl, hb2⟩
      have bw2 := below_step bw1 hb2
      have A2 := A1.belowS hb2
      have B2 := B1.belowS hb2
      try clear a0 a1 a2 a3 a4 b0 b1 b2 b3 b4
      obtain ⟨a0, a1, a2, a3, a4⟩ := blk5 A2
      obtain ⟨b0, b1, b2, b3, b4⟩ := blk5 B2
      clear A1 B1 hb2
      go_wp2_with fail
      all_goals go_ret
      all_goals exact ⟨ret_bool (by refine Eq.trans ?_ HB.out.symm; show _ = Op.bytesLess _ _; first | rfl | exact gt_eq _ _ | (rw [← gt_eq]; simp [*]; done)), bw2⟩
    | false =>
      have E2 := Lib.hid h2
      clear h2
      have HB := Lib.hid (show befB s.toList x z t.toList a c = _ by unfold befB; rw [E1.out, E2.out])
      go_enter Tryd.func64, Tryd.ntmps64
      go_wp2_with fail
      rw [← hW0]
      clear hW0
      refine (specEnds_any s x y z u _).mono ?_
      rw [E1.out]
      rintro e w1 ⟨rfl, hb1⟩
      have bw1 := below_step bw0 hb1
      have A1 := A0.belowS hb1
      have B1 := B0.belowS hb1
      try clear a0 a1 a2 a3 a4 b0 b1 b2 b3 b4
      obtain ⟨a0, a1, a2, a3, a4⟩ := blk5 A1
      obtain ⟨b0, b1, b2, b3, b4⟩ := blk5 B1
      clear A0 B0 hb1
      go_wp2_with fail
      refine (specEnds_any t a b c d _).mono ?_
      rw [E2.out]
      rintro e w2 ⟨rfl, hb2⟩
      have bw2 := below_step bw1 hb2
      have A2 := A1.belowS hb2
      have B2 := B1.belowS hb2
      try clear a0 a1 a2 a3 a4 b0 b1 b2 b3 b4
      obtain ⟨a0, a1, a2, a3, a4⟩ := blk5 A2
      obtain ⟨b0, b1, b2, b3, b4⟩ := blk5 B2
      clear A1 B1 hb2
      go_wp2_with fail
      refine (specEnds_any s x y z u _).mono ?_
      rw [E1.out]
      rintro e w3 ⟨rfl, hb3⟩
      have bw3 := below_step bw2 hb3
      have A3 := A2.belowS hb3
      have B3 := B2.belowS hb3
      try clear a0 a1 a2 a3 a4 b0 b1 b2 b3 b4
      obtain ⟨a0, a1, a2, a3, a4⟩ := blk5 A3
      obtain ⟨b0, b1, b2, b3, b4⟩ := blk5 B3
      clear A2 B2 hb3
      go_wp2_with fail
      refine (specEnds_any s x y z u _).mono ?_
      rw [E1.out]
      rintro e w4 ⟨rfl, hb4⟩
      have bw4 := below_step bw3 hb4
      have A4 := A3.belowS hb4
      have B4 := B3.belowS hb4
      try clear a0 a1 a2 a3 a4 b0 b1 b2 b3 b4
      obtain ⟨a0, a1, a2, a3, a4⟩ := blk5 A4
      obtain ⟨b0, b1, b2, b3, b4⟩ := blk5 B4
      clear A3 B3 hb4
      go_wp2_with fail
      go_ret
      exact ⟨ret_bool (HB.out.trans rfl).symm, bw4⟩
  | false =>
    have E1 := Lib.hid h1
    clear h1
    cases h2 : endsB a c with
    | true =>
      have E2 := Lib.hid h2
      clear h2
      have HB := Lib.hid (show befB s.toList x z t.toList a c = _ by unfold befB; rw [E1.out, E2.out])
      go_enter Tryd.func64, Tryd.ntmps64
      go_wp2_with fail
      rw [← hW0]
      clear hW0
      refine (specEnds_any s x y z u _).mono ?_
      rw [E1.out]
      rintro e w1 ⟨rfl, hb1⟩
      have bw1 := below_step bw0 hb1
      have A1 := A0.belowS hb1
      have B1 := B0.belowS hb1
      try clear a0 a1 a2 a3 a4 b0 b1 b2 b3 b4
      obtain ⟨a0, a1, a2, a3, a4⟩ := blk5 A1
      obtain ⟨b0, b1, b2, b3, b4⟩ := blk5 B1
      clear A0 B0 hb1
      go_wp2_with fail
      refine (specEnds_any s x y z u _).mono ?_
      rw [E1.out]
      rintro e w2 ⟨rfl, hb2⟩
      have bw2 := below_step bw1 hb2
      have A2 := A1.belowS hb2
      have B2 := B1.belowS hb2
      try clear a0 a1 a2 a3 a4 b0 b1 b2 b3 b4
      obtain ⟨a0, a1, a2, a3, a4⟩ := blk5 A2
      obtain ⟨b0, b1, b2, b3, b4⟩ := blk5 B2
      clear A1 B1 hb2
      go_wp2_with fail
      refine (specEnds_any t a b c d _).mono ?_
      rw [E2.out]
      rintro e w3 ⟨rfl, hb3⟩
      have bw3 := below_step bw2 hb3
      have A3 := A2.belowS hb3
      have B3 := B2.belowS hb3
      try clear a0 a1 a2 a3 a4 b0 b1 b2 b3 b4
      obtain ⟨a0, a1, a2, a3, a4⟩ := blk5 A3
      obtain ⟨b0, b1, b2, b3, b4⟩ := blk5 B3
      clear A2 B2 hb3
      go_wp2_with fail
      refine (specEnds_any s x y z u _).mono ?_
      rw [E1.out]
      rintro e w4 ⟨rfl, hb4⟩
      have bw4 := below_step bw3 hb4
      have A4 := A3.belowS hb4
      have B4 := B3.belowS hb4
      try clear a0 a1 a2 a3 a4 b0 b1 b2 b3 b4
      obtain ⟨a0, a1, a2, a3, a4⟩ := blk5 A4
      obtain ⟨b0, b1, b2, b3, b4⟩ := blk5 B4
      clear A3 B3 hb4
      go_wp2_with fail
      go_ret
      exact ⟨ret_bool (HB.out.trans rfl).symm, bw4⟩
    | false =>
      have E2 := Lib.hid h2
      clear h2
      have HB := Lib.hid (show befB s.toList x z t.toList a c = _ by unfold befB; rw [E1.out, E2.out])
      go_enter Tryd.func64, Tryd.ntmps64
      go_wp2_with fail
      rw [← hW0]
      clear hW0
      refine (specEnds_any s x y z u _).mono ?_
      rw [E1.out]
      rintro e w1 ⟨rfl, hb1⟩
      have bw1 := below_step bw0 hb1
      have A1 := A0.belowS hb1
      have B1 := B0.belowS hb1
      try clear a0 a1 a2 a3 a4 b0 b1 b2 b3 b4
      obtain ⟨a0, a1, a2, a3, a4⟩ := blk5 A1
      obtain ⟨b0, b1, b2, b3, b4⟩ := blk5 B1
      clear A0 B0 hb1
      go_wp2_with fail
      refine (specEnds_any s x y z u _).mono ?_
      rw [E1.out]
      rintro e w2 ⟨rfl, hb2⟩
      have bw2 := below_step bw1 hb2
      have A2 := A1.belowS hb2
      have B2 := B1.belowS hb2
      try clear a0 a1 a2 a3 a4 b0 b1 b2 b3 b4
      obtain ⟨a0, a1, a2, a3, a4⟩ := blk5 A2
      obtain ⟨b0, b1, b2, b3, b4⟩ := blk5 B2
      clear A1 B1 hb2
      go_wp2_with fail
      refine (specEnds_any t a b c d _).mono ?_
      rw [E2.out]
      rintro e w3 ⟨rfl, hb3⟩
      have bw3 := below_step bw2 hb3
      have A3 := A2.belowS hb3
      have B3 := B2.belowS hb3
      try clear a0 a1 a2 a3 a4 b0 b1 b2 b3 b4
      obtain ⟨a0, a1, a2, a3, a4⟩ := blk5 A3
      obtain ⟨b0, b1, b2, b3, b4⟩ := blk5 B3
      clear A2 B2 hb3
      go_wp2_with fail
      all_goals go_ret
      all_goals exact ⟨ret_bool (by refine Eq.trans ?_ HB.out.symm; show _ = Op.bytesLess _ _; first | rfl | exact gt_eq _ _ | (rw [← gt_eq]; simp [*]; done)), bw3⟩

set_option maxHeartbeats 2000000 in
theorem implBefore_any (s : ByteArray) (x y z u : Int) (t : ByteArray) (a b c d : Int) (w : World) :
    Calls Tryd.prog 47 #[.agg #[.string s, .int .i64 x, .int .i64 y, .int .i64 z, .int .i64 u], .agg #[.string t, .int .i64 a, .int .i64 b, .int .i64 c, .int .i64 d]] w fun e w' => (∃ r : Int, e = .returned (.int .i64 r) ∧ decide (r < 0) = befB s.toList x z t.toList a c) ∧ Below w.heap.size w w' := by
  obtain ⟨W0, hW0⟩ : ∃ W0, W0 = (w.alloc (.cells #[.string s, .int .i64 x, .int .i64 y, .int .i64 z, .int .i64 u] 41)).alloc (.cells #[.string t, .int .i64 a, .int .i64 b, .int .i64 c, .int .i64 d] 41) := ⟨_, rfl⟩
  have A0 : Blk W0 w.heap.size 41 #[.string s, .int .i64 x, .int .i64 y, .int .i64 z, .int .i64 u] := by rw [hW0]; exact (Blk.new _ _ _).alloc _
  have B0 : Blk W0 (w.heap.size + 1) 41 #[.string t, .int .i64 a, .int .i64 b, .int .i64 c, .int .i64 d] := by
    rw [hW0]
    have := Blk.new (w.alloc (.cells #[.string s, .int .i64 x, .int .i64 y, .int .i64 z, .int .i64 u] 41)) 41 #[.string t, .int .i64 a, .int .i64 b, .int .i64 c, .int .i64 d]
    rwa [World.size_alloc] at this
  have bw0 : Below w.heap.size w W0 := by rw [hW0]; exact below_alloc (below_alloc (Below.refl _ _) _) _
  cases h1 : endsB x z with
  | true =>
    have E1 := Lib.hid h1
    clear h1
    cases h2 : endsB a c with
    | true =>
      have E2 := Lib.hid h2
      clear h2
      have HB := Lib.hid (show befB s.toList x z t.toList a c = _ by unfold befB; rw [E1.out, E2.out])
      go_enter Tryd.func47, Tryd.ntmps47
      go_wp2_with fail
      rw [← hW0]
      clear hW0
      refine (implEnds_any s x y z u _).mono ?_
      rw [E1.out]
      rintro e w1 ⟨rfl, hb1⟩
      have bw1 := below_step bw0 hb1
      have A1 := A0.belowS hb1
      have B1 := B0.belowS hb1
      try clear a0 a1 a2 a3 a4 b0 b1 b2 b3 b4
      obtain ⟨a0, a1, a2, a3, a4⟩ := blk5 A1
      obtain ⟨b0, b1, b2, b3, b4⟩ := blk5 B1
      clear A0 B0 hb1
      go_wp2_with fail
      refine (implEnds_any t a b c d _).mono ?_
      rw [E2.out]
      rintro e w2 ⟨rfl, hb2⟩
      have bw2 := below_step bw1 hb2
      have A2 := A1.belowS hb2
      have B2 := B1.belowS hb2
      try clear a0 a1 a2 a3 a4 b0 b1 b2 b3 b4
      obtain ⟨a0, a1, a2, a3, a4⟩ := blk5 A2
      obtain ⟨b0, b1, b2, b3, b4⟩ := blk5 B2
      clear A1 B1 hb2
      go_wp2_with fail
      refine (compare_any t s _).mono ?_
      rintro e w' ⟨⟨r, rfl, hr⟩, rfl⟩
      have HR := Lib.hid hr
      clear hr
      go_wp2_with fail
      go_ret
      exact ⟨⟨r, rfl, HR.out.trans (HB.out.trans rfl).symm⟩, bw2⟩
    | false =>
      have E2 := Lib.hid h2
      clear h2
      have HB := Lib.hid (show befB s.toList x z t.toList a c = _ by unfold befB; rw [E1.out, E2.out])
      go_enter Tryd.func47, Tryd.ntmps47
      go_wp2_with fail
      rw [← hW0]
      clear hW0
      refine (implEnds_any s x y z u _).mono ?_
      rw [E1.out]
      rintro e w1 ⟨rfl, hb1⟩
      have bw1 := below_step bw0 hb1
      have A1 := A0.belowS hb1
      have B1 := B0.belowS hb1
      try clear a0 a1 a2 a3 a4 b0 b1 b2 b3 b4
      obtain ⟨a0, a1, a2, a3, a4⟩ := blk5 A1
      obtain ⟨b0, b1, b2, b3, b4⟩ := blk5 B1
      clear A0 B0 hb1
      go_wp2_with fail
      refine (implEnds_any t a b c d _).mono ?_
      rw [E2.out]
      rintro e w2 ⟨rfl, hb2⟩
      have bw2 := below_step bw1 hb2
      have A2 := A1.belowS hb2
      have B2 := B1.belowS hb2
      try clear a0 a1 a2 a3 a4 b0 b1 b2 b3 b4
      obtain ⟨a0, a1, a2, a3, a4⟩ := blk5 A2
      obtain ⟨b0, b1, b2, b3, b4⟩ := blk5 B2
      clear A1 B1 hb2
      go_wp2_with fail
      refine (implEnds_any s x y z u _).mono ?_
      rw [E1.out]
      rintro e w3 ⟨rfl, hb3⟩
      have bw3 := below_step bw2 hb3
      have A3 := A2.belowS hb3
      have B3 := B2.belowS hb3
      try clear a0 a1 a2 a3 a4 b0 b1 b2 b3 b4
      obtain ⟨a0, a1, a2, a3, a4⟩ := blk5 A3
      obtain ⟨b0, b1, b2, b3, b4⟩ := blk5 B3
      clear A2 B2 hb3
      go_wp2_with fail
      go_ret
      exact ⟨⟨_, rfl, (HB.out.trans rfl).symm⟩, bw3⟩
  | false =>
    have E1 := Lib.hid h1
    clear h1
    cases h2 : endsB a c with
    | true =>
      have E2 := Lib.hid h2
      clear h2
      have HB := Lib.hid (show befB s.toList x z t.toList a c = _ by unfold befB; rw [E1.out, E2.out])
      go_enter Tryd.func47, Tryd.ntmps47
      go_wp2_with fail
      rw [← hW0]
      clear hW0
      refine (implEnds_any s x y z u _).mono ?_
      rw [E1.out]
      rintro e w1 ⟨rfl, hb1⟩
      have bw1 := below_step bw0 hb1
      have A1 := A0.belowS hb1
      have B1 := B0.belowS hb1
      try clear a0 a1 a2 a3 a4 b0 b1 b2 b3 b4
      obtain ⟨a0, a1, a2, a3, a4⟩ := blk5 A1
      obtain ⟨b0, b1, b2, b3, b4⟩ := blk5 B1
      clear A0 B0 hb1
      go_wp2_with fail
      refine (implEnds_any s x y z u _).mono ?_
      rw [E1.out]
      rintro e w2 ⟨rfl, hb2⟩
      have bw2 := below_step bw1 hb2
      have A2 := A1.belowS hb2
      have B2 := B1.belowS hb2
      try clear a0 a1 a2 a3 a4 b0 b1 b2 b3 b4
      obtain ⟨a0, a1, a2, a3, a4⟩ := blk5 A2
      obtain ⟨b0, b1, b2, b3, b4⟩ := blk5 B2
      clear A1 B1 hb2
      go_wp2_with fail
      refine (implEnds_any t a b c d _).mono ?_
      rw [E2.out]
      rintro e w3 ⟨rfl, hb3⟩
      have bw3 := below_step bw2 hb3
      have A3 := A2.belowS hb3
      have B3 := B2.belowS hb3
      try clear a0 a1 a2 a3 a4 b0 b1 b2 b3 b4
      obtain ⟨a0, a1, a2, a3, a4⟩ := blk5 A3
      obtain ⟨b0, b1, b2, b3, b4⟩ := blk5 B3
      clear A2 B2 hb3
      go_wp2_with fail
      go_ret
      exact ⟨⟨_, rfl, (HB.out.trans rfl).symm⟩, bw3⟩
    | false =>
      have E2 := Lib.hid h2
      clear h2
      have HB := Lib.hid (show befB s.toList x z t.toList a c = _ by unfold befB; rw [E1.out, E2.out])
      go_enter Tryd.func47, Tryd.ntmps47
      go_wp2_with fail
      rw [← hW0]
      clear hW0
      refine (implEnds_any s x y z u _).mono ?_
      rw [E1.out]
      rintro e w1 ⟨rfl, hb1⟩
      have bw1 := below_step bw0 hb1
      have A1 := A0.belowS hb1
      have B1 := B0.belowS hb1
      try clear a0 a1 a2 a3 a4 b0 b1 b2 b3 b4
      obtain ⟨a0, a1, a2, a3, a4⟩ := blk5 A1
      obtain ⟨b0, b1, b2, b3, b4⟩ := blk5 B1
      clear A0 B0 hb1
      go_wp2_with fail
      refine (implEnds_any s x y z u _).mono ?_
      rw [E1.out]
      rintro e w2 ⟨rfl, hb2⟩
      have bw2 := below_step bw1 hb2
      have A2 := A1.belowS hb2
      have B2 := B1.belowS hb2
      try clear a0 a1 a2 a3 a4 b0 b1 b2 b3 b4
      obtain ⟨a0, a1, a2, a3, a4⟩ := blk5 A2
      obtain ⟨b0, b1, b2, b3, b4⟩ := blk5 B2
      clear A1 B1 hb2
      go_wp2_with fail
      refine (implEnds_any t a b c d _).mono ?_
      rw [E2.out]
      rintro e w3 ⟨rfl, hb3⟩
      have bw3 := below_step bw2 hb3
      have A3 := A2.belowS hb3
      have B3 := B2.belowS hb3
      try clear a0 a1 a2 a3 a4 b0 b1 b2 b3 b4
      obtain ⟨a0, a1, a2, a3, a4⟩ := blk5 A3
      obtain ⟨b0, b1, b2, b3, b4⟩ := blk5 B3
      clear A2 B2 hb3
      go_wp2_with fail
      refine (compare_any s t _).mono ?_
      rintro e w' ⟨⟨r, rfl, hr⟩, rfl⟩
      have HR := Lib.hid hr
      clear hr
      go_wp2_with fail
      go_ret
      exact ⟨⟨r, rfl, HR.out.trans (HB.out.trans rfl).symm⟩, bw3⟩
end Go.Proofs.YtkbebgpafjopnaaDoor
