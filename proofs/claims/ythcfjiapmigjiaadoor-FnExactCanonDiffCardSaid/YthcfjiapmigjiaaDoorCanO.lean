/- The canonical order, by the program: exactly. -/
import Derived.Test.YthcfjiapmigjiaaDoorCanonL
import Derived.Test.YthcfjiapmigjiaaDoorLogV
import Derived.Sort.Grow
namespace Go.Proofs.YthcfjiapmigjiaaDoor
open Go.RowKit Go.Sort
set_option linter.unusedVariables false
set_option linter.unusedSimpArgs false
set_option maxRecDepth 20000

/-- A world that has drawn and made memory, and has written nothing. -/
def Gr (w w' : World) : Prop := ∃ q os, w' = grow (w.drewN q) os
theorem Gr.refl (w : World) : Gr w w := ⟨0, #[], by simp; rfl⟩
theorem Gr.one (w : World) (o : Obj) : Gr w (w.alloc o) := ⟨0, #[o], alloc_eq_grow w o⟩
theorem grow_drewN (w : World) (os : Array Obj) : ∀ n, (grow w os).drewN n = grow (w.drewN n) os := fun n => by simp [World.drewN, grow]
theorem drewN_drewN (w : World) (a b : Nat) : (w.drewN a).drewN b = w.drewN (a + b) := by simp [World.drewN, Nat.add_assoc]
theorem Gr.trans {a b c : World} (h : Gr a b) (k : Gr b c) : Gr a c := by
  obtain ⟨q, os, rfl⟩ := h
  obtain ⟨r, ps, rfl⟩ := k
  exact ⟨q + r, os ++ ps, by rw [grow_drewN, drewN_drewN, grow_grow]⟩
theorem Gr.below {w w' : World} (h : Gr w w') : Below w.heap.size w w' := by
  obtain ⟨q, os, rfl⟩ := h
  refine ⟨rfl, rfl, rfl, by simp [grow], fun k hk => ?_⟩
  simp [grow, Array.getElem?_append_left hk]
def cmpB (a b : List UInt8) : Int := if Op.bytesLess a b = true then -1 else if Op.bytesLess b a = true then 1 else 0
def cfB (s : List UInt8) (x z : Int) (t : List UInt8) (a c : Int) : Int := match endsB x z, endsB a c with
  | true, true => cmpB t s
  | true, false => -1
  | false, true => 1
  | false, false => cmpB s t
def cfC (c d : Cmd) : Int := cfB c.s c.x c.z d.s d.x d.z
theorem cmpB_lt (a b : List UInt8) : decide (cmpB a b < 0) = Op.bytesLess a b := by
  unfold cmpB
  cases h : Op.bytesLess a b <;> simp
  split <;> simp
theorem cfC_lt (c d : Cmd) : decide (cfC c d < 0) = befC c d := by
  unfold cfC cfB befC befB
  cases endsB c.x c.z <;> cases endsB d.x d.z <;> first | rfl | exact cmpB_lt _ _

theorem nan_any (a : ByteArray) (w : World) : Calls Tryd.prog 84 #[.string a] w fun e w' => e = .returned (.bool false) ∧ w' = w := by
  go_enter Tryd.func84, Tryd.ntmps84
  go_wp2_with fail
  go_ret
  exact ⟨rfl, rfl⟩
theorem compareX_any (a b : ByteArray) (w : World) : Calls Tryd.prog 61 #[.string a, .string b] w fun e w' => e = .returned (.int .i64 (cmpB a.toList b.toList)) ∧ w' = w := by
  unfold cmpB
  cases h : Op.bytesLess a.toList b.toList with
  | true =>
    go_enter Tryd.func61, Tryd.ntmps61
    go_wp2_with (go_at_call 84; refine (nan_any _ _).mono ?_; rintro e w' ⟨rfl, rfl⟩)
    go_ret
    exact ⟨rfl, rfl⟩
  | false =>
    cases h2 : Op.bytesLess b.toList a.toList with
    | true =>
      have hne : (a.toList == b.toList) = false := by
        rw [beq_eq_false_iff_ne]; intro e; rw [e, bl_irr] at h2; cases h2
      go_enter Tryd.func61, Tryd.ntmps61
      go_wp2_with (go_at_call 84; refine (nan_any _ _).mono ?_; rintro e w' ⟨rfl, rfl⟩)
      all_goals go_ret
      all_goals exact ⟨rfl, rfl⟩
    | false =>
      have hne : (a.toList == b.toList) = true := by rw [beq_iff_eq]; exact bl_conn h h2
      go_enter Tryd.func61, Tryd.ntmps61
      go_wp2_with (go_at_call 84; refine (nan_any _ _).mono ?_; rintro e w' ⟨rfl, rfl⟩)
      all_goals go_ret
      all_goals exact ⟨rfl, rfl⟩

theorem implEnds_any (s : ByteArray) (x y z u : Int) (w : World) :
    Calls Tryd.prog 60 #[.agg #[.string s, .int .i64 x, .int .i64 y, .int .i64 z, .int .i64 u]] w fun e w' => e = .returned (.bool (endsB x z)) ∧ Gr w w' := by
  have gw := Gr.one w (.cells #[.string s, .int .i64 x, .int .i64 y, .int .i64 z, .int .i64 u] 52)
  by_cases hz : z = 0
  · have HR := Lib.hid (show endsB x z = true by unfold endsB; rw [decide_eq_true hz]; rfl)
    subst hz
    go_enter Tryd.func60, Tryd.ntmps60
    go_wp2_with fail
    go_ret
    exact ⟨ret_bool HR.out.symm, gw⟩
  · have hz' : (z == 0) = false := by simpa using hz
    have HR := Lib.hid (show endsB x z = (x == 1) by unfold endsB; rw [decide_eq_false hz, Bool.eq_iff_iff]; simp)
    clear hz
    go_enter Tryd.func60, Tryd.ntmps60
    go_wp2_with fail
    go_ret
    exact ⟨ret_bool HR.out.symm, gw⟩

set_option maxHeartbeats 2000000 in
theorem implOrder_any (s : ByteArray) (x y z u : Int) (t : ByteArray) (a b c d : Int) (w : World) :
    Calls Tryd.prog 31 #[.agg #[.string s, .int .i64 x, .int .i64 y, .int .i64 z, .int .i64 u], .agg #[.string t, .int .i64 a, .int .i64 b, .int .i64 c, .int .i64 d]] w fun e w' => e = .returned (.int .i64 (cfB s.toList x z t.toList a c)) ∧ Gr w w' := by
  obtain ⟨W0, hW0⟩ : ∃ W0, W0 = (w.alloc (.cells #[.string s, .int .i64 x, .int .i64 y, .int .i64 z, .int .i64 u] 52)).alloc (.cells #[.string t, .int .i64 a, .int .i64 b, .int .i64 c, .int .i64 d] 52) := ⟨_, rfl⟩
  have A0 : Blk W0 w.heap.size 52 #[.string s, .int .i64 x, .int .i64 y, .int .i64 z, .int .i64 u] := by rw [hW0]; exact (Blk.new _ _ _).alloc _
  have B0 : Blk W0 (w.heap.size + 1) 52 #[.string t, .int .i64 a, .int .i64 b, .int .i64 c, .int .i64 d] := by
    rw [hW0]
    have := Blk.new (w.alloc (.cells #[.string s, .int .i64 x, .int .i64 y, .int .i64 z, .int .i64 u] 52)) 52 #[.string t, .int .i64 a, .int .i64 b, .int .i64 c, .int .i64 d]
    rwa [World.size_alloc] at this
  have gw0 : Gr w W0 := by rw [hW0]; exact (Gr.one w _).trans (Gr.one _ _)
  cases h1 : endsB x z with
  | true =>
    have E1 := Lib.hid h1
    clear h1
    cases h2 : endsB a c with
    | true =>
      have E2 := Lib.hid h2
      clear h2
      have HB := Lib.hid (show cfB s.toList x z t.toList a c = _ by unfold cfB; rw [E1.out, E2.out])
      go_enter Tryd.func31, Tryd.ntmps31
      go_wp2_with fail
      rw [← hW0]
      clear hW0
      refine (implEnds_any s x y z u _).mono ?_
      rw [E1.out]
      rintro e w1 ⟨rfl, gr1⟩
      have hb1 := gr1.below
      have gw1 := gw0.trans gr1
      clear gr1
      have A1 := A0.belowS hb1
      have B1 := B0.belowS hb1
      try clear a0 a1 a2 a3 a4 b0 b1 b2 b3 b4
      obtain ⟨a0, a1, a2, a3, a4⟩ := blk5 A1
      obtain ⟨b0, b1, b2, b3, b4⟩ := blk5 B1
      clear A0 B0 hb1
      go_wp2_with fail
      refine (implEnds_any t a b c d _).mono ?_
      rw [E2.out]
      rintro e w2 ⟨rfl, gr2⟩
      have hb2 := gr2.below
      have gw2 := gw1.trans gr2
      clear gr2
      have A2 := A1.belowS hb2
      have B2 := B1.belowS hb2
      try clear a0 a1 a2 a3 a4 b0 b1 b2 b3 b4
      obtain ⟨a0, a1, a2, a3, a4⟩ := blk5 A2
      obtain ⟨b0, b1, b2, b3, b4⟩ := blk5 B2
      clear A1 B1 hb2
      go_wp2_with fail
      refine (compareX_any t s _).mono ?_
      rw [← HB.out]
      rintro e w' ⟨rfl, rfl⟩
      go_wp2_with fail
      go_ret
      exact ⟨rfl, gw2⟩
    | false =>
      have E2 := Lib.hid h2
      clear h2
      have HB := Lib.hid (show cfB s.toList x z t.toList a c = _ by unfold cfB; rw [E1.out, E2.out])
      go_enter Tryd.func31, Tryd.ntmps31
      go_wp2_with fail
      rw [← hW0]
      clear hW0
      refine (implEnds_any s x y z u _).mono ?_
      rw [E1.out]
      rintro e w1 ⟨rfl, gr1⟩
      have hb1 := gr1.below
      have gw1 := gw0.trans gr1
      clear gr1
      have A1 := A0.belowS hb1
      have B1 := B0.belowS hb1
      try clear a0 a1 a2 a3 a4 b0 b1 b2 b3 b4
      obtain ⟨a0, a1, a2, a3, a4⟩ := blk5 A1
      obtain ⟨b0, b1, b2, b3, b4⟩ := blk5 B1
      clear A0 B0 hb1
      go_wp2_with fail
      refine (implEnds_any t a b c d _).mono ?_
      rw [E2.out]
      rintro e w2 ⟨rfl, gr2⟩
      have hb2 := gr2.below
      have gw2 := gw1.trans gr2
      clear gr2
      have A2 := A1.belowS hb2
      have B2 := B1.belowS hb2
      try clear a0 a1 a2 a3 a4 b0 b1 b2 b3 b4
      obtain ⟨a0, a1, a2, a3, a4⟩ := blk5 A2
      obtain ⟨b0, b1, b2, b3, b4⟩ := blk5 B2
      clear A1 B1 hb2
      go_wp2_with fail
      refine (implEnds_any s x y z u _).mono ?_
      rw [E1.out]
      rintro e w3 ⟨rfl, gr3⟩
      have hb3 := gr3.below
      have gw3 := gw2.trans gr3
      clear gr3
      have A3 := A2.belowS hb3
      have B3 := B2.belowS hb3
      try clear a0 a1 a2 a3 a4 b0 b1 b2 b3 b4
      obtain ⟨a0, a1, a2, a3, a4⟩ := blk5 A3
      obtain ⟨b0, b1, b2, b3, b4⟩ := blk5 B3
      clear A2 B2 hb3
      go_wp2_with fail
      go_ret
      exact ⟨ret_int (HB.out.trans rfl).symm, gw3⟩
  | false =>
    have E1 := Lib.hid h1
    clear h1
    cases h2 : endsB a c with
    | true =>
      have E2 := Lib.hid h2
      clear h2
      have HB := Lib.hid (show cfB s.toList x z t.toList a c = _ by unfold cfB; rw [E1.out, E2.out])
      go_enter Tryd.func31, Tryd.ntmps31
      go_wp2_with fail
      rw [← hW0]
      clear hW0
      refine (implEnds_any s x y z u _).mono ?_
      rw [E1.out]
      rintro e w1 ⟨rfl, gr1⟩
      have hb1 := gr1.below
      have gw1 := gw0.trans gr1
      clear gr1
      have A1 := A0.belowS hb1
      have B1 := B0.belowS hb1
      try clear a0 a1 a2 a3 a4 b0 b1 b2 b3 b4
      obtain ⟨a0, a1, a2, a3, a4⟩ := blk5 A1
      obtain ⟨b0, b1, b2, b3, b4⟩ := blk5 B1
      clear A0 B0 hb1
      go_wp2_with fail
      refine (implEnds_any s x y z u _).mono ?_
      rw [E1.out]
      rintro e w2 ⟨rfl, gr2⟩
      have hb2 := gr2.below
      have gw2 := gw1.trans gr2
      clear gr2
      have A2 := A1.belowS hb2
      have B2 := B1.belowS hb2
      try clear a0 a1 a2 a3 a4 b0 b1 b2 b3 b4
      obtain ⟨a0, a1, a2, a3, a4⟩ := blk5 A2
      obtain ⟨b0, b1, b2, b3, b4⟩ := blk5 B2
      clear A1 B1 hb2
      go_wp2_with fail
      refine (implEnds_any t a b c d _).mono ?_
      rw [E2.out]
      rintro e w3 ⟨rfl, gr3⟩
      have hb3 := gr3.below
      have gw3 := gw2.trans gr3
      clear gr3
      have A3 := A2.belowS hb3
      have B3 := B2.belowS hb3
      try clear a0 a1 a2 a3 a4 b0 b1 b2 b3 b4
      obtain ⟨a0, a1, a2, a3, a4⟩ := blk5 A3
      obtain ⟨b0, b1, b2, b3, b4⟩ := blk5 B3
      clear A2 B2 hb3
      go_wp2_with fail
      go_ret
      exact ⟨ret_int (HB.out.trans rfl).symm, gw3⟩
    | false =>
      have E2 := Lib.hid h2
      clear h2
      have HB := Lib.hid (show cfB s.toList x z t.toList a c = _ by unfold cfB; rw [E1.out, E2.out])
      go_enter Tryd.func31, Tryd.ntmps31
      go_wp2_with fail
      rw [← hW0]
      clear hW0
      refine (implEnds_any s x y z u _).mono ?_
      rw [E1.out]
      rintro e w1 ⟨rfl, gr1⟩
      have hb1 := gr1.below
      have gw1 := gw0.trans gr1
      clear gr1
      have A1 := A0.belowS hb1
      have B1 := B0.belowS hb1
      try clear a0 a1 a2 a3 a4 b0 b1 b2 b3 b4
      obtain ⟨a0, a1, a2, a3, a4⟩ := blk5 A1
      obtain ⟨b0, b1, b2, b3, b4⟩ := blk5 B1
      clear A0 B0 hb1
      go_wp2_with fail
      refine (implEnds_any s x y z u _).mono ?_
      rw [E1.out]
      rintro e w2 ⟨rfl, gr2⟩
      have hb2 := gr2.below
      have gw2 := gw1.trans gr2
      clear gr2
      have A2 := A1.belowS hb2
      have B2 := B1.belowS hb2
      try clear a0 a1 a2 a3 a4 b0 b1 b2 b3 b4
      obtain ⟨a0, a1, a2, a3, a4⟩ := blk5 A2
      obtain ⟨b0, b1, b2, b3, b4⟩ := blk5 B2
      clear A1 B1 hb2
      go_wp2_with fail
      refine (implEnds_any t a b c d _).mono ?_
      rw [E2.out]
      rintro e w3 ⟨rfl, gr3⟩
      have hb3 := gr3.below
      have gw3 := gw2.trans gr3
      clear gr3
      have A3 := A2.belowS hb3
      have B3 := B2.belowS hb3
      try clear a0 a1 a2 a3 a4 b0 b1 b2 b3 b4
      obtain ⟨a0, a1, a2, a3, a4⟩ := blk5 A3
      obtain ⟨b0, b1, b2, b3, b4⟩ := blk5 B3
      clear A2 B2 hb3
      go_wp2_with fail
      refine (compareX_any s t _).mono ?_
      rw [← HB.out]
      rintro e w' ⟨rfl, rfl⟩
      go_wp2_with fail
      go_ret
      exact ⟨rfl, gw3⟩
end Go.Proofs.YthcfjiapmigjiaaDoor
