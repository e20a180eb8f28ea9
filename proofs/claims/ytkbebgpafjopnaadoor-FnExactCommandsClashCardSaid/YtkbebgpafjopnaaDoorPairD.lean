/- Which commands clash, by both texts. -/
import Derived.Test.YtkbebgpafjopnaaDoorPairC
namespace Go.Proofs.YtkbebgpafjopnaaDoor
open Go.RowKit
set_option linter.unusedVariables false
set_option linter.unusedSimpArgs false
set_option maxRecDepth 20000


set_option maxHeartbeats 2000000 in
theorem specClash_any (s : ByteArray) (x y z u : Int) (t : ByteArray) (a b c d : Int) (w : World) (hs : s.size ≤ 1048576) (ht : t.size ≤ 1048576) :
    Calls Tryd.prog 57 #[.agg #[.string s, .int .i64 x, .int .i64 y, .int .i64 z, .int .i64 u], .agg #[.string t, .int .i64 a, .int .i64 b, .int .i64 c, .int .i64 d]] w fun e w' => e = .returned (.bool (clashR s.data.toList z u t.data.toList c d)) ∧ Below w.heap.size w w' := by
  obtain ⟨W0, hW0⟩ : ∃ W0, W0 = (w.alloc (.cells #[.string s, .int .i64 x, .int .i64 y, .int .i64 z, .int .i64 u] 41)).alloc (.cells #[.string t, .int .i64 a, .int .i64 b, .int .i64 c, .int .i64 d] 41) := ⟨_, rfl⟩
  have A0 : Blk W0 w.heap.size 41 #[.string s, .int .i64 x, .int .i64 y, .int .i64 z, .int .i64 u] := by rw [hW0]; exact (Blk.new _ _ _).alloc _
  have B0 : Blk W0 (w.heap.size + 1) 41 #[.string t, .int .i64 a, .int .i64 b, .int .i64 c, .int .i64 d] := by
    rw [hW0]
    have := Blk.new (w.alloc (.cells #[.string s, .int .i64 x, .int .i64 y, .int .i64 z, .int .i64 u] 41)) 41 #[.string t, .int .i64 a, .int .i64 b, .int .i64 c, .int .i64 d]
    rwa [World.size_alloc] at this
  have bw0 : Below w.heap.size w W0 := by rw [hW0]; exact below_alloc (below_alloc (Below.refl _ _) _) _
  obtain ⟨p1, hp1⟩ : ∃ p, stopR s.data.toList t.data.toList z c = p := ⟨_, rfl⟩
  obtain ⟨p2, hp2⟩ : ∃ p, stopR t.data.toList s.data.toList c z = p := ⟨_, rfl⟩
  have HR := Lib.hid (show clashR s.data.toList z u t.data.toList c d = (decide (s.data.toList = t.data.toList) && !decide (z = c ∧ u = d) || p1 || p2) by unfold clashR; rw [hp1, hp2])
  have HP1 := Lib.hid hp1
  have HP2 := Lib.hid hp2
  have HS := Lib.hid hs
  have HT := Lib.hid ht
  clear hp1 hp2 hs ht
  by_cases he : s.data.toList = t.data.toList
  · have hx : (s.toList == t.toList) = true := by rw [toList_is he, toList_is rfl]; simp
    by_cases hz : z = c
    · by_cases hu : u = d
      · have HR2 := Lib.hid (HR.out.trans (show _ = (p1 || p2) by rw [decide_eq_true (show z = c ∧ u = d from ⟨hz, hu⟩)]; simp))
        subst hz
        subst hu
        clear he
        cases p1 with
        | true =>
          go_enter Tryd.func57, Tryd.ntmps57
          go_wp2_with fail
          rw [← hW0]
          refine (specStop_any s x y z u t a b z u _ HS.out HT.out).mono ?_
          rw [HP1.out]
          rintro e w1 ⟨rfl, hb1⟩
          have bw1 := below_step bw0 hb1
          go_wp2_with fail
          go_ret
          exact ⟨ret_bool (by rw [HR2.out]; rfl), bw1⟩
        | false =>
          go_enter Tryd.func57, Tryd.ntmps57
          go_wp2_with fail
          rw [← hW0]
          clear hW0
          refine (specStop_any s x y z u t a b z u _ HS.out HT.out).mono ?_
          rw [HP1.out]
          rintro e w1 ⟨rfl, hb1⟩
          have bw1 := below_step bw0 hb1
          have A1 := A0.belowS hb1
          have B1 := B0.belowS hb1
          obtain ⟨a0, a1, a2, a3, a4⟩ := blk5 A1
          obtain ⟨b0, b1, b2, b3, b4⟩ := blk5 B1
          clear A0 B0 hb1
          go_wp2_with fail
          refine (specStop_any t a b z u s x y z u _ HT.out HS.out).mono ?_
          rw [HP2.out]
          rintro e w2 ⟨rfl, hb2⟩
          have bw2 := below_step bw1 hb2
          go_wp2_with fail
          go_ret
          exact ⟨ret_bool (by rw [HR2.out]; rfl), bw2⟩
      · have HR2 := Lib.hid (HR.out.trans (show _ = true by rw [decide_eq_true he, decide_eq_false (fun h => hu h.2)]; rfl))
        subst hz
        clear he
        go_enter Tryd.func57, Tryd.ntmps57
        go_wp2_with fail
        go_ret
        exact ⟨ret_bool HR2.out.symm, hW0 ▸ bw0⟩
    · have HR2 := Lib.hid (HR.out.trans (show _ = true by rw [decide_eq_true he, decide_eq_false (fun h => hz h.1)]; rfl))
      clear he
      go_enter Tryd.func57, Tryd.ntmps57
      go_wp2_with fail
      go_ret
      exact ⟨ret_bool HR2.out.symm, hW0 ▸ bw0⟩
  · have hx : (s.toList == t.toList) = false := by rw [toList_is rfl, toList_is (s := t) rfl]; simpa using he
    have HR2 := Lib.hid (HR.out.trans (show _ = (p1 || p2) by rw [decide_eq_false he]; rfl))
    clear he
    cases p1 with
    | true =>
      go_enter Tryd.func57, Tryd.ntmps57
      go_wp2_with fail
      rw [← hW0]
      refine (specStop_any s x y z u t a b c d _ HS.out HT.out).mono ?_
      rw [HP1.out]
      rintro e w1 ⟨rfl, hb1⟩
      have bw1 := below_step bw0 hb1
      go_wp2_with fail
      go_ret
      exact ⟨ret_bool (by rw [HR2.out]; rfl), bw1⟩
    | false =>
      go_enter Tryd.func57, Tryd.ntmps57
      go_wp2_with fail
      rw [← hW0]
      clear hW0
      refine (specStop_any s x y z u t a b c d _ HS.out HT.out).mono ?_
      rw [HP1.out]
      rintro e w1 ⟨rfl, hb1⟩
      have bw1 := below_step bw0 hb1
      have A1 := A0.belowS hb1
      have B1 := B0.belowS hb1
      obtain ⟨a0, a1, a2, a3, a4⟩ := blk5 A1
      obtain ⟨b0, b1, b2, b3, b4⟩ := blk5 B1
      clear A0 B0 hb1
      go_wp2_with fail
      refine (specStop_any t a b c d s x y z u _ HT.out HS.out).mono ?_
      rw [HP2.out]
      rintro e w2 ⟨rfl, hb2⟩
      have bw2 := below_step bw1 hb2
      go_wp2_with fail
      go_ret
      exact ⟨ret_bool (by rw [HR2.out]; rfl), bw2⟩

set_option maxHeartbeats 2000000 in
theorem implClash_any (s : ByteArray) (x y z u : Int) (t : ByteArray) (a b c d : Int) (w : World) (hs : pathB s.data.toList = true) (ht : pathB t.data.toList = true) :
    Calls Tryd.prog 58 #[.agg #[.string s, .int .i64 x, .int .i64 y, .int .i64 z, .int .i64 u], .agg #[.string t, .int .i64 a, .int .i64 b, .int .i64 c, .int .i64 d]] w fun e w' => e = .returned (.bool (clashR s.data.toList z u t.data.toList c d)) ∧ Below w.heap.size w w' := by
  obtain ⟨W0, hW0⟩ : ∃ W0, W0 = (w.alloc (.cells #[.string s, .int .i64 x, .int .i64 y, .int .i64 z, .int .i64 u] 41)).alloc (.cells #[.string t, .int .i64 a, .int .i64 b, .int .i64 c, .int .i64 d] 41) := ⟨_, rfl⟩
  have A0 : Blk W0 w.heap.size 41 #[.string s, .int .i64 x, .int .i64 y, .int .i64 z, .int .i64 u] := by rw [hW0]; exact (Blk.new _ _ _).alloc _
  have B0 : Blk W0 (w.heap.size + 1) 41 #[.string t, .int .i64 a, .int .i64 b, .int .i64 c, .int .i64 d] := by
    rw [hW0]
    have := Blk.new (w.alloc (.cells #[.string s, .int .i64 x, .int .i64 y, .int .i64 z, .int .i64 u] 41)) 41 #[.string t, .int .i64 a, .int .i64 b, .int .i64 c, .int .i64 d]
    rwa [World.size_alloc] at this
  have bw0 : Below w.heap.size w W0 := by rw [hW0]; exact below_alloc (below_alloc (Below.refl _ _) _) _
  obtain ⟨p1, hp1⟩ : ∃ p, stopR s.data.toList t.data.toList z c = p := ⟨_, rfl⟩
  obtain ⟨p2, hp2⟩ : ∃ p, stopR t.data.toList s.data.toList c z = p := ⟨_, rfl⟩
  have HR := Lib.hid (show clashR s.data.toList z u t.data.toList c d = (decide (s.data.toList = t.data.toList) && !decide (z = c ∧ u = d) || p1 || p2) by unfold clashR; rw [hp1, hp2])
  have HP1 := Lib.hid hp1
  have HP2 := Lib.hid hp2
  have HS := Lib.hid hs
  have HT := Lib.hid ht
  clear hp1 hp2 hs ht
  by_cases he : s.data.toList = t.data.toList
  · have hx : (s.toList == t.toList) = true := by rw [toList_is he, toList_is rfl]; simp
    by_cases hz : z = c
    · by_cases hu : u = d
      · have HR2 := Lib.hid (HR.out.trans (show _ = (p1 || p2) by rw [decide_eq_true (show z = c ∧ u = d from ⟨hz, hu⟩)]; simp))
        subst hz
        subst hu
        clear he
        cases p1 with
        | true =>
          go_enter Tryd.func58, Tryd.ntmps58
          go_wp2_with fail
          rw [← hW0]
          refine (implStop_any s x y z u t a b z u _ HS.out HT.out).mono ?_
          rw [HP1.out]
          rintro e w1 ⟨rfl, hb1⟩
          have bw1 := below_step bw0 hb1
          go_wp2_with fail
          go_ret
          exact ⟨ret_bool (by rw [HR2.out]; rfl), bw1⟩
        | false =>
          go_enter Tryd.func58, Tryd.ntmps58
          go_wp2_with fail
          rw [← hW0]
          clear hW0
          refine (implStop_any s x y z u t a b z u _ HS.out HT.out).mono ?_
          rw [HP1.out]
          rintro e w1 ⟨rfl, hb1⟩
          have bw1 := below_step bw0 hb1
          have A1 := A0.belowS hb1
          have B1 := B0.belowS hb1
          obtain ⟨a0, a1, a2, a3, a4⟩ := blk5 A1
          obtain ⟨b0, b1, b2, b3, b4⟩ := blk5 B1
          clear A0 B0 hb1
          go_wp2_with fail
          refine (implStop_any t a b z u s x y z u _ HT.out HS.out).mono ?_
          rw [HP2.out]
          rintro e w2 ⟨rfl, hb2⟩
          have bw2 := below_step bw1 hb2
          go_wp2_with fail
          go_ret
          exact ⟨ret_bool (by rw [HR2.out]; rfl), bw2⟩
      · have HR2 := Lib.hid (HR.out.trans (show _ = true by rw [decide_eq_true he, decide_eq_false (fun h => hu h.2)]; rfl))
        subst hz
        clear he
        go_enter Tryd.func58, Tryd.ntmps58
        go_wp2_with fail
        go_ret
        exact ⟨ret_bool HR2.out.symm, hW0 ▸ bw0⟩
    · have HR2 := Lib.hid (HR.out.trans (show _ = true by rw [decide_eq_true he, decide_eq_false (fun h => hz h.1)]; rfl))
      clear he
      go_enter Tryd.func58, Tryd.ntmps58
      go_wp2_with fail
      go_ret
      exact ⟨ret_bool HR2.out.symm, hW0 ▸ bw0⟩
  · have hx : (s.toList == t.toList) = false := by rw [toList_is rfl, toList_is (s := t) rfl]; simpa using he
    have HR2 := Lib.hid (HR.out.trans (show _ = (p1 || p2) by rw [decide_eq_false he]; rfl))
    clear he
    cases p1 with
    | true =>
      go_enter Tryd.func58, Tryd.ntmps58
      go_wp2_with fail
      rw [← hW0]
      refine (implStop_any s x y z u t a b c d _ HS.out HT.out).mono ?_
      rw [HP1.out]
      rintro e w1 ⟨rfl, hb1⟩
      have bw1 := below_step bw0 hb1
      go_wp2_with fail
      go_ret
      exact ⟨ret_bool (by rw [HR2.out]; rfl), bw1⟩
    | false =>
      go_enter Tryd.func58, Tryd.ntmps58
      go_wp2_with fail
      rw [← hW0]
      clear hW0
      refine (implStop_any s x y z u t a b c d _ HS.out HT.out).mono ?_
      rw [HP1.out]
      rintro e w1 ⟨rfl, hb1⟩
      have bw1 := below_step bw0 hb1
      have A1 := A0.belowS hb1
      have B1 := B0.belowS hb1
      obtain ⟨a0, a1, a2, a3, a4⟩ := blk5 A1
      obtain ⟨b0, b1, b2, b3, b4⟩ := blk5 B1
      clear A0 B0 hb1
      go_wp2_with fail
      refine (implStop_any t a b c d s x y z u _ HT.out HS.out).mono ?_
      rw [HP2.out]
      rintro e w2 ⟨rfl, hb2⟩
      have bw2 := below_step bw1 hb2
      go_wp2_with fail
      go_ret
      exact ⟨ret_bool (by rw [HR2.out]; rfl), bw2⟩
end Go.Proofs.YtkbebgpafjopnaaDoor
