/- The walks of the laws on two commands. -/
import Derived.Test.YtkbebgpafjopnaaDoorPairD
import Derived.Deep.RegionHeld3
import Derived.Deep.RegionWith
namespace Go.Proofs.YtkbebgpafjopnaaDoor
open Go.RowKit
set_option linter.unusedVariables false
set_option linter.unusedSimpArgs false
set_option maxRecDepth 20000

set_option maxHeartbeats 2000000 in
theorem specMustPrecede_any (s : ByteArray) (x y z u : Int) (t : ByteArray) (a b c d : Int) (w : World) (hs : s.size ≤ 1048576) (ht : t.size ≤ 1048576) :
    Calls Tryd.prog 23 #[.agg #[.string s, .int .i64 x, .int .i64 y, .int .i64 z, .int .i64 u], .agg #[.string t, .int .i64 a, .int .i64 b, .int .i64 c, .int .i64 d]] w fun e w' => e = .returned (.bool (okK s.data.toList x y z u && okK t.data.toList a b c d && mustR s.data.toList t.data.toList z a)) ∧ Below w.heap.size w w' := by
  obtain ⟨W0, hW0⟩ : ∃ W0, W0 = (w.alloc (.cells #[.string s, .int .i64 x, .int .i64 y, .int .i64 z, .int .i64 u] 41)).alloc (.cells #[.string t, .int .i64 a, .int .i64 b, .int .i64 c, .int .i64 d] 41) := ⟨_, rfl⟩
  have A0 : Blk W0 w.heap.size 41 #[.string s, .int .i64 x, .int .i64 y, .int .i64 z, .int .i64 u] := by rw [hW0]; exact (Blk.new _ _ _).alloc _
  have B0 : Blk W0 (w.heap.size + 1) 41 #[.string t, .int .i64 a, .int .i64 b, .int .i64 c, .int .i64 d] := by
    rw [hW0]
    have := Blk.new (w.alloc (.cells #[.string s, .int .i64 x, .int .i64 y, .int .i64 z, .int .i64 u] 41)) 41 #[.string t, .int .i64 a, .int .i64 b, .int .i64 c, .int .i64 d]
    rwa [World.size_alloc] at this
  have bw0 : Below w.heap.size w W0 := by rw [hW0]; exact below_alloc (below_alloc (Below.refl _ _) _) _
  have HSZ := Lib.hid (And.intro hs ht)
  obtain ⟨r, hr⟩ : ∃ r, mustR s.data.toList t.data.toList z a = r := ⟨_, rfl⟩
  have HR := Lib.hid hr
  rw [hr]
  clear hr
  cases h1 : okK s.data.toList x y z u with
  | false =>
    have H1 := Lib.hid h1
    clear h1
    go_enter Tryd.func23, Tryd.ntmps23
    go_wp2_with fail
    rw [← hW0]
    clear hW0
    refine (specCommandValid_any s x y z u _ hs).mono ?_
    rw [H1.out]
    rintro e w1 ⟨rfl, hb1⟩
    have bw1 := below_step bw0 hb1
    go_wp2_with fail
    go_ret
    exact ⟨rfl, bw1⟩
  | true =>
    have H1 := Lib.hid h1
    clear h1
    go_enter Tryd.func23, Tryd.ntmps23
    go_wp2_with fail
    rw [← hW0]
    clear hW0
    refine (specCommandValid_any s x y z u _ hs).mono ?_
    rw [H1.out]
    rintro e w1 ⟨rfl, hb1⟩
    have bw1 := below_step bw0 hb1
    have A1 := A0.belowS hb1
    have B1 := B0.belowS hb1
    obtain ⟨b0, b1, b2, b3, b4⟩ := blk5 B1
    clear A0 B0 hb1
    cases h2 : okK t.data.toList a b c d with
    | false =>
      have H2 := Lib.hid h2
      clear h2
      go_wp2_with fail
      refine (specCommandValid_any t a b c d _ ht).mono ?_
      rw [H2.out]
      rintro e w2 ⟨rfl, hb2⟩
      have bw2 := below_step bw1 hb2
      go_wp2_with fail
      go_ret
      exact ⟨ret_bool (by rw [H2.out]; rfl), bw2⟩
    | true =>
      have H2 := Lib.hid h2
      clear h2
      go_wp2_with fail
      refine (specCommandValid_any t a b c d _ ht).mono ?_
      rw [H2.out]
      rintro e w2 ⟨rfl, hb2⟩
      have bw2 := below_step bw1 hb2
      have A2 := A1.belowS hb2
      have B2 := B1.belowS hb2
      clear b0 b1 b2 b3 b4
      obtain ⟨a0, a1, a2, a3, a4⟩ := blk5 A2
      obtain ⟨b0, b1, b2, b3, b4⟩ := blk5 B2
      clear A1 B1 hb2
      go_wp2_with fail
      refine (specMust_any s x y z u t a b c d _ HSZ.out.1 HSZ.out.2).mono ?_
      rw [HR.out]
      rintro e w3 ⟨rfl, hb3⟩
      have bw3 := below_step bw2 hb3
      go_wp2_with fail
      go_ret
      exact ⟨ret_bool (by rw [H2.out]; cases r <;> rfl), bw3⟩

set_option maxHeartbeats 2000000 in
theorem implMustPrecede_any (s : ByteArray) (x y z u : Int) (t : ByteArray) (a b c d : Int) (w : World) (hs : s.size ≤ 1048576) (ht : t.size ≤ 1048576) (hm : MaxAt w) :
    Calls Tryd.prog 25 #[.agg #[.string s, .int .i64 x, .int .i64 y, .int .i64 z, .int .i64 u], .agg #[.string t, .int .i64 a, .int .i64 b, .int .i64 c, .int .i64 d]] w fun e w' => e = .returned (.bool (okK s.data.toList x y z u && okK t.data.toList a b c d && mustR s.data.toList t.data.toList z a)) ∧ Below w.heap.size w w' := by
  obtain ⟨W0, hW0⟩ : ∃ W0, W0 = (w.alloc (.cells #[.string s, .int .i64 x, .int .i64 y, .int .i64 z, .int .i64 u] 41)).alloc (.cells #[.string t, .int .i64 a, .int .i64 b, .int .i64 c, .int .i64 d] 41) := ⟨_, rfl⟩
  have A0 : Blk W0 w.heap.size 41 #[.string s, .int .i64 x, .int .i64 y, .int .i64 z, .int .i64 u] := by rw [hW0]; exact (Blk.new _ _ _).alloc _
  have B0 : Blk W0 (w.heap.size + 1) 41 #[.string t, .int .i64 a, .int .i64 b, .int .i64 c, .int .i64 d] := by
    rw [hW0]
    have := Blk.new (w.alloc (.cells #[.string s, .int .i64 x, .int .i64 y, .int .i64 z, .int .i64 u] 41)) 41 #[.string t, .int .i64 a, .int .i64 b, .int .i64 c, .int .i64 d]
    rwa [World.size_alloc] at this
  have bw0 : Below w.heap.size w W0 := by rw [hW0]; exact below_alloc (below_alloc (Below.refl _ _) _) _
  have HM0 := Lib.hid ((hm.belowS ((Below.refl w.heap.size w).alloc (Nat.le_refl _) (.cells #[.string s, .int .i64 x, .int .i64 y, .int .i64 z, .int .i64 u] 41))).belowS ((Below.refl _ _).alloc (Nat.le_refl _) (.cells #[.string t, .int .i64 a, .int .i64 b, .int .i64 c, .int .i64 d] 41)))
  rw [← hW0] at HM0
  clear hm
  have HSZ := Lib.hid (And.intro hs ht)
  obtain ⟨r, hr⟩ : ∃ r, mustR s.data.toList t.data.toList z a = r := ⟨_, rfl⟩
  have HR := Lib.hid hr
  rw [hr]
  clear hr
  cases h1 : okK s.data.toList x y z u with
  | false =>
    have H1 := Lib.hid h1
    clear h1
    go_enter Tryd.func25, Tryd.ntmps25
    go_wp2_with fail
    rw [← hW0]
    clear hW0
    refine (implCommandValid_any s x y z u _ hs HM0.out).mono ?_
    rw [H1.out]
    rintro e w1 ⟨rfl, hb1⟩
    have bw1 := below_step bw0 hb1
    go_wp2_with fail
    go_ret
    exact ⟨rfl, bw1⟩
  | true =>
    have H1 := Lib.hid h1
    clear h1
    go_enter Tryd.func25, Tryd.ntmps25
    go_wp2_with fail
    rw [← hW0]
    clear hW0
    refine (implCommandValid_any s x y z u _ hs HM0.out).mono ?_
    rw [H1.out]
    rintro e w1 ⟨rfl, hb1⟩
    have HM1 := Lib.hid (HM0.out.belowS hb1)
    have bw1 := below_step bw0 hb1
    have A1 := A0.belowS hb1
    have B1 := B0.belowS hb1
    obtain ⟨b0, b1, b2, b3, b4⟩ := blk5 B1
    clear A0 B0 hb1
    cases h2 : okK t.data.toList a b c d with
    | false =>
      have H2 := Lib.hid h2
      clear h2
      go_wp2_with fail
      refine (implCommandValid_any t a b c d _ ht HM1.out).mono ?_
      rw [H2.out]
      rintro e w2 ⟨rfl, hb2⟩
      have bw2 := below_step bw1 hb2
      go_wp2_with fail
      go_ret
      exact ⟨ret_bool (by rw [H2.out]; rfl), bw2⟩
    | true =>
      have H2 := Lib.hid h2
      clear h2
      go_wp2_with fail
      refine (implCommandValid_any t a b c d _ ht HM1.out).mono ?_
      rw [H2.out]
      rintro e w2 ⟨rfl, hb2⟩
      have bw2 := below_step bw1 hb2
      have A2 := A1.belowS hb2
      have B2 := B1.belowS hb2
      clear b0 b1 b2 b3 b4
      obtain ⟨a0, a1, a2, a3, a4⟩ := blk5 A2
      obtain ⟨b0, b1, b2, b3, b4⟩ := blk5 B2
      clear A1 B1 hb2
      go_wp2_with fail
      refine (implMust_any s x y z u t a b c d _ (okK_path' H1.out) (okK_path' H2.out)).mono ?_
      rw [HR.out]
      rintro e w3 ⟨rfl, hb3⟩
      have bw3 := below_step bw2 hb3
      go_wp2_with fail
      go_ret
      exact ⟨ret_bool (by rw [H2.out]; cases r <;> rfl), bw3⟩

set_option maxHeartbeats 2000000 in
theorem walk_FnExactMustPrecede (s : ByteArray) (x y z u : Int) (ws : s.size ≤ maxLen) (wx : (Lit.int .i64 x).wf = true) (wy : (Lit.int .i64 y).wf = true) (wz : (Lit.int .i64 z).wf = true) (wu : (Lit.int .i64 u).wf = true) (t : ByteArray) (a b c d : Int) (wt : t.size ≤ maxLen) (wa : (Lit.int .i64 a).wf = true) (wb : (Lit.int .i64 b).wf = true) (wc : (Lit.int .i64 c).wf = true) (wd : (Lit.int .i64 d).wf = true) (w : World) (hm : MaxAt w) :
    Calls Tryd.prog 5 #[.agg #[.string s, .int .i64 x, .int .i64 y, .int .i64 z, .int .i64 u], .agg #[.string t, .int .i64 a, .int .i64 b, .int .i64 c, .int .i64 d]] w fun e w' => e = .returned (.bool true) ∧ Below w.heap.size w w' := by
  clear wx wy wz wu wa wb wc wd
  obtain ⟨W0, hW0⟩ : ∃ W0, W0 = (w.alloc (.cells #[.string s, .int .i64 x, .int .i64 y, .int .i64 z, .int .i64 u] 36)).alloc (.cells #[.string t, .int .i64 a, .int .i64 b, .int .i64 c, .int .i64 d] 36) := ⟨_, rfl⟩
  have A0 : Blk W0 w.heap.size 36 #[.string s, .int .i64 x, .int .i64 y, .int .i64 z, .int .i64 u] := by rw [hW0]; exact (Blk.new _ _ _).alloc _
  have B0 : Blk W0 (w.heap.size + 1) 36 #[.string t, .int .i64 a, .int .i64 b, .int .i64 c, .int .i64 d] := by
    rw [hW0]
    have := Blk.new (w.alloc (.cells #[.string s, .int .i64 x, .int .i64 y, .int .i64 z, .int .i64 u] 36)) 36 #[.string t, .int .i64 a, .int .i64 b, .int .i64 c, .int .i64 d]
    rwa [World.size_alloc] at this
  have bw0 : Below w.heap.size w W0 := by rw [hW0]; exact below_alloc (below_alloc (Below.refl _ _) _) _
  have HM0 := Lib.hid ((hm.belowS ((Below.refl w.heap.size w).alloc (Nat.le_refl _) (.cells #[.string s, .int .i64 x, .int .i64 y, .int .i64 z, .int .i64 u] 36))).belowS ((Below.refl _ _).alloc (Nat.le_refl _) (.cells #[.string t, .int .i64 a, .int .i64 b, .int .i64 c, .int .i64 d] 36)))
  rw [← hW0] at HM0
  clear hm
  by_cases hbig : 1048576 < s.size
  · have HS := Lib.hid (show szL s.size 1048576 = -1 from if_pos (by omega))
    go_enter Tryd.func5, Tryd.ntmps5
    go_wp2_with fail
    rw [← hW0]
    clear hW0
    refine (szCommand_any s x y z u 1048576 _ ws (by omega) (by omega)).mono ?_
    rw [HS.out]
    rintro e w1 ⟨rfl, hb1⟩
    have bw1 := below_step bw0 hb1
    go_wp2_with fail
    go_ret
    exact ⟨rfl, bw1⟩
  have HS := Lib.hid (show szL s.size 1048576 = 1048576 - s.size from if_neg (by omega))
  have hs : s.size ≤ 1048576 := by omega
  have hd1 : decide ((1048576 : Int) - (s.size : Int) < 0) = false := decide_eq_false (by omega)
  clear hbig
  go_enter Tryd.func5, Tryd.ntmps5
  go_wp2_with fail
  rw [← hW0]
  clear hW0
  refine (szCommand_any s x y z u 1048576 _ ws (by omega) (by omega)).mono ?_
  rw [HS.out]
  rintro e w1 ⟨rfl, hb1⟩
  have A1 := A0.belowS hb1
  have B1 := B0.belowS hb1
  have HM1 := Lib.hid (HM0.out.belowS hb1)
  have bw1 := below_step bw0 hb1
  try clear a0 a1 a2 a3 a4 b0 b1 b2 b3 b4
  obtain ⟨a0, a1, a2, a3, a4⟩ := blk5 A1
  obtain ⟨b0, b1, b2, b3, b4⟩ := blk5 B1
  clear A0 B0 hb1 HM0
  by_cases hbig : ((1048576 : Int) - (s.size : Int)) < (t.size : Int)
  · have HT := Lib.hid (show szL t.size ((1048576 : Int) - (s.size : Int)) = -1 from if_pos hbig)
    go_wp2_with fail
    refine (szCommand_any t a b c d ((1048576 : Int) - (s.size : Int)) _ wt (by omega) (by omega)).mono ?_
    rw [HT.out]
    rintro e w2 ⟨rfl, hb2⟩
    have bw2 := below_step bw1 hb2
    go_wp2_with fail
    go_ret
    exact ⟨rfl, bw2⟩
  have HT := Lib.hid (show szL t.size ((1048576 : Int) - (s.size : Int)) = 1048576 - s.size - t.size from if_neg hbig)
  have ht : t.size ≤ 1048576 := by omega
  have hd2 : decide ((1048576 : Int) - (s.size : Int) - (t.size : Int) < 0) = false := decide_eq_false (by omega)
  clear hbig
  go_wp2_with fail
  refine (szCommand_any t a b c d ((1048576 : Int) - (s.size : Int)) _ wt (by omega) (by omega)).mono ?_
  rw [HT.out]
  rintro e w2 ⟨rfl, hb2⟩
  have A2 := A1.belowS hb2
  have B2 := B1.belowS hb2
  have HM2 := Lib.hid (HM1.out.belowS hb2)
  have bw2 := below_step bw1 hb2
  try clear a0 a1 a2 a3 a4 b0 b1 b2 b3 b4
  obtain ⟨a0, a1, a2, a3, a4⟩ := blk5 A2
  obtain ⟨b0, b1, b2, b3, b4⟩ := blk5 B2
  clear A1 B1 hb2 HM1
  obtain ⟨k, hk⟩ : ∃ k, (okK s.data.toList x y z u && okK t.data.toList a b c d && mustR s.data.toList t.data.toList z a) = k := ⟨_, rfl⟩
  have HK := Lib.hid hk
  clear hk
  go_wp2_with fail
  go_region_held3 (fun w' => w'.cell? ⟨w.heap.size, 0, none⟩ = some (.string s) ∧ w'.cell? ⟨w.heap.size, 1, none⟩ = some (.int .i64 x) ∧ w'.cell? ⟨w.heap.size, 2, none⟩ = some (.int .i64 y) ∧ w'.cell? ⟨w.heap.size, 3, none⟩ = some (.int .i64 z) ∧ w'.cell? ⟨w.heap.size, 4, none⟩ = some (.int .i64 u) ∧ w'.cell? ⟨w.heap.size + 1, 0, none⟩ = some (.string t) ∧ w'.cell? ⟨w.heap.size + 1, 1, none⟩ = some (.int .i64 a) ∧ w'.cell? ⟨w.heap.size + 1, 2, none⟩ = some (.int .i64 b) ∧ w'.cell? ⟨w.heap.size + 1, 3, none⟩ = some (.int .i64 c) ∧ w'.cell? ⟨w.heap.size + 1, 4, none⟩ = some (.int .i64 d) ∧ Below w.heap.size w w')
    ((refine ⟨?_, ?_, ?_, ?_, ?_, ?_, ?_, ?_, ?_, ?_, ?_⟩ <;> repeat (first | assumption | exact bw2.drew | refine cell_later (by assumption) ?_ | refine below_step2 (by assumption) ?_)))
    (first
      | (go_at_call_of 24 (Value.agg #[Value.string s, Value.int IntKind.i64 x, Value.int IntKind.i64 y, Value.int IntKind.i64 z, Value.int IntKind.i64 u]); refine (toCommand_any s x y z u _).mono ?_; rintro e w3 ⟨rfl, hb3⟩)
      | (go_at_call_of 24 (Value.agg #[Value.string t, Value.int IntKind.i64 a, Value.int IntKind.i64 b, Value.int IntKind.i64 c, Value.int IntKind.i64 d]); refine (toCommand_any t a b c d _).mono ?_; rintro e w4 ⟨rfl, hb4⟩)
      | (go_at_call 23; refine (specMustPrecede_any s x y z u t a b c d _ hs ht).mono ?_; rw [HK.out]; rintro e w5 ⟨rfl, hb5⟩))
  have hb25 := below_step (below_step (below_step ((Below.refl w2.heap.size w2).drew) hb3) hb4) hb5
  have A5 := A2.belowS hb25
  have B5 := B2.belowS hb25
  have HM5 := Lib.hid (HM2.out.belowS hb25)
  have bw5 := below_step bw2 hb25
  clear a0 a1 a2 a3 a4 b0 b1 b2 b3 b4
  obtain ⟨a0, a1, a2, a3, a4⟩ := blk5 A5
  obtain ⟨b0, b1, b2, b3, b4⟩ := blk5 B5
  clear A2 B2 HM2 hb25 hb3 hb4 hb5
  go_wp2_with fail
  go_region_held3 (fun w' => w'.cell? ⟨w.heap.size, 0, none⟩ = some (.string s) ∧ w'.cell? ⟨w.heap.size, 1, none⟩ = some (.int .i64 x) ∧ w'.cell? ⟨w.heap.size, 2, none⟩ = some (.int .i64 y) ∧ w'.cell? ⟨w.heap.size, 3, none⟩ = some (.int .i64 z) ∧ w'.cell? ⟨w.heap.size, 4, none⟩ = some (.int .i64 u) ∧ w'.cell? ⟨w.heap.size + 1, 0, none⟩ = some (.string t) ∧ w'.cell? ⟨w.heap.size + 1, 1, none⟩ = some (.int .i64 a) ∧ w'.cell? ⟨w.heap.size + 1, 2, none⟩ = some (.int .i64 b) ∧ w'.cell? ⟨w.heap.size + 1, 3, none⟩ = some (.int .i64 c) ∧ w'.cell? ⟨w.heap.size + 1, 4, none⟩ = some (.int .i64 d) ∧ Below w.heap.size w w')
    ((refine ⟨?_, ?_, ?_, ?_, ?_, ?_, ?_, ?_, ?_, ?_, ?_⟩ <;> repeat (first | assumption | exact bw5.drew | refine cell_later (by assumption) ?_ | refine below_step2 (by assumption) ?_)))
    (first
      | (go_at_call_of 24 (Value.agg #[Value.string s, Value.int IntKind.i64 x, Value.int IntKind.i64 y, Value.int IntKind.i64 z, Value.int IntKind.i64 u]); refine (toCommand_any s x y z u _).mono ?_; rintro e w6 ⟨rfl, hb6⟩)
      | (go_at_call_of 24 (Value.agg #[Value.string t, Value.int IntKind.i64 a, Value.int IntKind.i64 b, Value.int IntKind.i64 c, Value.int IntKind.i64 d]); refine (toCommand_any t a b c d _).mono ?_; rintro e w7 ⟨rfl, hb7⟩)
      | (go_at_call 25; refine (implMustPrecede_any s x y z u t a b c d _ hs ht (((HM5.out.belowS ((Below.refl w5.heap.size w5).drew)).belowS hb6).belowS hb7)).mono ?_; rw [HK.out]; rintro e w8 ⟨rfl, hb8⟩))
  have bw8 := below_step (below_step (below_step (bw5.drew) hb6) hb7) hb8
  have hkk : (k != k) = false := by simp
  go_wp2_with fail
  go_ret
  exact ⟨rfl, bw8⟩

set_option maxHeartbeats 2000000 in
theorem specCommandsClash_any (s : ByteArray) (x y z u : Int) (t : ByteArray) (a b c d : Int) (w : World) (hs : s.size ≤ 1048576) (ht : t.size ≤ 1048576) :
    Calls Tryd.prog 26 #[.agg #[.string s, .int .i64 x, .int .i64 y, .int .i64 z, .int .i64 u], .agg #[.string t, .int .i64 a, .int .i64 b, .int .i64 c, .int .i64 d]] w fun e w' => e = .returned (.bool (okK s.data.toList x y z u && okK t.data.toList a b c d && clashR s.data.toList z u t.data.toList c d)) ∧ Below w.heap.size w w' := by
  obtain ⟨W0, hW0⟩ : ∃ W0, W0 = (w.alloc (.cells #[.string s, .int .i64 x, .int .i64 y, .int .i64 z, .int .i64 u] 41)).alloc (.cells #[.string t, .int .i64 a, .int .i64 b, .int .i64 c, .int .i64 d] 41) := ⟨_, rfl⟩
  have A0 : Blk W0 w.heap.size 41 #[.string s, .int .i64 x, .int .i64 y, .int .i64 z, .int .i64 u] := by rw [hW0]; exact (Blk.new _ _ _).alloc _
  have B0 : Blk W0 (w.heap.size + 1) 41 #[.string t, .int .i64 a, .int .i64 b, .int .i64 c, .int .i64 d] := by
    rw [hW0]
    have := Blk.new (w.alloc (.cells #[.string s, .int .i64 x, .int .i64 y, .int .i64 z, .int .i64 u] 41)) 41 #[.string t, .int .i64 a, .int .i64 b, .int .i64 c, .int .i64 d]
    rwa [World.size_alloc] at this
  have bw0 : Below w.heap.size w W0 := by rw [hW0]; exact below_alloc (below_alloc (Below.refl _ _) _) _
  have HSZ := Lib.hid (And.intro hs ht)
  obtain ⟨r, hr⟩ : ∃ r, clashR s.data.toList z u t.data.toList c d = r := ⟨_, rfl⟩
  have HR := Lib.hid hr
  rw [hr]
  clear hr
  cases h1 : okK s.data.toList x y z u with
  | false =>
    have H1 := Lib.hid h1
    clear h1
    go_enter Tryd.func26, Tryd.ntmps26
    go_wp2_with fail
    rw [← hW0]
    clear hW0
    refine (specCommandValid_any s x y z u _ hs).mono ?_
    rw [H1.out]
    rintro e w1 ⟨rfl, hb1⟩
    have bw1 := below_step bw0 hb1
    go_wp2_with fail
    go_ret
    exact ⟨rfl, bw1⟩
  | true =>
    have H1 := Lib.hid h1
    clear h1
    go_enter Tryd.func26, Tryd.ntmps26
    go_wp2_with fail
    rw [← hW0]
    clear hW0
    refine (specCommandValid_any s x y z u _ hs).mono ?_
    rw [H1.out]
    rintro e w1 ⟨rfl, hb1⟩
    have bw1 := below_step bw0 hb1
    have A1 := A0.belowS hb1
    have B1 := B0.belowS hb1
    obtain ⟨b0, b1, b2, b3, b4⟩ := blk5 B1
    clear A0 B0 hb1
    cases h2 : okK t.data.toList a b c d with
    | false =>
      have H2 := Lib.hid h2
      clear h2
      go_wp2_with fail
      refine (specCommandValid_any t a b c d _ ht).mono ?_
      rw [H2.out]
      rintro e w2 ⟨rfl, hb2⟩
      have bw2 := below_step bw1 hb2
      go_wp2_with fail
      go_ret
      exact ⟨ret_bool (by rw [H2.out]; rfl), bw2⟩
    | true =>
      have H2 := Lib.hid h2
      clear h2
      go_wp2_with fail
      refine (specCommandValid_any t a b c d _ ht).mono ?_
      rw [H2.out]
      rintro e w2 ⟨rfl, hb2⟩
      have bw2 := below_step bw1 hb2
      have A2 := A1.belowS hb2
      have B2 := B1.belowS hb2
      clear b0 b1 b2 b3 b4
      obtain ⟨a0, a1, a2, a3, a4⟩ := blk5 A2
      obtain ⟨b0, b1, b2, b3, b4⟩ := blk5 B2
      clear A1 B1 hb2
      go_wp2_with fail
      refine (specClash_any s x y z u t a b c d _ HSZ.out.1 HSZ.out.2).mono ?_
      rw [HR.out]
      rintro e w3 ⟨rfl, hb3⟩
      have bw3 := below_step bw2 hb3
      go_wp2_with fail
      go_ret
      exact ⟨ret_bool (by rw [H2.out]; cases r <;> rfl), bw3⟩

set_option maxHeartbeats 2000000 in
theorem implCommandsClash_any (s : ByteArray) (x y z u : Int) (t : ByteArray) (a b c d : Int) (w : World) (hs : s.size ≤ 1048576) (ht : t.size ≤ 1048576) (hm : MaxAt w) :
    Calls Tryd.prog 27 #[.agg #[.string s, .int .i64 x, .int .i64 y, .int .i64 z, .int .i64 u], .agg #[.string t, .int .i64 a, .int .i64 b, .int .i64 c, .int .i64 d]] w fun e w' => e = .returned (.bool (okK s.data.toList x y z u && okK t.data.toList a b c d && clashR s.data.toList z u t.data.toList c d)) ∧ Below w.heap.size w w' := by
  obtain ⟨W0, hW0⟩ : ∃ W0, W0 = (w.alloc (.cells #[.string s, .int .i64 x, .int .i64 y, .int .i64 z, .int .i64 u] 41)).alloc (.cells #[.string t, .int .i64 a, .int .i64 b, .int .i64 c, .int .i64 d] 41) := ⟨_, rfl⟩
  have A0 : Blk W0 w.heap.size 41 #[.string s, .int .i64 x, .int .i64 y, .int .i64 z, .int .i64 u] := by rw [hW0]; exact (Blk.new _ _ _).alloc _
  have B0 : Blk W0 (w.heap.size + 1) 41 #[.string t, .int .i64 a, .int .i64 b, .int .i64 c, .int .i64 d] := by
    rw [hW0]
    have := Blk.new (w.alloc (.cells #[.string s, .int .i64 x, .int .i64 y, .int .i64 z, .int .i64 u] 41)) 41 #[.string t, .int .i64 a, .int .i64 b, .int .i64 c, .int .i64 d]
    rwa [World.size_alloc] at this
  have bw0 : Below w.heap.size w W0 := by rw [hW0]; exact below_alloc (below_alloc (Below.refl _ _) _) _
  have HM0 := Lib.hid ((hm.belowS ((Below.refl w.heap.size w).alloc (Nat.le_refl _) (.cells #[.string s, .int .i64 x, .int .i64 y, .int .i64 z, .int .i64 u] 41))).belowS ((Below.refl _ _).alloc (Nat.le_refl _) (.cells #[.string t, .int .i64 a, .int .i64 b, .int .i64 c, .int .i64 d] 41)))
  rw [← hW0] at HM0
  clear hm
  have HSZ := Lib.hid (And.intro hs ht)
  obtain ⟨r, hr⟩ : ∃ r, clashR s.data.toList z u t.data.toList c d = r := ⟨_, rfl⟩
  have HR := Lib.hid hr
  rw [hr]
  clear hr
  cases h1 : okK s.data.toList x y z u with
  | false =>
    have H1 := Lib.hid h1
    clear h1
    go_enter Tryd.func27, Tryd.ntmps27
    go_wp2_with fail
    rw [← hW0]
    clear hW0
    refine (implCommandValid_any s x y z u _ hs HM0.out).mono ?_
    rw [H1.out]
    rintro e w1 ⟨rfl, hb1⟩
    have bw1 := below_step bw0 hb1
    go_wp2_with fail
    go_ret
    exact ⟨rfl, bw1⟩
  | true =>
    have H1 := Lib.hid h1
    clear h1
    go_enter Tryd.func27, Tryd.ntmps27
    go_wp2_with fail
    rw [← hW0]
    clear hW0
    refine (implCommandValid_any s x y z u _ hs HM0.out).mono ?_
    rw [H1.out]
    rintro e w1 ⟨rfl, hb1⟩
    have HM1 := Lib.hid (HM0.out.belowS hb1)
    have bw1 := below_step bw0 hb1
    have A1 := A0.belowS hb1
    have B1 := B0.belowS hb1
    obtain ⟨b0, b1, b2, b3, b4⟩ := blk5 B1
    clear A0 B0 hb1
    cases h2 : okK t.data.toList a b c d with
    | false =>
      have H2 := Lib.hid h2
      clear h2
      go_wp2_with fail
      refine (implCommandValid_any t a b c d _ ht HM1.out).mono ?_
      rw [H2.out]
      rintro e w2 ⟨rfl, hb2⟩
      have bw2 := below_step bw1 hb2
      go_wp2_with fail
      go_ret
      exact ⟨ret_bool (by rw [H2.out]; rfl), bw2⟩
    | true =>
      have H2 := Lib.hid h2
      clear h2
      go_wp2_with fail
      refine (implCommandValid_any t a b c d _ ht HM1.out).mono ?_
      rw [H2.out]
      rintro e w2 ⟨rfl, hb2⟩
      have bw2 := below_step bw1 hb2
      have A2 := A1.belowS hb2
      have B2 := B1.belowS hb2
      clear b0 b1 b2 b3 b4
      obtain ⟨a0, a1, a2, a3, a4⟩ := blk5 A2
      obtain ⟨b0, b1, b2, b3, b4⟩ := blk5 B2
      clear A1 B1 hb2
      go_wp2_with fail
      refine (implClash_any s x y z u t a b c d _ (okK_path' H1.out) (okK_path' H2.out)).mono ?_
      rw [HR.out]
      rintro e w3 ⟨rfl, hb3⟩
      have bw3 := below_step bw2 hb3
      go_wp2_with fail
      go_ret
      exact ⟨ret_bool (by rw [H2.out]; cases r <;> rfl), bw3⟩

set_option maxHeartbeats 2000000 in
theorem walk_FnExactCommandsClash (s : ByteArray) (x y z u : Int) (ws : s.size ≤ maxLen) (wx : (Lit.int .i64 x).wf = true) (wy : (Lit.int .i64 y).wf = true) (wz : (Lit.int .i64 z).wf = true) (wu : (Lit.int .i64 u).wf = true) (t : ByteArray) (a b c d : Int) (wt : t.size ≤ maxLen) (wa : (Lit.int .i64 a).wf = true) (wb : (Lit.int .i64 b).wf = true) (wc : (Lit.int .i64 c).wf = true) (wd : (Lit.int .i64 d).wf = true) (w : World) (hm : MaxAt w) :
    Calls Tryd.prog 6 #[.agg #[.string s, .int .i64 x, .int .i64 y, .int .i64 z, .int .i64 u], .agg #[.string t, .int .i64 a, .int .i64 b, .int .i64 c, .int .i64 d]] w fun e w' => e = .returned (.bool true) ∧ Below w.heap.size w w' := by
  clear wx wy wz wu wa wb wc wd
  obtain ⟨W0, hW0⟩ : ∃ W0, W0 = (w.alloc (.cells #[.string s, .int .i64 x, .int .i64 y, .int .i64 z, .int .i64 u] 36)).alloc (.cells #[.string t, .int .i64 a, .int .i64 b, .int .i64 c, .int .i64 d] 36) := ⟨_, rfl⟩
  have A0 : Blk W0 w.heap.size 36 #[.string s, .int .i64 x, .int .i64 y, .int .i64 z, .int .i64 u] := by rw [hW0]; exact (Blk.new _ _ _).alloc _
  have B0 : Blk W0 (w.heap.size + 1) 36 #[.string t, .int .i64 a, .int .i64 b, .int .i64 c, .int .i64 d] := by
    rw [hW0]
    have := Blk.new (w.alloc (.cells #[.string s, .int .i64 x, .int .i64 y, .int .i64 z, .int .i64 u] 36)) 36 #[.string t, .int .i64 a, .int .i64 b, .int .i64 c, .int .i64 d]
    rwa [World.size_alloc] at this
  have bw0 : Below w.heap.size w W0 := by rw [hW0]; exact below_alloc (below_alloc (Below.refl _ _) _) _
  have HM0 := Lib.hid ((hm.belowS ((Below.refl w.heap.size w).alloc (Nat.le_refl _) (.cells #[.string s, .int .i64 x, .int .i64 y, .int .i64 z, .int .i64 u] 36))).belowS ((Below.refl _ _).alloc (Nat.le_refl _) (.cells #[.string t, .int .i64 a, .int .i64 b, .int .i64 c, .int .i64 d] 36)))
  rw [← hW0] at HM0
  clear hm
  by_cases hbig : 1048576 < s.size
  · have HS := Lib.hid (show szL s.size 1048576 = -1 from if_pos (by omega))
    go_enter Tryd.func6, Tryd.ntmps6
    go_wp2_with fail
    rw [← hW0]
    clear hW0
    refine (szCommand_any s x y z u 1048576 _ ws (by omega) (by omega)).mono ?_
    rw [HS.out]
    rintro e w1 ⟨rfl, hb1⟩
    have bw1 := below_step bw0 hb1
    go_wp2_with fail
    go_ret
    exact ⟨rfl, bw1⟩
  have HS := Lib.hid (show szL s.size 1048576 = 1048576 - s.size from if_neg (by omega))
  have hs : s.size ≤ 1048576 := by omega
  have hd1 : decide ((1048576 : Int) - (s.size : Int) < 0) = false := decide_eq_false (by omega)
  clear hbig
  go_enter Tryd.func6, Tryd.ntmps6
  go_wp2_with fail
  rw [← hW0]
  clear hW0
  refine (szCommand_any s x y z u 1048576 _ ws (by omega) (by omega)).mono ?_
  rw [HS.out]
  rintro e w1 ⟨rfl, hb1⟩
  have A1 := A0.belowS hb1
  have B1 := B0.belowS hb1
  have HM1 := Lib.hid (HM0.out.belowS hb1)
  have bw1 := below_step bw0 hb1
  try clear a0 a1 a2 a3 a4 b0 b1 b2 b3 b4
  obtain ⟨a0, a1, a2, a3, a4⟩ := blk5 A1
  obtain ⟨b0, b1, b2, b3, b4⟩ := blk5 B1
  clear A0 B0 hb1 HM0
  by_cases hbig : ((1048576 : Int) - (s.size : Int)) < (t.size : Int)
  · have HT := Lib.hid (show szL t.size ((1048576 : Int) - (s.size : Int)) = -1 from if_pos hbig)
    go_wp2_with fail
    refine (szCommand_any t a b c d ((1048576 : Int) - (s.size : Int)) _ wt (by omega) (by omega)).mono ?_
    rw [HT.out]
    rintro e w2 ⟨rfl, hb2⟩
    have bw2 := below_step bw1 hb2
    go_wp2_with fail
    go_ret
    exact ⟨rfl, bw2⟩
  have HT := Lib.hid (show szL t.size ((1048576 : Int) - (s.size : Int)) = 1048576 - s.size - t.size from if_neg hbig)
  have ht : t.size ≤ 1048576 := by omega
  have hd2 : decide ((1048576 : Int) - (s.size : Int) - (t.size : Int) < 0) = false := decide_eq_false (by omega)
  clear hbig
  go_wp2_with fail
  refine (szCommand_any t a b c d ((1048576 : Int) - (s.size : Int)) _ wt (by omega) (by omega)).mono ?_
  rw [HT.out]
  rintro e w2 ⟨rfl, hb2⟩
  have A2 := A1.belowS hb2
  have B2 := B1.belowS hb2
  have HM2 := Lib.hid (HM1.out.belowS hb2)
  have bw2 := below_step bw1 hb2
  try clear a0 a1 a2 a3 a4 b0 b1 b2 b3 b4
  obtain ⟨a0, a1, a2, a3, a4⟩ := blk5 A2
  obtain ⟨b0, b1, b2, b3, b4⟩ := blk5 B2
  clear A1 B1 hb2 HM1
  obtain ⟨k, hk⟩ : ∃ k, (okK s.data.toList x y z u && okK t.data.toList a b c d && clashR s.data.toList z u t.data.toList c d) = k := ⟨_, rfl⟩
  have HK := Lib.hid hk
  clear hk
  go_wp2_with fail
  go_region_held3 (fun w' => w'.cell? ⟨w.heap.size, 0, none⟩ = some (.string s) ∧ w'.cell? ⟨w.heap.size, 1, none⟩ = some (.int .i64 x) ∧ w'.cell? ⟨w.heap.size, 2, none⟩ = some (.int .i64 y) ∧ w'.cell? ⟨w.heap.size, 3, none⟩ = some (.int .i64 z) ∧ w'.cell? ⟨w.heap.size, 4, none⟩ = some (.int .i64 u) ∧ w'.cell? ⟨w.heap.size + 1, 0, none⟩ = some (.string t) ∧ w'.cell? ⟨w.heap.size + 1, 1, none⟩ = some (.int .i64 a) ∧ w'.cell? ⟨w.heap.size + 1, 2, none⟩ = some (.int .i64 b) ∧ w'.cell? ⟨w.heap.size + 1, 3, none⟩ = some (.int .i64 c) ∧ w'.cell? ⟨w.heap.size + 1, 4, none⟩ = some (.int .i64 d) ∧ Below w.heap.size w w')
    ((refine ⟨?_, ?_, ?_, ?_, ?_, ?_, ?_, ?_, ?_, ?_, ?_⟩ <;> repeat (first | assumption | exact bw2.drew | refine cell_later (by assumption) ?_ | refine below_step2 (by assumption) ?_)))
    (first
      | (go_at_call_of 24 (Value.agg #[Value.string s, Value.int IntKind.i64 x, Value.int IntKind.i64 y, Value.int IntKind.i64 z, Value.int IntKind.i64 u]); refine (toCommand_any s x y z u _).mono ?_; rintro e w3 ⟨rfl, hb3⟩)
      | (go_at_call_of 24 (Value.agg #[Value.string t, Value.int IntKind.i64 a, Value.int IntKind.i64 b, Value.int IntKind.i64 c, Value.int IntKind.i64 d]); refine (toCommand_any t a b c d _).mono ?_; rintro e w4 ⟨rfl, hb4⟩)
      | (go_at_call 26; refine (specCommandsClash_any s x y z u t a b c d _ hs ht).mono ?_; rw [HK.out]; rintro e w5 ⟨rfl, hb5⟩))
  have hb25 := below_step (below_step (below_step ((Below.refl w2.heap.size w2).drew) hb3) hb4) hb5
  have A5 := A2.belowS hb25
  have B5 := B2.belowS hb25
  have HM5 := Lib.hid (HM2.out.belowS hb25)
  have bw5 := below_step bw2 hb25
  clear a0 a1 a2 a3 a4 b0 b1 b2 b3 b4
  obtain ⟨a0, a1, a2, a3, a4⟩ := blk5 A5
  obtain ⟨b0, b1, b2, b3, b4⟩ := blk5 B5
  clear A2 B2 HM2 hb25 hb3 hb4 hb5
  go_wp2_with fail
  go_region_held3 (fun w' => w'.cell? ⟨w.heap.size, 0, none⟩ = some (.string s) ∧ w'.cell? ⟨w.heap.size, 1, none⟩ = some (.int .i64 x) ∧ w'.cell? ⟨w.heap.size, 2, none⟩ = some (.int .i64 y) ∧ w'.cell? ⟨w.heap.size, 3, none⟩ = some (.int .i64 z) ∧ w'.cell? ⟨w.heap.size, 4, none⟩ = some (.int .i64 u) ∧ w'.cell? ⟨w.heap.size + 1, 0, none⟩ = some (.string t) ∧ w'.cell? ⟨w.heap.size + 1, 1, none⟩ = some (.int .i64 a) ∧ w'.cell? ⟨w.heap.size + 1, 2, none⟩ = some (.int .i64 b) ∧ w'.cell? ⟨w.heap.size + 1, 3, none⟩ = some (.int .i64 c) ∧ w'.cell? ⟨w.heap.size + 1, 4, none⟩ = some (.int .i64 d) ∧ Below w.heap.size w w')
    ((refine ⟨?_, ?_, ?_, ?_, ?_, ?_, ?_, ?_, ?_, ?_, ?_⟩ <;> repeat (first | assumption | exact bw5.drew | refine cell_later (by assumption) ?_ | refine below_step2 (by assumption) ?_)))
    (first
      | (go_at_call_of 24 (Value.agg #[Value.string s, Value.int IntKind.i64 x, Value.int IntKind.i64 y, Value.int IntKind.i64 z, Value.int IntKind.i64 u]); refine (toCommand_any s x y z u _).mono ?_; rintro e w6 ⟨rfl, hb6⟩)
      | (go_at_call_of 24 (Value.agg #[Value.string t, Value.int IntKind.i64 a, Value.int IntKind.i64 b, Value.int IntKind.i64 c, Value.int IntKind.i64 d]); refine (toCommand_any t a b c d _).mono ?_; rintro e w7 ⟨rfl, hb7⟩)
      | (go_at_call 27; refine (implCommandsClash_any s x y z u t a b c d _ hs ht (((HM5.out.belowS ((Below.refl w5.heap.size w5).drew)).belowS hb6).belowS hb7)).mono ?_; rw [HK.out]; rintro e w8 ⟨rfl, hb8⟩))
  have bw8 := below_step (below_step (below_step (bw5.drew) hb6) hb7) hb8
  have hkk : (k != k) = false := by simp
  go_wp2_with fail
  go_ret
  exact ⟨rfl, bw8⟩
end Go.Proofs.YtkbebgpafjopnaaDoor
