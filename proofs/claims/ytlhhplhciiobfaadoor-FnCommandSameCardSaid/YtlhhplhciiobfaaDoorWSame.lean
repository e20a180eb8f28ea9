/- The walk of the law on commands that change nothing. -/
import Derived.Test.YtlhhplhciiobfaaDoorDrawK
namespace Go.Proofs.YtlhhplhciiobfaaDoor
open Go.RowKit
set_option linter.unusedVariables false
set_option linter.unusedSimpArgs false
set_option maxRecDepth 20000

/-- A command that is drawn for a law. -/
def IsK (m : Nat) (w : World) (e : Ending) (w' : World) : Prop :=
  ∃ (s : ByteArray) (x y z u : Int), e = .returned (.agg #[.string s, .int .i64 x, .int .i64 y, .int .i64 z, .int .i64 u]) ∧ s.size ≤ m ∧ Below w.heap.size w w'

set_option maxHeartbeats 2000000 in
theorem drawCommandValid_any (A : Option Addr) (n c : Nat) (l : List Int) (w : World) (hl : l.length = n) (hnc : n ≤ c) (ha : At encU8 1 w A l) (hby : ∀ z ∈ l, 0 ≤ z ∧ z ≤ 255) (hn : n ≤ 140737488355328) :
    Calls Tryd.prog 38 #[.slice A n c] w (IsK 12 w) := by
  have PR := Blk.new w 35 #[.string ⟨#[]⟩, .int .i64 0, .int .i64 0, .int .i64 0, .int .i64 0]
  have bw0 := below_alloc (Below.refl w.heap.size w) (.cells #[.string ⟨#[]⟩, .int .i64 0, .int .i64 0, .int .i64 0, .int .i64 0] 35)
  have ha0 := ha.belowS bw0
  obtain ⟨gR, hgR⟩ : ∃ gR, w.heap.size = gR := ⟨_, rfl⟩
  have hgw : w.heap.size ≤ gR := by omega
  obtain ⟨W0, hW0⟩ : ∃ W0, W0 = w.alloc (.cells #[.string ⟨#[]⟩, .int .i64 0, .int .i64 0, .int .i64 0, .int .i64 0] 35) := ⟨_, rfl⟩
  rw [hgR, ← hW0] at PR
  rw [← hW0] at bw0 ha0
  have hlR := PR.lt
  have HL := Lib.hid hl
  clear hl
  go_enter Tryd.func38, Tryd.ntmps38
  go_upto_region 1 with fail
  try rw [hgR]
  rw [← hW0]
  clear hW0 hgR
  go_wp2_with fail
  refine (l6Open_any A n c l _ HL.out hnc ha0 hby hn).mono ?_
  rintro e w1 ⟨g, rfl, hr, hg, hb1⟩
  have bw1 := below_step bw0 hb1
  have PR1 := PR.belowS hb1
  go_wp2_with fail
  refine (l91Tree_any 8 g 0 _ (by omega) hr (by omega)).mono ?_
  rintro e w2 ⟨A2, c2, ys, rfl, hys, hat, hgA, hz, hr2, hg2⟩
  have bw2 := below_only bw1 hg2 (fun b hb => by injection hb with hb; omega)
  have PR2 := PR1.grown hg2 (fun he => by injection he with he; omega)
  clear PR PR1 hr hb1 bw1 ha0 hg2
  go_wp2_with fail
  refine (l91Command_any g (0 + 12 * 8) A2 ys.length c2 ys _ hr2 (by omega) rfl (by omega) hat hgA hz).mono ?_
  rintro e w3 ⟨s, x, y, z, u, rfl, hs, hr3, hg3⟩
  have bw3 := below_only bw2 hg3 (fun b hb => by injection hb with hb; omega)
  have PR3 := PR2.grown hg3 (fun he => by injection he with he; omega)
  clear PR2 hat hgA hz hr2 hr3 hg3 bw2
  obtain ⟨q0, q1, q2, q3, q4⟩ := blk5 PR3
  obtain ⟨f0, f1, f2, f3, f4⟩ := blk5f PR3
  go_wp2_with fail
  obtain ⟨W9, hW9⟩ : ∃ W9, W9 = ((((w3.setCell ⟨gR, 0, none⟩ (.string s)).setCell ⟨gR, 1, none⟩ (.int .i64 x)).setCell ⟨gR, 2, none⟩ (.int .i64 y)).setCell ⟨gR, 3, none⟩ (.int .i64 z)).setCell ⟨gR, 4, none⟩ (.int .i64 u) := ⟨_, rfl⟩
  have PR9 : Blk W9 gR 35 #[.string s, .int .i64 x, .int .i64 y, .int .i64 z, .int .i64 u] := by rw [hW9]; exact (((((PR3.set_ 0 _).set_ 1 _).set_ 2 _).set_ 3 _).set_ 4 _)
  have bw9 : Below w.heap.size w W9 := by rw [hW9]; exact below_set (below_set (below_set (below_set (below_set bw3 hgw _) hgw _) hgw _) hgw _) hgw _
  rw [← hW9]
  clear hW9 q0 q1 q2 q3 q4 f0 f1 f2 f3 f4
  obtain ⟨q0, q1, q2, q3, q4⟩ := blk5 PR9
  refine bodyPost_ret (v := .agg #[.string s, .int .i64 x, .int .i64 y, .int .i64 z, .int .i64 u]) (by simp [results, Tryd.results38, go_sem, q0, q1, q2, q3, q4]) rfl ?_
  exact ⟨s, x, y, z, u, rfl, hs, bw9⟩

set_option maxHeartbeats 2000000 in
theorem walk_FnCommandSame (A0 : Option Addr) (n0 c0 : Nat) (l0 : List Int) (hl0 : l0.length = n0) (hnc0 : n0 ≤ c0) (hcm0 : c0 ≤ maxLen) (w : World) (ha0 : At encU 1 w A0 l0) (hw0 : ∀ u ∈ l0, (Lit.int .u8 u).wf = true) (hm : MaxAt w) :
    Calls Tryd.prog 9 #[.slice A0 n0 c0] w fun e w' => e = .returned (.bool true) ∧ Below w.heap.size w w' := by
  have H0 := Lib.hid hl0
  have HM := Lib.hid hm
  clear hl0 hm
  unfold maxLen at hcm0
  by_cases hb0 : 1048576 < n0
  · go_enter Tryd.func9, Tryd.ntmps9
    go_wp2
    go_ret
    exact ⟨rfl, Below.refl _ _⟩
  go_enter Tryd.func9, Tryd.ntmps9
  go_wp2_with fail
  refine (drawCommandValid_any A0 n0 c0 l0 _ H0.out hnc0 ha0 (u8_bd' hw0) (by omega)).mono ?_
  rintro e w1 ⟨s, x, y, z, u, rfl, hs, bw1⟩
  have PC := Blk.new w1 35 #[.string s, .int .i64 x, .int .i64 y, .int .i64 z, .int .i64 u]
  have bw2 := below_alloc bw1 (.cells #[.string s, .int .i64 x, .int .i64 y, .int .i64 z, .int .i64 u] 35)
  obtain ⟨gC, hgC⟩ : ∃ gC, w1.heap.size = gC := ⟨_, rfl⟩
  obtain ⟨W2, hW2⟩ : ∃ W2, W2 = w1.alloc (.cells #[.string s, .int .i64 x, .int .i64 y, .int .i64 z, .int .i64 u] 35) := ⟨_, rfl⟩
  rw [hgC, ← hW2] at PC
  rw [← hW2] at bw2
  obtain ⟨ok, hok⟩ : ∃ ok, okK s.data.toList x y z u = ok := ⟨_, rfl⟩
  have HOK := Lib.hid hok
  clear hok
  go_upto_region 4 with fail
  try rw [hgC]
  rw [← hW2]
  clear hW2 hgC
  obtain ⟨p0, p1, p2, p3, p4⟩ := blk5 PC
  go_wp2_with fail
  refine (implCommandValid_any s x y z u _ (by omega) (HM.out.belowS bw2)).mono ?_
  rw [HOK.out]
  rintro e w3 ⟨rfl, hb3⟩
  have bw3 := below_step bw2 hb3
  have PC3 := PC.belowS hb3
  clear PC p0 p1 p2 p3 p4
  obtain ⟨p0, p1, p2, p3, p4⟩ := blk5 PC3
  go_wp2_with fail
  refine (specCommandValid_any s x y z u _ (by omega)).mono ?_
  rw [HOK.out]
  rintro e w4 ⟨rfl, hb4⟩
  have bw4 := below_step bw3 hb4
  have PC4 := PC3.belowS hb4
  clear PC3 p0 p1 p2 p3 p4
  cases ok with
  | false =>
    go_wp2_with fail
    go_ret
    exact ⟨rfl, bw4⟩
  | true =>
    obtain ⟨p0, p1, p2, p3, p4⟩ := blk5 PC4
    have PX := Blk.new w4 35 #[.string s, .int .i64 x, .int .i64 y, .int .i64 z, .int .i64 u]
    have PC5 := PC4.alloc (.cells #[.string s, .int .i64 x, .int .i64 y, .int .i64 z, .int .i64 u] 35)
    have bw5 := below_alloc bw4 (.cells #[.string s, .int .i64 x, .int .i64 y, .int .i64 z, .int .i64 u] 35)
    have hlC := PC4.lt
    obtain ⟨gX, hgX⟩ : ∃ gX, w4.heap.size = gX := ⟨_, rfl⟩
    have hXw : w.heap.size ≤ gX := by rw [← hgX]; exact bw4.size
    have hCX : gC ≠ gX := by omega
    obtain ⟨W5, hW5⟩ : ∃ W5, W5 = w4.alloc (.cells #[.string s, .int .i64 x, .int .i64 y, .int .i64 z, .int .i64 u] 35) := ⟨_, rfl⟩
    rw [hgX, ← hW5] at PX
    rw [← hW5] at PC5 bw5
    go_upto_region 9 with fail
    try rw [hgX]
    rw [← hW5]
    clear hW5 hgX p0 p1 p2 p3 p4 PC4
    obtain ⟨p0, p1, p2, p3, p4⟩ := blk5 PC5
    obtain ⟨q0, q1, q2, q3, q4⟩ := blk5 PX
    obtain ⟨f0, f1, f2, f3, f4⟩ := blk5f PX
    go_upto_region 10 with fail
    obtain ⟨W6, hW6⟩ : ∃ W6, W6 = (W5.setCell ⟨gX, 3, none⟩ (.int .i64 x)).setCell ⟨gX, 4, none⟩ (.int .i64 y) := ⟨_, rfl⟩
    have PX6 : Blk W6 gX 35 #[.string s, .int .i64 x, .int .i64 y, .int .i64 x, .int .i64 y] := by rw [hW6]; exact ((PX.set_ 3 _).set_ 4 _)
    have PC6 : Blk W6 gC 35 #[.string s, .int .i64 x, .int .i64 y, .int .i64 z, .int .i64 u] := by rw [hW6]; exact (Boxed_other (by show gC ≠ gX; omega) (Boxed_other (by show gC ≠ gX; omega) PC5))
    have bw6 : Below w.heap.size w W6 := by rw [hW6]; exact below_set (below_set bw5 hXw _) hXw _
    rw [← hW6]
    clear hW6 p0 p1 p2 p3 p4 q0 q1 q2 q3 q4 f0 f1 f2 f3 f4 PC5 PX
    obtain ⟨p0, p1, p2, p3, p4⟩ := blk5 PC6
    have PY := Blk.new W6 35 #[.string s, .int .i64 x, .int .i64 y, .int .i64 z, .int .i64 u]
    have PX7 := PX6.alloc (.cells #[.string s, .int .i64 x, .int .i64 y, .int .i64 z, .int .i64 u] 35)
    have bw7 := below_alloc bw6 (.cells #[.string s, .int .i64 x, .int .i64 y, .int .i64 z, .int .i64 u] 35)
    have hlX := PX6.lt
    obtain ⟨gY, hgY⟩ : ∃ gY, W6.heap.size = gY := ⟨_, rfl⟩
    have hYw : w.heap.size ≤ gY := by rw [← hgY]; exact bw6.size
    have hXY : gX ≠ gY := by omega
    obtain ⟨W7, hW7⟩ : ∃ W7, W7 = W6.alloc (.cells #[.string s, .int .i64 x, .int .i64 y, .int .i64 z, .int .i64 u] 35) := ⟨_, rfl⟩
    rw [hgY, ← hW7] at PY
    rw [← hW7] at PX7 bw7
    go_upto_region 11 with fail
    try rw [hgY]
    rw [← hW7]
    clear hW7 hgY p0 p1 p2 p3 p4 PC6 PX6
    obtain ⟨q0, q1, q2, q3, q4⟩ := blk5 PY
    obtain ⟨f0, f1, f2, f3, f4⟩ := blk5f PY
    go_upto_region 12 with fail
    obtain ⟨W8, hW8⟩ : ∃ W8, W8 = W7.setCell ⟨gY, 0, none⟩ (.string ⟨#[47]⟩) := ⟨_, rfl⟩
    have PY8 : Blk W8 gY 35 #[.string ⟨#[47]⟩, .int .i64 x, .int .i64 y, .int .i64 z, .int .i64 u] := by rw [hW8]; exact (PY.set_ 0 _)
    have PX8 : Blk W8 gX 35 #[.string s, .int .i64 x, .int .i64 y, .int .i64 x, .int .i64 y] := by rw [hW8]; exact (Boxed_other (by show gX ≠ gY; omega) PX7)
    have bw8 : Below w.heap.size w W8 := by rw [hW8]; exact below_set bw7 hYw _
    rw [← hW8]
    clear hW8 q0 q1 q2 q3 q4 f0 f1 f2 f3 f4 PX7 PY
    obtain ⟨p0, p1, p2, p3, p4⟩ := blk5 PX8
    go_wp2_with fail
    refine (implCommandValid_any s x y x y _ (by omega) (HM.out.belowS bw8)).mono ?_
    rw [okK_same]
    rintro e w9 ⟨rfl, hb9⟩
    have bw9 := below_step bw8 hb9
    have PY9 := PY8.belowS hb9
    clear PX8 PY8 p0 p1 p2 p3 p4
    obtain ⟨p0, p1, p2, p3, p4⟩ := blk5 PY9
    go_wp2_with fail
    refine (implCommandValid_any ⟨#[47]⟩ x y z u _ (by show 1 ≤ 1048576; omega) (HM.out.belowS bw9)).mono ?_
    rw [okK_path (s := (⟨#[47]⟩ : ByteArray).data.toList) (by rw [depth_pos]; intro h; exact h.2 rfl)]
    rintro e w10 ⟨rfl, hb10⟩
    have bw10 := below_step bw9 hb10
    go_wp2_with fail
    go_ret
    exact ⟨rfl, bw10⟩
end Go.Proofs.YtlhhplhciiobfaaDoor
