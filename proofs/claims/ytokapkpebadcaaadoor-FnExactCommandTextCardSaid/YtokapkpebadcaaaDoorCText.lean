/- Texts of commands, by both texts; the walk of the law on them. -/
import Derived.Test.YtokapkpebadcaaaDoorCmdH
import Derived.Test.YtokapkpebadcaaaDoorDec
import Derived.Deep.RegionHeld3
namespace Go.Proofs.YtokapkpebadcaaaDoor
open Go.RowKit
set_option linter.unusedVariables false
set_option linter.unusedSimpArgs false
set_option maxRecDepth 20000

/-- The text of a command. -/
def textK (l : List UInt8) (x y z u : Int) : List UInt8 := if okK l x y z u = true then l ++ [32] ++ textC x y ++ [32] ++ textC z u else []
def CmdTextOf (l : List UInt8) (x y z u : Int) (w : World) (e : Ending) (w' : World) : Prop := ∃ t : ByteArray, e = .returned (.string t) ∧ t.data.toList = textK l x y z u ∧ t.size ≤ 16 ∧ Below w.heap.size w w'
theorem okK_path' {l : List UInt8} {x y z u : Int} (h : okK l x y z u = true) : pathB l = true := by
  unfold okK at h
  rw [Bool.and_eq_true, Bool.and_eq_true, Bool.and_eq_true, decide_eq_true_eq] at h
  exact (depth_pos.1 h.1.1.1).1

set_option maxHeartbeats 2000000 in
theorem specCmdText_any (s : ByteArray) (x y z u : Int) (w : World) (hs : s.size ≤ 1048576) :
    Calls Tryd.prog 36 #[.agg #[.string s, .int .i64 x, .int .i64 y, .int .i64 z, .int .i64 u]] w (CmdTextOf s.data.toList x y z u w) := by
  have A0 := Blk.new w 41 #[.string s, .int .i64 x, .int .i64 y, .int .i64 z, .int .i64 u]
  have bw0 := below_alloc (Below.refl w.heap.size w) (.cells #[.string s, .int .i64 x, .int .i64 y, .int .i64 z, .int .i64 u] 41)
  cases hk : okK s.data.toList x y z u with
  | false =>
    have HK := Lib.hid hk
    have HT := Lib.hid (show textK s.data.toList x y z u = [] from if_neg (by rw [hk]; simp))
    clear hk A0
    go_enter Tryd.func36, Tryd.ntmps36
    go_wp2_with fail
    refine (specCommandValid_any s x y z u _ hs).mono ?_
    rw [HK.out]
    rintro e w1 ⟨rfl, hb1⟩
    have bw1 := below_step bw0 hb1
    go_wp2_with fail
    go_ret
    exact ⟨_, rfl, HT.out.symm, (show (0 : Nat) ≤ _ by omega), bw1⟩
  | true =>
    have HK := Lib.hid hk
    have HT := Lib.hid (show textK s.data.toList x y z u = s.data.toList ++ [32] ++ textC x y ++ [32] ++ textC z u from if_pos hk)
    have hs8 : s.size ≤ 8 := by rw [Lib.size_eq]; exact (path_len (okK_path' hk)).2.1
    clear hk
    go_enter Tryd.func36, Tryd.ntmps36
    go_wp2_with fail
    refine (specCommandValid_any s x y z u _ hs).mono ?_
    rw [HK.out]
    rintro e w1 ⟨rfl, hb1⟩
    have bw1 := below_step bw0 hb1
    have A1 := A0.belowS hb1
    obtain ⟨c0, c1, c2, c3, c4⟩ := blk5 A1
    clear A0 hb1
    go_wp2_with fail
    have hq1 : ¬ (9223372036854775807 < s.size + 1) := by omega
    go_region_held3 (fun w' => w'.cell? ⟨w.heap.size, 0, none⟩ = some (.string s) ∧ w'.cell? ⟨w.heap.size, 1, none⟩ = some (.int .i64 x) ∧ w'.cell? ⟨w.heap.size, 2, none⟩ = some (.int .i64 y) ∧ w'.cell? ⟨w.heap.size, 3, none⟩ = some (.int .i64 z) ∧ w'.cell? ⟨w.heap.size, 4, none⟩ = some (.int .i64 u) ∧ Below w.heap.size w w')
      ((refine ⟨?_, ?_, ?_, ?_, ?_, ?_⟩ <;> repeat (first | assumption | exact bw1.drew | refine cell_later (by assumption) ?_ | refine below_step2 (by assumption) ?_)))
      (first
        | (go_at_call_of 62 (Value.agg #[Value.int IntKind.i64 x, Value.int IntKind.i64 y]); refine (specText_any x y _).mono ?_; rintro e w' ⟨t1, rfl, ht1, htz1, hbb1⟩; have HH1 := Lib.hid ht1; clear ht1; have hq2 : ¬ (9223372036854775807 < s.size + 1 + t1.size) := (by omega); have hq3 : ¬ (9223372036854775807 < s.size + 1 + t1.size + 1) := (by omega))
        | (go_at_call_of 62 (Value.agg #[Value.int IntKind.i64 z, Value.int IntKind.i64 u]); refine (specText_any z u _).mono ?_; rintro e w' ⟨t2, rfl, ht2, htz2, hbb2⟩; have HH2 := Lib.hid ht2; clear ht2; have hq4 : ¬ (9223372036854775807 < s.size + 1 + t1.size + 1 + t2.size) := (by omega)))
    all_goals
      clear c0 c1 c2 c3 c4 A1
      go_wp2_with fail
      go_ret
      refine ⟨_, rfl, ?_, ?_, ?_⟩
      · rw [HT.out, ← HH1.out, ← HH2.out]; simp [ByteArray.data_append]
      · rw [size_add', size_add', size_add', size_add']; show s.size + 1 + t1.size + 1 + t2.size ≤ 16; omega
      · repeat (first | assumption | exact bw1.drew | refine below_step2 (by assumption) ?_)

set_option maxHeartbeats 2000000 in
theorem implCmdText_any (s : ByteArray) (x y z u : Int) (w : World) (hs : s.size ≤ 1048576) (hm : MaxAt w) :
    Calls Tryd.prog 37 #[.agg #[.string s, .int .i64 x, .int .i64 y, .int .i64 z, .int .i64 u]] w (CmdTextOf s.data.toList x y z u w) := by
  have HM := Lib.hid (hm.belowS ((Below.refl w.heap.size w).alloc (Nat.le_refl _) (.cells #[.string s, .int .i64 x, .int .i64 y, .int .i64 z, .int .i64 u] 41)))
  clear hm
  have A0 := Blk.new w 41 #[.string s, .int .i64 x, .int .i64 y, .int .i64 z, .int .i64 u]
  have bw0 := below_alloc (Below.refl w.heap.size w) (.cells #[.string s, .int .i64 x, .int .i64 y, .int .i64 z, .int .i64 u] 41)
  cases hk : okK s.data.toList x y z u with
  | false =>
    have HK := Lib.hid hk
    have HT := Lib.hid (show textK s.data.toList x y z u = [] from if_neg (by rw [hk]; simp))
    clear hk A0
    go_enter Tryd.func37, Tryd.ntmps37
    go_wp2_with fail
    refine (implCommandValid_any s x y z u _ hs HM.out).mono ?_
    rw [HK.out]
    rintro e w1 ⟨rfl, hb1⟩
    have bw1 := below_step bw0 hb1
    go_wp2_with fail
    go_ret
    exact ⟨_, rfl, HT.out.symm, (show (0 : Nat) ≤ _ by omega), bw1⟩
  | true =>
    have HK := Lib.hid hk
    have HT := Lib.hid (show textK s.data.toList x y z u = s.data.toList ++ [32] ++ textC x y ++ [32] ++ textC z u from if_pos hk)
    have hs8 : s.size ≤ 8 := by rw [Lib.size_eq]; exact (path_len (okK_path' hk)).2.1
    clear hk
    go_enter Tryd.func37, Tryd.ntmps37
    go_wp2_with fail
    refine (implCommandValid_any s x y z u _ hs HM.out).mono ?_
    rw [HK.out]
    rintro e w1 ⟨rfl, hb1⟩
    have bw1 := below_step bw0 hb1
    have A1 := A0.belowS hb1
    obtain ⟨c0, c1, c2, c3, c4⟩ := blk5 A1
    clear A0 hb1
    go_wp2_with fail
    have hq1 : ¬ (9223372036854775807 < s.size + 1) := by omega
    go_region_held3 (fun w' => w'.cell? ⟨w.heap.size, 0, none⟩ = some (.string s) ∧ w'.cell? ⟨w.heap.size, 1, none⟩ = some (.int .i64 x) ∧ w'.cell? ⟨w.heap.size, 2, none⟩ = some (.int .i64 y) ∧ w'.cell? ⟨w.heap.size, 3, none⟩ = some (.int .i64 z) ∧ w'.cell? ⟨w.heap.size, 4, none⟩ = some (.int .i64 u) ∧ Below w.heap.size w w')
      ((refine ⟨?_, ?_, ?_, ?_, ?_, ?_⟩ <;> repeat (first | assumption | exact bw1.drew | refine cell_later (by assumption) ?_ | refine below_step2 (by assumption) ?_)))
      (first
        | (go_at_call_of 63 (Value.agg #[Value.int IntKind.i64 x, Value.int IntKind.i64 y]); refine (implText_any x y _).mono ?_; rintro e w' ⟨t1, rfl, ht1, htz1, hbb1⟩; have HH1 := Lib.hid ht1; clear ht1; have hq2 : ¬ (9223372036854775807 < s.size + 1 + t1.size) := (by omega); have hq3 : ¬ (9223372036854775807 < s.size + 1 + t1.size + 1) := (by omega))
        | (go_at_call_of 63 (Value.agg #[Value.int IntKind.i64 z, Value.int IntKind.i64 u]); refine (implText_any z u _).mono ?_; rintro e w' ⟨t2, rfl, ht2, htz2, hbb2⟩; have HH2 := Lib.hid ht2; clear ht2; have hq4 : ¬ (9223372036854775807 < s.size + 1 + t1.size + 1 + t2.size) := (by omega)))
    all_goals
      clear c0 c1 c2 c3 c4 A1
      go_wp2_with fail
      go_ret
      refine ⟨_, rfl, ?_, ?_, ?_⟩
      · rw [HT.out, ← HH1.out, ← HH2.out]; simp [ByteArray.data_append]
      · rw [size_add', size_add', size_add', size_add']; show s.size + 1 + t1.size + 1 + t2.size ≤ 16; omega
      · repeat (first | assumption | exact bw1.drew | refine below_step2 (by assumption) ?_)

set_option maxHeartbeats 1000000 in
theorem walk_FnExactCommandText (s : ByteArray) (x y z u : Int) (ws : s.size ≤ maxLen) (wx : (Lit.int .i64 x).wf = true) (wy : (Lit.int .i64 y).wf = true) (wz : (Lit.int .i64 z).wf = true) (wu : (Lit.int .i64 u).wf = true) (w : World) (hm : MaxAt w) :
    Calls Tryd.prog 13 #[.agg #[.string s, .int .i64 x, .int .i64 y, .int .i64 z, .int .i64 u]] w fun e w' => e = .returned (.bool true) ∧ Below w.heap.size w w' := by
  have A0 := Blk.new w 36 #[.string s, .int .i64 x, .int .i64 y, .int .i64 z, .int .i64 u]
  have bw0 := below_alloc (Below.refl w.heap.size w) (.cells #[.string s, .int .i64 x, .int .i64 y, .int .i64 z, .int .i64 u] 36)
  by_cases hbig : 1048576 < s.size
  · have HS := Lib.hid (show szL s.size 1048576 = -1 from if_pos (by omega))
    go_enter Tryd.func13, Tryd.ntmps13
    go_wp2_with fail
    refine (szCommand_any s x y z u 1048576 _ ws (by omega) (by omega)).mono ?_
    rw [HS.out]
    rintro e w1 ⟨rfl, hb1⟩
    have bw1 := below_step bw0 hb1
    go_wp2_with fail
    go_ret
    exact ⟨rfl, bw1⟩
  have HS := Lib.hid (show szL s.size 1048576 = 1048576 - s.size from if_neg (by omega))
  have HM := Lib.hid (hm.belowS ((Below.refl w.heap.size w).alloc (Nat.le_refl _) (.cells #[.string s, .int .i64 x, .int .i64 y, .int .i64 z, .int .i64 u] 36)))
  clear hm
  have hs : s.size ≤ 1048576 := by omega
  go_enter Tryd.func13, Tryd.ntmps13
  go_wp2_with fail
  refine (szCommand_any s x y z u 1048576 _ ws (by omega) (by omega)).mono ?_
  rw [HS.out]
  rintro e w1 ⟨rfl, hb1⟩
  have bw1 := below_step bw0 hb1
  have A1 := A0.belowS hb1
  have HM1 := Lib.hid (HM.out.belowS hb1)
  obtain ⟨c0, c1, c2, c3, c4⟩ := blk5 A1
  have hd : decide ((1048576 : Int) - (s.size : Int) < 0) = false := decide_eq_false (by omega)
  clear A0 hb1 HM
  go_wp2_with fail
  refine (toCommand_any s x y z u _).mono ?_
  rintro e w2 ⟨rfl, hb2⟩
  have bw2 := below_step bw1 hb2
  have A2 := A1.belowS hb2
  have HM2 := Lib.hid (HM1.out.belowS hb2)
  clear c0 c1 c2 c3 c4 A1 hb2 HM1 hd
  go_wp2_with fail
  refine (specCmdText_any s x y z u _ hs).mono ?_
  rintro e w3 ⟨t, rfl, ht, htz, hb3⟩
  have bw3 := below_step bw2 hb3
  have A3 := A2.belowS hb3
  have HM3 := Lib.hid (HM2.out.belowS hb3)
  have HT := Lib.hid ht
  obtain ⟨c0, c1, c2, c3, c4⟩ := blk5 A3
  clear A2 hb3 HM2 ht
  go_wp2_with fail
  refine (toCommand_any s x y z u _).mono ?_
  rintro e w4 ⟨rfl, hb4⟩
  have bw4 := below_step bw3 hb4
  have HM4 := Lib.hid (HM3.out.belowS hb4)
  go_wp2_with fail
  refine (implCmdText_any s x y z u _ hs HM4.out).mono ?_
  rintro e w5 ⟨v, rfl, hv, hvz, hb5⟩
  have bw5 := below_step bw4 hb5
  have hx : (v.toList == t.toList) = true := by rw [toList_is hv, toList_is HT.out]; simp
  clear hv
  go_wp2_with fail
  go_ret
  exact ⟨rfl, bw5⟩
end Go.Proofs.YtokapkpebadcaaaDoor
