/- The frame with which a list begins. -/
import Derived.Test.YtnlgpjloedoebaaFrames
import Derived.Test.YtnlgpjloedoebaaSub
namespace Go.Proofs.Ytnlgpjloedoebaa
open Go.RowKit
set_option linter.unusedVariables false
set_option linter.unusedSimpArgs false

/-- The body of the frame with which a list begins. -/
def headL : List Int → Option (List Int)
  | [] => none
  | m :: l => if inB m 1 16 = true ∧ m.toNat + 1 ≤ l.length ∧ bytesB (l.take m.toNat) = true ∧ l[m.toNat]? = some (sumL (l.take m.toNat)) then some (l.take m.toNat) else none

theorem headL_cons (m : Int) (l : List Int) : headL (m :: l) = if inB m 1 16 = true ∧ m.toNat + 1 ≤ l.length ∧ bytesB (l.take m.toNat) = true ∧ l[m.toNat]? = some (sumL (l.take m.toNat)) then some (l.take m.toNat) else none := rfl

theorem headL_body {l b : List Int} (h : headL l = some b) : bodyB b = true ∧ b.length + 2 ≤ l.length ∧ b = (l.drop 1).take b.length ∧ l.take (b.length + 2) = (b.length : Int) :: (b ++ [sumL b]) := by
  cases l with
  | nil => cases h
  | cons m l =>
    rw [headL_cons] at h
    by_cases hc : inB m 1 16 = true ∧ m.toNat + 1 ≤ l.length ∧ bytesB (l.take m.toNat) = true ∧ l[m.toNat]? = some (sumL (l.take m.toNat))
    · rw [if_pos hc] at h
      obtain ⟨h1, h2, h3, h4⟩ := hc
      injection h with h
      have hm : 1 ≤ m ∧ m ≤ 16 := by unfold inB at h1; rwa [decide_eq_true_eq] at h1
      have hb : b.length = m.toNat := by rw [← h, List.length_take]; omega
      refine ⟨?_, ?_, ?_, ?_⟩
      · unfold bodyB; rw [← h, h3, Bool.and_true]
        unfold inB; rw [decide_eq_true_eq, List.length_take]; omega
      · rw [hb]; simp; omega
      · rw [hb, List.drop_one, List.tail_cons, h]
      · rw [hb]
        show m :: l.take (m.toNat + 1) = _
        rw [List.take_add_one, h4, h]
        have : ((m.toNat : Nat) : Int) = m := by omega
        rw [this]; rfl
    · rw [if_neg hc] at h; cases h

/-- The answer of frame. -/
def FrameAns (A : Option Addr) (c : Nat) (l : List Int) (w : World) (e : Ending) (w' : World) : Prop :=
  (e = .returned (match headL l with | none => .slice none 0 0 | some b => .slice (sub A c 1 1) b.length (c - 1))) ∧ ∃ q, w' = w.drewN q

theorem frameAns_none {A : Option Addr} {c : Nat} {l : List Int} (h : headL l = none) {w : World} (q : Nat) : FrameAns A c l w (.returned (.slice none 0 0)) (w.drewN q) := ⟨by rw [h], q, rfl⟩
theorem frameAns_some {A : Option Addr} {c m : Nat} {l b : List Int} (h : headL l = some b) (hm : b.length = m) {w : World} (q : Nat) : FrameAns A c l w (.returned (.slice (sub A c 1 1) m (c - 1))) (w.drewN q) := ⟨by rw [h, ← hm], q, rfl⟩

set_option maxHeartbeats 2000000 in
theorem implFrame_any (A : Option Addr) (n c : Nat) (l : List Int) (w : World) (hn : n ≤ 140737488355328) (hl : l.length = n) (hnc : n ≤ c) (hcm : c ≤ 9223372036854775807) (ha : At encI 1 w A l) (hwf : ∀ z ∈ l, -9223372036854775808 ≤ z ∧ z ≤ 9223372036854775807) :
    Calls Try.prog 53 #[.slice A n c] w (FrameAns A c l w) := by
  obtain ⟨i0, hi, hz0, hz1, hz2⟩ := info_parts infoInt
  cases l with
  | nil =>
    simp at hl
    subst hl
    go_enter Try.func53, Try.ntmps53
    go_wp2
    go_ret
    exact frameAns_none rfl 0
  | cons m l =>
    simp only [List.length_cons] at hl
    have hA := ha.addr (by simp)
    have HA := Lib.hid hA
    clear hA
    have hidx0 : ∀ W, (Instr.indexAt 32 (.slice A n c) (.int .i64 0)).run Try.prog W = .ok (.pointer (some ⟨blk A, off A, none⟩)) W := fun W => run_index_one (c := c) (j := 0) Try.underlying32 hi hz1 HA.out (by omega) W
    have c0 : w.cell? ⟨blk A, off A, none⟩ = some (.int .i64 m) := ha.cell1 (j := 0) (by simp) rfl
    have hm64 := hwf m (List.mem_cons_self ..)
    have hn0 : ((n : Int) == 0) = false := by simp; omega
    have HL := Lib.hid hl
    clear hl
    by_cases h1 : inB m 1 16 = true
    case neg =>
      have h1' : inB m 1 16 = false := by simpa using h1
      have hh : headL (m :: l) = none := by rw [headL_cons, if_neg (fun h => h1 h.1)]
      have HH := Lib.hid hh
      clear hh h1
      go_enter Try.func53, Try.ntmps53
      go_wp2_with (go_at_call 46; refine (implIn_any _ _ _ _).mono ?_; rintro e w' ⟨rfl, rfl⟩)
      go_ret
      exact frameAns_none HH.out 0
    have hm : 1 ≤ m ∧ m ≤ 16 := by unfold inB at h1; rwa [decide_eq_true_eq] at h1
    obtain ⟨k, rfl⟩ := Int.eq_ofNat_of_zero_le (show 0 ≤ m by omega)
    by_cases h2 : k + 1 ≤ l.length
    case neg =>
      have hh : headL ((k : Int) :: l) = none := by rw [headL_cons, if_neg (fun h => h2 (by have := h.2.1; simpa using this))]
      have hlt : n < k + 2 := by have := HL.out; omega
      have HH := Lib.hid hh
      clear hh h2
      go_enter Try.func53, Try.ntmps53
      go_wp2_with (go_at_call 46; refine (implIn_any _ _ _ _).mono ?_; rintro e w' ⟨rfl, rfl⟩)
      go_ret
      exact frameAns_none HH.out 0
    have hge : k + 2 ≤ n := by have := HL.out; omega
    have hsl : ∀ W, (Instr.slice 32 (.slice A n c) (some (.int .i64 1)) (some (.int .i64 ((k : Int) + 1))) none).run Try.prog W = .ok (.slice (sub A c 1 1) k (c - 1)) W := fun W => by
      have := run_slice_both Try.underlying32 hi hz1 A n c W 1 (k + 1) (by omega) (by omega)
      rwa [Nat.add_sub_cancel] at this
    have hsub : At encI 1 w (sub A c 1 1) (l.take k) := by
      have := ha.sub (c := c) (lo := 1) (m := k) (by rw [List.length_cons, HL.out]; exact hnc) (by rw [List.length_cons]; omega)
      simpa using this
    have hbl : (l.take k).length = k := by rw [List.length_take]; omega
    have HBL := Lib.hid hbl
    clear hbl
    by_cases h3 : bodyB (l.take k) = true
    case neg =>
      have h3' : bodyB (l.take k) = false := by simpa using h3
      have hh : headL ((k : Int) :: l) = none := by
        rw [headL_cons, if_neg]; rintro ⟨a, _, b, _⟩; apply h3
        unfold bodyB; rw [HBL.out, a]; simpa using b
      have HH := Lib.hid hh
      clear hh h3 h2
      go_enter Try.func53, Try.ntmps53
      go_wp2_with (go_at_call 46; refine (implIn_any _ _ _ _).mono ?_; rintro e w' ⟨rfl, rfl⟩)
      go_quiet ((go_at_call 51; exact Calls.quiet_of_same ((implBody_any _ _ _ (l.take k) _ (by omega) HBL.out (hsub.drewN _)).mono fun _ _ ⟨h1, h2⟩ => ⟨h1, h2.symm⟩)))
      go_wp2
      go_ret
      exact frameAns_none HH.out _
    have hb255 := (bodyB_iff.1 h3).2
    have hsb : bsum (l.take k) = sumL (l.take k) := if_pos h3
    have hs := sumL_bd (l.take k)
    have hkl : k < l.length := by omega
    have hidx1 : ∀ W, (Instr.indexAt 32 (.slice A n c) (.int .i64 ((k : Int) + 1))).run Try.prog W = .ok (.pointer (some ⟨blk A, off A + (k + 1), none⟩)) W := fun W => run_index_one (c := c) (j := k + 1) Try.underlying32 hi hz1 HA.out (by omega) W
    have c1 : w.cell? ⟨blk A, off A + (k + 1), none⟩ = some (.int .i64 l[k]) := ha.cell1 (j := k + 1) (by simp; omega) rfl
    have c1' : w.cell? ⟨blk A, off A + k + 1, none⟩ = some (.int .i64 l[k]) := c1
    have HB := Lib.hid hsb
    have HH := Lib.hid (show headL ((k : Int) :: l) = if l[k]? = some (sumL (l.take k)) then some (l.take k) else none by
      have hby : bytesB (l.take k) = true := by unfold bodyB at h3; rw [Bool.and_eq_true] at h3; exact h3.2
      rw [headL_cons]; simp only [Int.toNat_natCast]
      by_cases hq : l[k]? = some (sumL (l.take k))
      · rw [if_pos hq, if_pos ⟨h1, h2, hby, hq⟩]
      · rw [if_neg hq, if_neg (fun h => hq h.2.2.2)])
    have HG := Lib.hid (List.getElem?_eq_getElem hkl)
    clear hsb h2
    generalize l[k] = z at c1 c1' HG
    by_cases h4 : z = sumL (l.take k)
    · subst h4
      go_enter Try.func53, Try.ntmps53
      go_wp2_with (go_at_call 46; refine (implIn_any _ _ _ _).mono ?_; rintro e w' ⟨rfl, rfl⟩)
      go_quiet ((first | (go_at_call 51; exact Calls.quiet_of_same ((implBody_any _ _ _ (l.take k) _ (by omega) HBL.out (hsub.drewN _)).mono fun _ _ ⟨h1, h2⟩ => ⟨h1, h2.symm⟩)) | (go_at_call 24; exact Calls.quiet_of_same ((implBodySum_any _ _ _ (l.take k) _ (by omega) HBL.out (hsub.drewN _)).mono fun _ _ ⟨h1, h2⟩ => ⟨h1, h2.symm⟩))))
      rw [HB.out]
      go_wp2
      go_ret
      exact frameAns_some (by rw [HH.out, if_pos HG.out]) HBL.out _
    · have h4' : (z != sumL (l.take k)) = true := by simpa using h4
      have H4 := Lib.hid h4
      clear h4
      go_enter Try.func53, Try.ntmps53
      go_wp2_with (go_at_call 46; refine (implIn_any _ _ _ _).mono ?_; rintro e w' ⟨rfl, rfl⟩)
      go_quiet ((first | (go_at_call 51; exact Calls.quiet_of_same ((implBody_any _ _ _ (l.take k) _ (by omega) HBL.out (hsub.drewN _)).mono fun _ _ ⟨h1, h2⟩ => ⟨h1, h2.symm⟩)) | (go_at_call 24; exact Calls.quiet_of_same ((implBodySum_any _ _ _ (l.take k) _ (by omega) HBL.out (hsub.drewN _)).mono fun _ _ ⟨h1, h2⟩ => ⟨h1, h2.symm⟩))))
      rw [HB.out]
      go_wp2
      go_ret
      exact frameAns_none (by rw [HH.out, if_neg (by rw [HG.out]; intro h; injection h with h; exact H4.out h)]) _
end Go.Proofs.Ytnlgpjloedoebaa
