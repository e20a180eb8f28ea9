/- The frame of a body, by both texts. -/
import Derived.Test.YtnlgpjloedoebaaFrames
import Derived.Test.YtnlgpjloedoebaaAppend
namespace Go.Proofs.Ytnlgpjloedoebaa
open Go.RowKit
set_option linter.unusedVariables false

theorem encI_one (z : Int) : ∀ u ∈ encI z, u.oneCell' = true := by intro u hu; simp [encI] at hu; subst hu; rfl

/-- The frame of a body: nothing of what is none. -/
def frameL (l : List Int) : List Int := if bodyB l = true then (l.length : Int) :: (l ++ [sumL l]) else []

theorem Out.empty {α : Type} {enc : α → List Value} {k : Nat} {e : TypeId} {l : List α} (h : l = []) {w w' : World} (hb : Below w.heap.size w w') : Out enc k e l w (.returned (.slice none 0 0)) w' := by
  subst h
  exact ⟨none, 0, rfl, World.ownsRow_nil _ _ _ _, hb⟩
theorem Out.of {α : Type} {enc : α → List Value} {k : Nat} {e : TypeId} {l : List α} {w w' : World} {v : Value} {n : Nat} {cs : List Value} (hn : l.length = n) (hc : l.flatMap enc = cs) (h : w'.ownsRow w.heap.size e k v n cs) (hb : Below w.heap.size w w') : Out enc k e l w (.returned v) w' := by
  subst hn; subst hc
  obtain ⟨A, c, rfl, _⟩ := own_form h
  exact ⟨A, c, rfl, h, hb⟩

set_option maxHeartbeats 400000 in
theorem implFrameOf_any (A : Option Addr) (n c : Nat) (l : List Int) (w : World) (hn : n ≤ 1048576) (hl : l.length = n) (ha : At encI 1 w A l) :
    Calls Try.prog 28 #[.slice A n c] w (Out encI 1 3 (frameL l) w) := by
  obtain ⟨i0, hi, hz0, hz1, hz2⟩ := info_parts infoInt
  by_cases h : bodyB l = true
  · have HF := Lib.hid (show frameL l = (l.length : Int) :: (l ++ [sumL l]) from if_pos h)
    have HS := Lib.hid (show bsum l = sumL l from if_pos h)
    have HL := Lib.hid hl
    have HB := Lib.hid h
    clear hl h
    go_enter Try.func28, Try.ntmps28
    go_wp2_with fail
    refine (implBody_any _ _ _ l _ (by omega) HL.out ha).mono ?_
    rintro e w' ⟨rfl, rfl⟩
    have hb := HB.out
    have hb0 := (Below.refl w.heap.size w).alloc (Nat.le_refl _) (.cells #[.int .i64 n] 3)
    have own0 := World.ownsRow_lit (base := w.heap.size) (e := 3) (size := 1) w #[.int .i64 n] 1 (Nat.le_refl _) (by decide) rfl
    have ha0 := ha.belowS hb0
    go_wp2_with (at_builtin; refine wpList_append_at _ rfl _ _ 32 rfl w.heap.size 3 i0 (.int .i64 0) 1 8 Try.underlying32 hi hz0 hz1 hz2 rfl (by decide) _ 1 [.int .i64 n] rfl own0 encI_len encI_one A n c l rfl HL.out ha0 (by unfold maxLen; omega) (by omega) (by simp) ?_; intro v1 w1 ho1 hg1 hv1)
    have hb1 := below_app hb0 hg1 (own_ge own0)
    have ha1 := ha.belowS hb1
    refine (implBodySum_any _ _ _ l _ (by omega) HL.out ha1).mono ?_
    rintro e w' ⟨rfl, rfl⟩
    have hs1 := hb1.size
    have ho1' := ho1.alloc (.cells #[.int .i64 (bsum l)] 3)
    have hn1 := at_new (enc := encI) w1 encI_len [bsum l] 3 #[.int .i64 (bsum l)] rfl (show 1 ≤ maxLen by decide)
    go_wp2_with (at_builtin; refine wpList_append_at _ rfl _ _ 32 rfl w.heap.size 3 i0 (.int .i64 0) 1 8 Try.underlying32 hi hz0 hz1 hz2 rfl (by decide) v1 (1 + n) _ rfl ho1' encI_len encI_one _ 1 1 [bsum l] rfl rfl hn1 (by unfold maxLen; omega) (by omega) (by simp; omega) ?_; intro v2 w2 ho2 hg2 hv2)
    go_ret
    have hF := HF.out
    refine Out.of (n := 1 + n + 1) ?_ ?_ ho2 (below_app (below_alloc hb1 _) hg2 (own_ge ho1))
    · rw [hF]; simp [HL.out]; omega
    · rw [hF, ← HS.out, HL.out]; simp [encI]
  · have HB := Lib.hid (show frameL l = [] from if_neg h)
    have h' : bodyB l = false := by simpa using h
    clear h
    go_enter Try.func28, Try.ntmps28
    go_wp2_with (go_at_call 51; refine (implBody_any _ _ _ l _ (by omega) hl ha).mono ?_; rintro e w' ⟨rfl, rfl⟩)
    go_ret
    exact Out.empty HB.out (Below.refl _ _)

set_option maxHeartbeats 400000 in
theorem specFrameOf_any (A : Option Addr) (n c : Nat) (l : List Int) (w : World) (hn : n ≤ 1048576) (hl : l.length = n) (ha : At encI 1 w A l) :
    Calls Try.prog 27 #[.slice A n c] w (Out encI 1 3 (frameL l) w) := by
  obtain ⟨i0, hi, hz0, hz1, hz2⟩ := info_parts infoInt
  by_cases h : bodyB l = true
  · have HF := Lib.hid (show frameL l = (l.length : Int) :: (l ++ [sumL l]) from if_pos h)
    have HL := Lib.hid hl
    have HB := Lib.hid h
    have hby := (bodyB_iff.1 h).2
    clear hl h
    go_enter Try.func27, Try.ntmps27
    go_wp2_with fail
    refine (specBody_any _ _ _ l _ (by omega) HL.out ha).mono ?_
    rintro e w' ⟨rfl, rfl⟩
    have hb := HB.out
    have hb0 := (Below.refl w.heap.size w).alloc (Nat.le_refl _) (.cells #[.int .i64 n] 3)
    have own0 := World.ownsRow_lit (base := w.heap.size) (e := 3) (size := 1) w #[.int .i64 n] 1 (Nat.le_refl _) (by decide) rfl
    have ha0 := ha.belowS hb0
    go_wp2_with (at_builtin; refine wpList_append_at _ rfl _ _ 32 rfl w.heap.size 3 i0 (.int .i64 0) 1 8 Try.underlying32 hi hz0 hz1 hz2 rfl (by decide) _ 1 [.int .i64 n] rfl own0 encI_len encI_one A n c l rfl HL.out ha0 (by unfold maxLen; omega) (by omega) (by simp) ?_; intro v1 w1 ho1 hg1 hv1)
    have hb1 := below_app hb0 hg1 (own_ge own0)
    have ha1 := ha.belowS hb1
    refine (specL4Sum_any _ _ _ l _ (by omega) HL.out hby ha1).mono ?_
    rintro e w' ⟨rfl, rfl⟩
    have hs1 := hb1.size
    have ho1' := ho1.alloc (.cells #[.int .i64 (sumL l)] 3)
    have hn1 := at_new (enc := encI) w1 encI_len [sumL l] 3 #[.int .i64 (sumL l)] rfl (show 1 ≤ maxLen by decide)
    go_wp2_with (at_builtin; refine wpList_append_at _ rfl _ _ 32 rfl w.heap.size 3 i0 (.int .i64 0) 1 8 Try.underlying32 hi hz0 hz1 hz2 rfl (by decide) v1 (1 + n) _ rfl ho1' encI_len encI_one _ 1 1 [sumL l] rfl rfl hn1 (by unfold maxLen; omega) (by omega) (by simp; omega) ?_; intro v2 w2 ho2 hg2 hv2)
    go_ret
    have hF := HF.out
    refine Out.of (n := 1 + n + 1) ?_ ?_ ho2 (below_app (below_alloc hb1 _) hg2 (own_ge ho1))
    · rw [hF]; simp [HL.out]; omega
    · rw [hF, HL.out]; simp [encI]
  · have HB := Lib.hid (show frameL l = [] from if_neg h)
    have h' : bodyB l = false := by simpa using h
    clear h
    go_enter Try.func27, Try.ntmps27
    go_wp2_with (go_at_call 49; refine (specBody_any _ _ _ l _ (by omega) hl ha).mono ?_; rintro e w' ⟨rfl, rfl⟩)
    go_ret
    exact Out.of (n := 0) (by rw [HB.out]; rfl) (by rw [HB.out]; rfl) (World.ownsRow_lit (base := w.heap.size) (e := 3) (size := 1) w #[] 0 (Nat.le_refl _) (by decide) rfl) ((Below.refl _ _).alloc (Nat.le_refl _) _)
end Go.Proofs.Ytnlgpjloedoebaa
