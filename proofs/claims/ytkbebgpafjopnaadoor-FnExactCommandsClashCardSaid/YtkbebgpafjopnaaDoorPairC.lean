/- Which commands clash, by both texts. -/
import Derived.Test.YtkbebgpafjopnaaDoorPair
namespace Go.Proofs.YtkbebgpafjopnaaDoor
open Go.RowKit
set_option linter.unusedVariables false
set_option linter.unusedSimpArgs false
set_option maxRecDepth 20000

def stopR (s t : List UInt8) (z c : Int) : Bool := underL s t && !decide (z = 1) && !decide (c = 0)
/-- Two commands clash. -/
def clashR (s : List UInt8) (z u : Int) (t : List UInt8) (c d : Int) : Bool := decide (s = t) && !decide (z = c ∧ u = d) || stopR s t z c || stopR t s c z

set_option maxHeartbeats 1000000 in
theorem specStop_any (s : ByteArray) (x y z u : Int) (t : ByteArray) (a b c d : Int) (w : World) (hs : s.size ≤ 1048576) (ht : t.size ≤ 1048576) :
    Calls Tryd.prog 86 #[.agg #[.string s, .int .i64 x, .int .i64 y, .int .i64 z, .int .i64 u], .agg #[.string t, .int .i64 a, .int .i64 b, .int .i64 c, .int .i64 d]] w fun e w' => e = .returned (.bool (stopR s.data.toList t.data.toList z c)) ∧ Below w.heap.size w w' := by
  have bw := below_alloc (below_alloc (Below.refl w.heap.size w) (.cells #[.string s, .int .i64 x, .int .i64 y, .int .i64 z, .int .i64 u] 41)) (.cells #[.string t, .int .i64 a, .int .i64 b, .int .i64 c, .int .i64 d] 41)
  obtain ⟨q, hq⟩ : ∃ q, underL s.data.toList t.data.toList = q := ⟨_, rfl⟩
  have HR := Lib.hid (show stopR s.data.toList t.data.toList z c = (q && !decide (z = 1) && !decide (c = 0)) by unfold stopR; rw [hq])
  have HQ := Lib.hid hq
  have HS := Lib.hid hs
  have HT := Lib.hid ht
  clear hq hs ht
  cases q
  all_goals
    go_enter Tryd.func86, Tryd.ntmps86
    go_wp2_with fail
    refine (specUnder_any s t _ HS.out HT.out).mono ?_
    rw [HQ.out]
    rintro e w' ⟨rfl, rfl⟩
    go_wp2_with fail
    all_goals go_ret
    all_goals exact ⟨ret_bool (by rw [HR.out]; first | rfl | (rw [Bool.eq_iff_iff]; simp [*])), below_alloc (below_alloc (Below.refl _ _) _) _⟩

set_option maxHeartbeats 1000000 in
theorem implStop_any (s : ByteArray) (x y z u : Int) (t : ByteArray) (a b c d : Int) (w : World) (hs : pathB s.data.toList = true) (ht : pathB t.data.toList = true) :
    Calls Tryd.prog 87 #[.agg #[.string s, .int .i64 x, .int .i64 y, .int .i64 z, .int .i64 u], .agg #[.string t, .int .i64 a, .int .i64 b, .int .i64 c, .int .i64 d]] w fun e w' => e = .returned (.bool (stopR s.data.toList t.data.toList z c)) ∧ Below w.heap.size w w' := by
  have bw := below_alloc (below_alloc (Below.refl w.heap.size w) (.cells #[.string s, .int .i64 x, .int .i64 y, .int .i64 z, .int .i64 u] 41)) (.cells #[.string t, .int .i64 a, .int .i64 b, .int .i64 c, .int .i64 d] 41)
  obtain ⟨q, hq⟩ : ∃ q, underL s.data.toList t.data.toList = q := ⟨_, rfl⟩
  have HR := Lib.hid (show stopR s.data.toList t.data.toList z c = (q && !decide (z = 1) && !decide (c = 0)) by unfold stopR; rw [hq])
  have HQ := Lib.hid hq
  have HS := Lib.hid hs
  have HT := Lib.hid ht
  clear hq hs ht
  cases q
  all_goals
    go_enter Tryd.func87, Tryd.ntmps87
    go_wp2_with fail
    refine (implUnder_any s t _ HS.out HT.out).mono ?_
    rw [HQ.out]
    rintro e w' ⟨rfl, rfl⟩
    go_wp2_with fail
    all_goals go_ret
    all_goals exact ⟨ret_bool (by rw [HR.out]; first | rfl | (rw [Bool.eq_iff_iff]; simp [*])), below_alloc (below_alloc (Below.refl _ _) _) _⟩
end Go.Proofs.YtkbebgpafjopnaaDoor
