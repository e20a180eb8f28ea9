/- Two commands: which must precede, which clash, by both texts. -/
import Derived.Test.YtmhmfdikncgdgaaDoorCmdH
import Derived.Test.YtmhmfdikncgdgaaDoorPath4
namespace Go.Proofs.YtmhmfdikncgdgaaDoor
open Go.RowKit
set_option linter.unusedVariables false
set_option linter.unusedSimpArgs false
set_option maxRecDepth 20000

/-- A command (path s, to z) must precede another one (path t, from a). -/
def mustR (s t : List UInt8) (z a : Int) : Bool := underL t s && decide (a = 1) || underL s t && decide (z = 1)

set_option maxHeartbeats 1000000 in
theorem specMust_any (s : ByteArray) (x y z u : Int) (t : ByteArray) (a b c d : Int) (w : World) (hs : s.size ≤ 1048576) (ht : t.size ≤ 1048576) :
    Calls Tryd.prog 75 #[.agg #[.string s, .int .i64 x, .int .i64 y, .int .i64 z, .int .i64 u], .agg #[.string t, .int .i64 a, .int .i64 b, .int .i64 c, .int .i64 d]] w fun e w' => e = .returned (.bool (mustR s.data.toList t.data.toList z a)) ∧ Below w.heap.size w w' := by
  have bw := below_alloc (below_alloc (Below.refl w.heap.size w) (.cells #[.string s, .int .i64 x, .int .i64 y, .int .i64 z, .int .i64 u] 44)) (.cells #[.string t, .int .i64 a, .int .i64 b, .int .i64 c, .int .i64 d] 44)
  obtain ⟨p, hp⟩ : ∃ p, underL t.data.toList s.data.toList = p := ⟨_, rfl⟩
  obtain ⟨q, hq⟩ : ∃ q, underL s.data.toList t.data.toList = q := ⟨_, rfl⟩
  have HR := Lib.hid (show mustR s.data.toList t.data.toList z a = (p && decide (a = 1) || q && decide (z = 1)) by unfold mustR; rw [hp, hq])
  have HP := Lib.hid hp
  have HQ := Lib.hid hq
  have HS := Lib.hid hs
  have HT := Lib.hid ht
  clear hp hq hs ht
  cases p with
  | true =>
    by_cases ha : a = 1
    · subst ha
      go_enter Tryd.func75, Tryd.ntmps75
      go_wp2_with fail
      refine (specUnder_any t s _ HT.out HS.out).mono ?_
      rw [HP.out]
      rintro e w' ⟨rfl, rfl⟩
      go_wp2_with fail
      go_ret
      exact ⟨ret_bool (by rw [HR.out]; rfl), bw⟩
    · have ha' : (a == 1) = false := by simpa using ha
      have HR2 := Lib.hid (HR.out.trans (show _ = (q && decide (z = 1)) by rw [decide_eq_false ha]; rfl))
      clear ha
      cases q
      all_goals
        go_enter Tryd.func75, Tryd.ntmps75
        go_wp2_with fail
        refine (specUnder_any t s _ HT.out HS.out).mono ?_
        rw [HP.out]
        rintro e w' ⟨rfl, rfl⟩
        go_wp2_with fail
        refine (specUnder_any s t _ HS.out HT.out).mono ?_
        rw [HQ.out]
        rintro e w' ⟨rfl, rfl⟩
        go_wp2_with fail
        all_goals go_ret
        all_goals exact ⟨ret_bool (by rw [HR2.out]; first | rfl | (rw [Bool.eq_iff_iff]; simp [*])), bw⟩
  | false =>
    have HR2 := Lib.hid (HR.out.trans (show _ = (q && decide (z = 1)) from rfl))
    cases q
    all_goals
      go_enter Tryd.func75, Tryd.ntmps75
      go_wp2_with fail
      refine (specUnder_any t s _ HT.out HS.out).mono ?_
      rw [HP.out]
      rintro e w' ⟨rfl, rfl⟩
      go_wp2_with fail
      refine (specUnder_any s t _ HS.out HT.out).mono ?_
      rw [HQ.out]
      rintro e w' ⟨rfl, rfl⟩
      go_wp2_with fail
      all_goals go_ret
      all_goals exact ⟨ret_bool (by rw [HR2.out]; first | rfl | (rw [Bool.eq_iff_iff]; simp [*])), bw⟩

set_option maxHeartbeats 1000000 in
theorem implMust_any (s : ByteArray) (x y z u : Int) (t : ByteArray) (a b c d : Int) (w : World) (hs : pathB s.data.toList = true) (ht : pathB t.data.toList = true) :
    Calls Tryd.prog 76 #[.agg #[.string s, .int .i64 x, .int .i64 y, .int .i64 z, .int .i64 u], .agg #[.string t, .int .i64 a, .int .i64 b, .int .i64 c, .int .i64 d]] w fun e w' => e = .returned (.bool (mustR s.data.toList t.data.toList z a)) ∧ Below w.heap.size w w' := by
  have bw := below_alloc (below_alloc (Below.refl w.heap.size w) (.cells #[.string s, .int .i64 x, .int .i64 y, .int .i64 z, .int .i64 u] 44)) (.cells #[.string t, .int .i64 a, .int .i64 b, .int .i64 c, .int .i64 d] 44)
  obtain ⟨p, hp⟩ : ∃ p, underL t.data.toList s.data.toList = p := ⟨_, rfl⟩
  obtain ⟨q, hq⟩ : ∃ q, underL s.data.toList t.data.toList = q := ⟨_, rfl⟩
  have HR := Lib.hid (show mustR s.data.toList t.data.toList z a = (p && decide (a = 1) || q && decide (z = 1)) by unfold mustR; rw [hp, hq])
  have HP := Lib.hid hp
  have HQ := Lib.hid hq
  have HS := Lib.hid hs
  have HT := Lib.hid ht
  clear hp hq hs ht
  cases p with
  | true =>
    by_cases ha : a = 1
    · subst ha
      go_enter Tryd.func76, Tryd.ntmps76
      go_wp2_with fail
      refine (implUnder_any t s _ HT.out HS.out).mono ?_
      rw [HP.out]
      rintro e w' ⟨rfl, rfl⟩
      go_wp2_with fail
      go_ret
      exact ⟨ret_bool (by rw [HR.out]; rfl), bw⟩
    · have ha' : (a == 1) = false := by simpa using ha
      have HR2 := Lib.hid (HR.out.trans (show _ = (q && decide (z = 1)) by rw [decide_eq_false ha]; rfl))
      clear ha
      cases q
      all_goals
        go_enter Tryd.func76, Tryd.ntmps76
        go_wp2_with fail
        refine (implUnder_any t s _ HT.out HS.out).mono ?_
        rw [HP.out]
        rintro e w' ⟨rfl, rfl⟩
        go_wp2_with fail
        refine (implUnder_any s t _ HS.out HT.out).mono ?_
        rw [HQ.out]
        rintro e w' ⟨rfl, rfl⟩
        go_wp2_with fail
        all_goals go_ret
        all_goals exact ⟨ret_bool (by rw [HR2.out]; first | rfl | (rw [Bool.eq_iff_iff]; simp [*])), bw⟩
  | false =>
    have HR2 := Lib.hid (HR.out.trans (show _ = (q && decide (z = 1)) from rfl))
    cases q
    all_goals
      go_enter Tryd.func76, Tryd.ntmps76
      go_wp2_with fail
      refine (implUnder_any t s _ HT.out HS.out).mono ?_
      rw [HP.out]
      rintro e w' ⟨rfl, rfl⟩
      go_wp2_with fail
      refine (implUnder_any s t _ HS.out HT.out).mono ?_
      rw [HQ.out]
      rintro e w' ⟨rfl, rfl⟩
      go_wp2_with fail
      all_goals go_ret
      all_goals exact ⟨ret_bool (by rw [HR2.out]; first | rfl | (rw [Bool.eq_iff_iff]; simp [*])), bw⟩
end Go.Proofs.YtmhmfdikncgdgaaDoor
