/- The walk of the exact law on BodySum: both texts' sums are one function; the argument reads as before. -/
import Derived.Test.YtnlgpjloedoebaaFrames
namespace Go.Proofs.Ytnlgpjloedoebaa
open Go.RowKit
set_option linter.unusedVariables false

theorem same_refl {α : Type} [DecidableEq α] {xs ys : List α} (h : xs = ys) {w : World} {e : Ending} {w' : World} (hs : Same xs ys w e w') : e = .returned (.bool true) ∧ ∃ q, w' = w.drewN q :=
  ⟨hs.1.trans (by rw [decide_eq_true h]), hs.2⟩

set_option maxHeartbeats 400000 in
theorem walk_FnExactBodySum (A : Option Addr) (n c : Nat) (l : List Int) (hl : l.length = n) (hnc : n ≤ c) (hcm : c ≤ maxLen) (w : World) (ha : At encI 1 w A l) (hw : ∀ u ∈ l, (Lit.int .i64 u).wf = true) :
    Calls Try.prog 6 #[.slice A n c] w fun e w' => e = .returned (.bool true) ∧ Below w.heap.size w w' := by
  have HL := Lib.hid hl
  clear hl
  by_cases hbig : 1048576 < n
  · go_enter Try.func6, Try.ntmps6
    go_wp2
    go_ret
    exact ⟨rfl, Below.refl _ _⟩
  have hn : n ≤ 1048576 := by omega
  clear hbig
  go_enter Try.func6, Try.ntmps6
  go_wp2_with fail
  refine (toIntS_any A n c l _ (by omega) HL.out ha).mono ?_
  rintro e w1 ⟨g1, rfl, ho1, hb1⟩
  have at1 := own_at encI_len ho1 HL.out
  have ha1 := ha.belowS hb1
  go_wp2_with fail
  refine (specBodySum_any _ n n l _ (by omega) HL.out at1).mono ?_
  rintro e w' ⟨rfl, rfl⟩
  go_wp2_with fail
  refine (toIntS_any A n c l _ (by omega) HL.out ha1).mono ?_
  rintro e w2 ⟨g2, rfl, ho2, hb2⟩
  have at2 := own_at encI_len ho2 HL.out
  have ha2 := ha1.belowS hb2
  go_wp2_with fail
  refine (implBodySum_any _ n n l _ (by omega) HL.out at2).mono ?_
  rintro e w' ⟨rfl, rfl⟩
  go_wp2_with fail
  refine (toIntS_any A n c l _ (by omega) HL.out ha2).mono ?_
  rintro e w3 ⟨g3, rfl, ho3, hb3⟩
  have at3 := own_at encI_len ho3 HL.out
  have at2' := at2.belowS hb3
  go_wp2_with fail
  refine (eqIntS_any _ _ n n n n l l _ (by omega) HL.out HL.out at2' at3).mono ?_
  rintro e w' hs
  obtain ⟨rfl, q, rfl⟩ := same_refl rfl hs
  go_wp2
  go_ret
  exact ⟨rfl, by repeat (first | exact Below.refl _ _ | refine below_drawn ?_ _ | refine below_step ?_ (by assumption) | refine below_alloc ?_ _)⟩
end Go.Proofs.Ytnlgpjloedoebaa
