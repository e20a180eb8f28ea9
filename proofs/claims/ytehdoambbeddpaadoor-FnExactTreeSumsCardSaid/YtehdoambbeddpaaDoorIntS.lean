/- The laws' helpers on []int once more, in the form of the others. -/
import Derived.Test.YtehdoambbeddpaaDoorInts
import Derived.Test.YtehdoambbeddpaaDoorAppend
namespace Go.Proofs.YtehdoambbeddpaaDoor
open Go.RowKit
set_option linter.unusedVariables false
theorem encI_one (z : Int) : ∀ u ∈ encI z, u.oneCell' = true := by intro u hu; simp [encI] at hu; subst hu; rfl
theorem drewN_below (w : World) (q : Nat) : Below w.heap.size w (w.drewN q) := below_drawn (Below.refl _ _) q
theorem eqIntS_same (A : Option Addr) (n c : Nat) (B : Option Addr) (m : Nat) (l : List Int) (w : World) (hn : n ≤ 140737488355328) (hl : l.length = n) (ha : At encI 1 w A l) (hb : At encI 1 w B l) :
    Calls Tryd.prog 29 #[.slice A n c, .slice B n m] w fun e w' => e = .returned (.bool true) ∧ Below w.heap.size w w' :=
  (eqIntS_any A B n n c m l l w hn hl hl ha hb).mono fun e w' ⟨he, q, hq⟩ => ⟨he.trans (by rw [decide_eq_true rfl]), by rw [hq]; exact drewN_below w q⟩
def marksI (k n : Nat) : List Int := marks k n
theorem marksI_len (k n : Nat) : (marksI k n).length = n := marks_len _ _
theorem markIntS_nat (A : Option Addr) (n c k : Nat) (cs : List Value) (w : World) (base : Nat) (hn : n ≤ 1100000) (hk : 1 ≤ k) (hk2 : k ≤ 1000000) (ho : w.ownsRow base 3 1 (.slice A n c) n cs) (hb : base ≤ w.heap.size) :
    Calls Tryd.prog 30 #[.slice A n c, .int .i64 k] w fun e w' => e = .returned (.int .i64 ((k + n : Nat) : Int)) ∧ w'.ownsRow base 3 1 (.slice A n c) n ((marksI k n).flatMap encI) ∧ w.grownBy w' (rowOf A n) :=
  (markIntS_any A n c k cs w base (by omega) (by omega) (by omega) ho).mono fun e w' ⟨he, h1, h2⟩ => ⟨he.trans (by congr 1), h1, h2⟩
theorem heldIntS_nat (A : Option Addr) (n c k : Nat) (w : World) (hn : n ≤ 1100000) (hk : 1 ≤ k) (hk2 : k ≤ 1000000) (ha : At encI 1 w A (marksI k n)) :
    Calls Tryd.prog 31 #[.slice A n c, .int .i64 k] w fun e w' => e = .returned (.int .i64 ((k + n : Nat) : Int)) ∧ Below w.heap.size w w' := by
  exact (heldIntS_any A n c k w (by omega) (by omega) (by omega) ha).mono fun e w' ⟨he, q, hq⟩ => ⟨he.trans (by congr 1), by rw [hq]; exact drewN_below w q⟩
end Go.Proofs.YtehdoambbeddpaaDoor
