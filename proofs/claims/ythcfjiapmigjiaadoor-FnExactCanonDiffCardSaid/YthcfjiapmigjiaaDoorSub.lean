/- A part of a slice whose address is a letter. Over any program. -/
import Derived.Test.YthcfjiapmigjiaaDoorBase
namespace Go.Proofs.YthcfjiapmigjiaaDoor
open Go.RowKit
set_option linter.unusedSectionVars false
set_option linter.unusedSimpArgs false
set_option maxRecDepth 20000

/-- The address of s[lo:]: as the model has it, at the end of the capacity the old one. -/
def sub (A : Option Addr) (c lo k : Nat) : Option Addr := if c = lo then A else A.map (·.add (lo * k))

theorem sub_zero (A : Option Addr) (c k : Nat) : sub A c 0 k = A := by
  unfold sub
  split
  · rfl
  · cases A <;> simp [Addr.add]

theorem At.sub {α : Type} {enc : α → List Value} {k : Nat} {w : World} {A : Option Addr} {l : List α} (h : At enc k w A l) {c lo m : Nat} (hl : l.length ≤ c) (hm : lo + m ≤ l.length) : At enc k w (sub A c lo k) ((l.drop lo).take m) := by
  by_cases h0 : m = 0
  · subst h0; simp only [List.take_zero]; exact At.nil _
  have hlen : ((l.drop lo).take m).length = m := by rw [List.length_take, List.length_drop]; omega
  have hc : c ≠ lo := by omega
  have ha := h.addr (by omega)
  have hs : Go.Proofs.YthcfjiapmigjiaaDoor.sub A c lo k = some ⟨blk A, off A + lo * k, none⟩ := by
    unfold Go.Proofs.YthcfjiapmigjiaaDoor.sub
    rw [if_neg hc]
    generalize blk A = b at ha
    generalize off A = o at ha
    subst ha
    simp only [Option.map_some, Option.some.injEq]
    unfold Addr.add
    by_cases hz : lo * k = 0 <;> simp [hz]
  rw [hs]
  refine ⟨fun _ => rfl, fun _ => h.lt (by omega), fun j hj r u hu => ?_⟩
  have hjm : j < m := by rwa [hlen] at hj
  have hu' : (enc (l[lo + j]'(by omega)))[r]? = some u := by
    rw [← hu]
    congr 2
    simp
  have := h.cell (lo + j) (by omega) r u hu'
  show w.cell? ⟨blk A, off A + lo * k + j * k + r, none⟩ = some u
  rw [← this]
  congr 2
  rw [Nat.add_mul]; omega

theorem At.take {α : Type} {enc : α → List Value} {k : Nat} {w : World} {A : Option Addr} {l : List α} (h : At enc k w A l) {c m : Nat} (hl : l.length ≤ c) (hm : m ≤ l.length) : At enc k w A (l.take m) := by
  have := h.sub (c := c) (lo := 0) (m := m) hl (by omega)
  rwa [sub_zero, List.drop_zero] at this

section
variable {P : Program} {t e : TypeId} {i : TypeInfo} {k : Nat} (ht : P.underlying t = some (.slice e)) (hi : P.info? e = some i) (hk : i.size = k) (A : Option Addr) (n c : Nat) (W : World)
include ht hi hk
theorem run_slice_from (lo : Nat) (h1 : lo ≤ n) : (Instr.slice t (.slice A n c) (some (.int .i64 (lo : Int))) none none).run P W = .ok (.slice (sub A c lo k) (n - lo) (c - lo)) W := by
  have hb : (0 : Int) ≤ (lo : Int) ∧ (lo : Int) ≤ (n : Int) := ⟨by omega, by omega⟩
  simp [Instr.slice, Instr.sliceBounds, Instr.sliceBound, run_underlying ht, asIntOf, sizeOf, typeInfo, hi, hk, h1, sub]
theorem run_slice_upto (hi' : Nat) (h1 : hi' ≤ c) : (Instr.slice t (.slice A n c) none (some (.int .i64 (hi' : Int))) none).run P W = .ok (.slice A hi' c) W := by
  have hs := sub_zero A c k
  unfold sub at hs
  rw [Nat.zero_mul] at hs
  simp [Instr.slice, Instr.sliceBounds, Instr.sliceBound, run_underlying ht, asIntOf, sizeOf, typeInfo, hi, hk, h1, hs]
theorem run_slice_both (lo hi' : Nat) (h1 : lo ≤ hi') (h2 : hi' ≤ c) : (Instr.slice t (.slice A n c) (some (.int .i64 (lo : Int))) (some (.int .i64 (hi' : Int))) none).run P W = .ok (.slice (sub A c lo k) (hi' - lo) (c - lo)) W := by
  simp [Instr.slice, Instr.sliceBounds, Instr.sliceBound, run_underlying ht, asIntOf, sizeOf, typeInfo, hi, hk, h1, h2, sub]
end
end Go.Proofs.YthcfjiapmigjiaaDoor
