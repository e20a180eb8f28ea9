/- The laws' marks: the letter m and a number in decimals. -/
import Derived.Test.YthcfjiapmigjiaaDoorOpenK
import Derived.Test.YthcfjiapmigjiaaDoorAppend
import Derived.Lib.Strings
import Derived.Laws.IdiomStrings
import Derived.Deep.RegionWith
namespace Go.Proofs.YthcfjiapmigjiaaDoor
open Go.RowKit
set_option linter.unusedVariables false
set_option linter.unusedSimpArgs false
set_option maxRecDepth 20000

theorem conv1 (m : Int) (h0 : 0 ≤ m) (h1 : m < 256) (W : World) (b : Nat) (hc : W.cell? ⟨b, 0, none⟩ = some (.int .u8 m)) :
    (convert 87 9 (.slice (some ⟨b, 0, none⟩) 1 1)).run Tryd.prog W = .ok (.string ⟨#[UInt8.ofNat m.toNat]⟩) W := by
  refine run_convert_bytes_back W 87 9 5 ⟨b, 0, none⟩ 1 [UInt8.ofNat m.toNat] Tryd.underlying87 Tryd.underlying5 Tryd.underlying9 ?_
  intro j hj
  have : j = 0 := by simpa using hj
  subst this
  have e : ((⟨b, 0, none⟩ : Addr).add 0) = ⟨b, 0, none⟩ := by simp [Addr.add]
  rw [e, hc]
  simp only [List.getElem_cons_zero]
  rw [UInt8.toNat_ofNat_of_lt' (by show m.toNat < 256; omega)]
  congr 2; omega
/-- The digits of a number. -/
def dg (v : Nat) : List UInt8 := if h : v < 10 then [48 + UInt8.ofNat (v % 10)] else dg (v / 10) ++ [48 + UInt8.ofNat (v % 10)]
termination_by v
decreasing_by omega
theorem decLen : ∀ (n v : Nat), v ≤ n → (dg v).length ≤ n + 1
  | n, v, h => by
    rw [dg]
    by_cases h10 : v < 10
    · rw [dif_pos h10]; simp
    · rw [dif_neg h10]
      cases n with
      | zero => omega
      | succ n =>
        have := decLen n (v / 10) (by omega)
        simp; omega
/-- The mark's text. -/
def mtB (K : Nat) : ByteArray := ⟨(109 :: dg K).toArray⟩
theorem mtB_size (K : Nat) (h : K ≤ 100000000) : (mtB K).size ≤ 100000002 := by
  have := decLen K K (Nat.le_refl _)
  show (109 :: dg K).toArray.size ≤ _
  simp; omega
theorem bytes_eq {s : ByteArray} {l : List UInt8} (h : s.data.toList = l) : s = ⟨l.toArray⟩ := by
  cases s; simp at h; subst h; simp
def Left (K j : Nat) (o : ByteArray) : Prop := j = 0 ∧ o.data.toList = dg K ∨ 0 < j ∧ dg j ++ o.data.toList = dg K
theorem Left.step {K j : Nat} {o : ByteArray} (h : Left K j o) (hj : 0 < j) : Left K (j / 10) (⟨#[48 + UInt8.ofNat (j % 10)]⟩ ++ o) := by
  rcases h with ⟨h0, _⟩ | ⟨_, h⟩
  · omega
  rw [dg] at h
  by_cases h10 : j < 10
  · rw [dif_pos h10] at h
    left
    refine ⟨by omega, ?_⟩
    rw [ByteArray.data_append, Array.toList_append, ← h]
  · rw [dif_neg h10] at h
    right
    refine ⟨by omega, ?_⟩
    rw [ByteArray.data_append, Array.toList_append, ← h, List.append_assoc]
theorem Left.size {K j : Nat} {o : ByteArray} (h : Left K j o) : o.size ≤ K + 1 := by
  have := decLen K K (Nat.le_refl _)
  rw [Lib.size_eq]
  rcases h with ⟨_, h⟩ | ⟨_, h⟩
  · rw [h]; exact this
  · have h2 := congrArg List.length h
    rw [List.length_append] at h2; omega

set_option maxHeartbeats 1000000 in
theorem markText_any (K : Nat) (w : World) (h1 : 1 ≤ K) (h2 : K ≤ 100000000) :
    Calls Tryd.prog 34 #[.int .i64 K] w fun e w' => e = .returned (.string (mtB K)) ∧ Below w.heap.size w w' := by
  go_enter Tryd.func34, Tryd.ntmps34
  go_wp2_with fail
  go_loopw [0, 3] (fun v o wr => ∃ (j : Nat) (t : ByteArray), v = .int .i64 j ∧ o = .string t ∧ j ≤ K ∧ Hid (Left K j t) ∧ Below w.heap.size w wr) (fun v _ _ => (intOf v).toNat)
  case atStart => exact ⟨K, ⟨#[]⟩, rfl, rfl, Nat.le_refl _, Lib.hid (.inr ⟨by omega, by simp⟩), Below.refl _ _⟩
  case round =>
    obtain ⟨j, t, rfl, rfl, hj, HL, hbw⟩ := hrel
    have htz := HL.out.size
    by_cases hj0 : 0 < j
    · have kc := conv1 (48 + (j : Int) % 10) (by omega) (by omega)
      have HN := Lib.hid (HL.out.step hj0)
      go_wp2_with fail
      have e2 : (j : Int).tmod 10 = (j : Int) % 10 := Int.tmod_eq_emod_of_nonneg (by omega)
      have e1 : IntKind.i64.wrap ((j : Int).tdiv 10) = (j : Int) / 10 := by rw [Int.tdiv_eq_ediv_of_nonneg (by omega)]; exact IntWalk.i64_in _ (by omega)
      try go_wp2_with fail
      go_roundw
      case rel => exact ⟨j / 10, _, by go_num, rfl, by omega, HN, below_alloc hbw _⟩
      case measure => simp [intOf]; omega
    · obtain rfl : j = 0 := by omega
      have hd : t.data.toList = dg K := by
        rcases HL.out with ⟨_, h⟩ | ⟨h, _⟩
        · exact h
        · omega
      have hr : (⟨#[109]⟩ ++ t : ByteArray) = mtB K := bytes_eq (by rw [ByteArray.data_append, Array.toList_append, hd]; rfl)
      have HR := Lib.hid hr
      clear hr hd
      go_wp2_with fail
      go_ret
      exact ⟨congrArg (fun b => Ending.returned (.string b)) HR.out, hbw⟩

end Go.Proofs.YthcfjiapmigjiaaDoor
