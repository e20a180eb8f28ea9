/- The reader of a code: what the laws draw their values with. Of a number that is drawn only its range is said. -/
import Derived.Test.YtlhhplhciiobfaaDoorProg
import Derived.Test.YtlhhplhciiobfaaDoorAppend
import Derived.Deep.QuietTactic
import Derived.BigQuiet
import Derived.KernelRfl
import Derived.Laws.BitsAllLaws
import Derived.Laws.BitsLemmas
namespace Go.Proofs.YtlhhplhciiobfaaDoor
open Go.RowKit
set_option linter.unusedVariables false

def encU8 (z : Int) : List Value := [.int .u8 z]

theorem infoByte : (Tryd.prog.info? 5).map (fun i => (i.zero, i.size, i.bytes)) = some (some (.int .u8 0), 1, 1) := by kernel_rfl

/-- Block g is a reader over the bytes bs; it has read at most q times. -/
structure Rd (w : World) (g : Nat) (q : Nat) : Prop where
  is : ∃ (A : Option Addr) (m c : Nat) (bs : List Int) (p : Nat), w.heap[g]? = some (.cells #[.slice A m c, .int .i64 p] 124) ∧ bs.length = m ∧ m ≤ 2000 ∧ p ≤ q ∧ At encU8 1 w A bs ∧ (0 < m → blk A < g) ∧ ∀ z ∈ bs, 0 ≤ z ∧ z ≤ 255

theorem ofInt_i64 (a : Nat) (ha : a < 9223372036854775808) : (BitVec.ofInt 64 (a : Int)).toNat = a := by
  rw [BitVec.ofInt_natCast, BitVec.toNat_ofNat]; exact Nat.mod_eq_of_lt (by omega)
theorem i64_xor_nat (a b : Nat) (ha : a < 9223372036854775808) (hb : b < 9223372036854775808) : bits .xor .i64 (a : Int) (b : Int) = ((a ^^^ b : Nat) : Int) := by
  have hx : a ^^^ b < 2 ^ 63 := Nat.xor_lt_two_pow (by omega) (by omega)
  show IntKind.i64.wrap ((BitVec.ofInt 64 (a : Int) ^^^ BitVec.ofInt 64 (b : Int)).toNat : Int) = _
  rw [BitVec.toNat_xor, ofInt_i64 a ha, ofInt_i64 b hb, IntKind.wrap_i64]
  omega
theorem xor_ge (x : Int) (h0 : 0 ≤ x) (h1 : x < 4611686018427387904) : 0 ≤ bits .xor .i64 x (x / 64) ∧ bits .xor .i64 x (x / 64) ≤ 9223372036854775807 := by
  obtain ⟨a, rfl⟩ := Int.eq_ofNat_of_zero_le h0
  have e : ((a : Int) / 64) = ((a / 64 : Nat) : Int) := by omega
  rw [e, i64_xor_nat a (a / 64) (by omega) (by omega)]
  have hx : a ^^^ (a / 64) < 2 ^ 63 := Nat.xor_lt_two_pow (by omega) (by omega)
  omega

/-- What pick answers: a number below n; 0 where n is not positive. -/
def Picked (n : Int) (g q : Nat) (w : World) (e : Ending) (w' : World) : Prop := ∃ r : Int, e = .returned (.int .i64 r) ∧ 0 ≤ r ∧ (1 ≤ n → r < n) ∧ (n < 1 → r = 0) ∧ Rd w' g (q + 1) ∧ w.grownBy w' (some g)

theorem rd_next {w : World} {g q p m c : Nat} {A : Option Addr} {bs : List Int} (hh : w.heap[g]? = some (.cells #[.slice A m c, .int .i64 p] 124)) (hbl : bs.length = m) (hm : m ≤ 2000) (hp : p ≤ q) (hat : At encU8 1 w A bs) (hne : 0 < m → blk A < g) (hby : ∀ z ∈ bs, 0 ≤ z ∧ z ≤ 255) (v : Value) (hv : v = .int .i64 ((p + 1 : Nat) : Int)) (d : Nat) :
    Rd ((w.setCell ⟨g, 1, none⟩ v).drewN d) g (q + 1) ∧ w.grownBy ((w.setCell ⟨g, 1, none⟩ v).drewN d) (some g) := by
  subst hv
  have hg : w.grownBy (w.setCell ⟨g, 1, none⟩ (.int .i64 ((p + 1 : Nat) : Int))) (some g) := ⟨rfl, rfl, rfl, by simp, fun k _ hk => heap_setCell_other w ⟨g, 1, none⟩ k _ (fun e => hk (by simp [e]))⟩
  refine ⟨⟨A, m, c, bs, p + 1, ?_, hbl, hm, by omega, (hat.grown hg fun h => fun he => (by have := hne (by omega); injection he with he; omega)).drewN d, hne, hby⟩, only_drewN hg d⟩
  exact heap_setCell_same w g 1 _ _ _ hh

theorem picked_of {n r : Int} {g q : Nat} {w W : World} (h0 : 0 ≤ r) (h1 : 1 ≤ n → r < n) (h2 : n < 1 → r = 0) (h : Rd W g (q + 1) ∧ w.grownBy W (some g)) : Picked n g q w (.returned (.int .i64 r)) W := ⟨r, rfl, h0, h1, h2, h.1, h.2⟩

set_option maxHeartbeats 1000000 in
theorem pick_any (n : Int) (g q : Nat) (w : World) (hr : Rd w g q) (hq : q ≤ 1099511627776) (hn : n ≤ 1099511627776) (hn' : -1099511627776 ≤ n) :
    Calls Tryd.prog 117 #[.pointer (some ⟨g, 0, none⟩), .int .i64 n] w (Picked n g q w) := by
  obtain ⟨A, m, c, bs, p, hh, hbl, hm, hp, hat, hne, hby⟩ := hr.is
  have c0 : w.cell? ⟨g, 0, none⟩ = some (.slice A m c) := by rw [cell_of_row w g 0 _ _ _ hh]; rfl
  have c1 : w.cell? ⟨g, 1, none⟩ = some (.int .i64 p) := by rw [cell_of_row w g 1 _ _ _ hh]; rfl
  have f1 : w.frozen? ⟨g, 1, none⟩ = false := by simp [World.frozen?, hh]
  have HN := Lib.hid (fun v hv d => rd_next hh hbl hm hp hat hne hby v hv d)
  have HB := Lib.hid hbl
  clear hh hbl
  by_cases h1 : n < 1
  · go_enter Tryd.func117, Tryd.ntmps117
    go_wp2
    go_ret
    exact picked_of (Int.le_refl 0) (fun h => by omega) (fun _ => rfl) (HN.out _ (by go_num) 0)
  by_cases h2 : m = 0
  · subst h2
    go_enter Tryd.func117, Tryd.ntmps117
    go_wp2
    go_ret
    exact picked_of (Int.le_refl 0) (fun h => by omega) (fun _ => rfl) (HN.out _ (by go_num) 0)
  obtain ⟨i0, hi, hz0, hz1, hz2⟩ := info_parts infoByte
  have hm1 : ((m : Int) == 0) = false := by simp; omega
  have hA := hat.addr (by rw [HB.out]; omega)
  have hbg : blk A ≠ g := by have := hne (by omega); omega
  have HA := Lib.hid hA
  clear hA hne
  by_cases h3 : p < m
  · have hlk : p < bs.length := by rw [HB.out]; exact h3
    have hidx := fun W => run_index_one (c := c) Tryd.underlying55 hi hz1 HA.out h3 W
    have c2 : w.cell? ⟨blk A, off A + p, none⟩ = some (.int .u8 bs[p]) := hat.cell1 hlk rfl
    have hz := hby bs[p] (List.getElem_mem _)
    go_enter Tryd.func117, Tryd.ntmps117
    go_wp2
    go_ret
    exact picked_of (Int.emod_nonneg _ (by omega)) (fun h => Int.emod_lt_of_pos _ (by omega)) (fun h => by omega) (HN.out _ (by go_num) 0)
  have hj1 : p % m < m := Nat.mod_lt _ (by omega)
  have hj2 : (p * 7 + 3) % m < m := Nat.mod_lt _ (by omega)
  have hl1 : p % m < bs.length := by rw [HB.out]; exact hj1
  have hl2 : (p * 7 + 3) % m < bs.length := by rw [HB.out]; exact hj2
  have e1 : ((p : Int) % (m : Int)) = ((p % m : Nat) : Int) := by rw [Int.natCast_emod]
  have e2 : (((p : Int) * 7 + 3) % (m : Int)) = (((p * 7 + 3) % m : Nat) : Int) := by rw [Int.natCast_emod]; rfl
  have hidx1 : ∀ W, (Instr.indexAt 55 (.slice A m c) (.int .i64 ((p : Int) % (m : Int)))).run Tryd.prog W = .ok (.pointer (some ⟨blk A, off A + p % m, none⟩)) W := by
    intro W; rw [e1]; exact run_index_one (c := c) Tryd.underlying55 hi hz1 HA.out hj1 W
  have hidx2 : ∀ W, (Instr.indexAt 55 (.slice A m c) (.int .i64 (((p : Int) * 7 + 3) % (m : Int)))).run Tryd.prog W = .ok (.pointer (some ⟨blk A, off A + (p * 7 + 3) % m, none⟩)) W := by
    intro W; rw [e2]; exact run_index_one (c := c) Tryd.underlying55 hi hz1 HA.out hj2 W
  have c2 : w.cell? ⟨blk A, off A + p % m, none⟩ = some (.int .u8 bs[p % m]) := hat.cell1 hl1 rfl
  have c3 : w.cell? ⟨blk A, off A + (p * 7 + 3) % m, none⟩ = some (.int .u8 bs[(p * 7 + 3) % m]) := hat.cell1 hl2 rfl
  have hz1' := hby bs[p % m] (List.getElem_mem _)
  have hz2' := hby bs[(p * 7 + 3) % m] (List.getElem_mem _)
  generalize bs[p % m] = b1 at c2 hz1'
  generalize bs[(p * 7 + 3) % m] = b2 at c3 hz2'
  clear e1 e2 hj1 hj2 hl1 hl2
  have hd0 : 0 ≤ (p : Int) / (m : Int) := Int.ediv_nonneg (by omega) (by omega)
  have hd1 : (p : Int) / (m : Int) ≤ p := Int.ediv_le_self _ (by omega)
  go_enter Tryd.func117, Tryd.ntmps117
  go_wp2
  go_quiet (fail)
  go_wp2
  go_ret
  refine picked_of (Int.tmod_nonneg _ ?_) (fun h => Int.tmod_lt_of_pos _ (by omega)) (fun h => by omega) (HN.out _ (by go_num) _)
  exact (xor_ge _ (by omega) (by omega)).1
end Go.Proofs.YtlhhplhciiobfaaDoor
