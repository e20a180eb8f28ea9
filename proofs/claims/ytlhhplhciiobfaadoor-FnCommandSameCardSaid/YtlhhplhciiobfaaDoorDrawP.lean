/- Texts are drawn: one of a list, a path. Of what is drawn only its length is said. -/
import Derived.Test.YtlhhplhciiobfaaDoorDraw2
import Derived.Test.YtlhhplhciiobfaaDoorPath
import Derived.OpenShut
namespace Go.Proofs.YtlhhplhciiobfaaDoor
open Go Go.RowKit
set_option linter.unusedVariables false
set_option linter.unusedSimpArgs false
set_option maxRecDepth 20000

/-- A text of at most m bytes is drawn, with at most d numbers. -/
def DrawnS (m d g q : Nat) (w : World) (e : Ending) (w' : World) : Prop := ∃ s : ByteArray, e = .returned (.string s) ∧ s.size ≤ m ∧ Rd w' g (q + d) ∧ w.grownBy w' (some g)

set_option maxHeartbeats 1000000 in
theorem of_any (m g q : Nat) (A : Option Addr) (n c : Nat) (ss : List ByteArray) (w : World) (hr : Rd w g q) (hq : q ≤ 549755813888) (hl : ss.length = n) (h1 : 1 ≤ n) (h2 : n ≤ 1000) (ha : At encS 1 w A ss) (hg : g < blk A) (hm : ∀ s ∈ ss, s.size ≤ m) :
    Calls Tryd.prog 142 #[.pointer (some ⟨g, 0, none⟩), .slice A n c] w (DrawnS m 1 g q w) := by
  obtain ⟨i0, hi, hz0, hz1, hz2⟩ := info_parts infoStr
  have HL := Lib.hid hl
  clear hl
  have hA := ha.addr (by rw [HL.out]; exact h1)
  have HA := Lib.hid hA
  clear hA
  go_enter Tryd.func142, Tryd.ntmps142
  go_wp2_with fail
  refine (pick_any n g q _ hr (by omega) (by omega) (by omega)).mono ?_
  rintro e w1 ⟨r1, rfl, h10, h11, -, hr1, hg1⟩
  have hl1 := h11 (by omega)
  clear h11
  obtain ⟨k, rfl⟩ := Int.eq_ofNat_of_zero_le h10
  have hk : k < n := by omega
  have hlk : k < ss.length := by rw [HL.out]; exact hk
  have ha1 := ha.grown hg1 (fun _ he => by injection he with he; omega)
  have hidx := fun W => run_index_one (c := c) Tryd.underlying88 hi hz1 HA.out hk W
  have c1 : w1.cell? ⟨blk A, off A + k, none⟩ = some (.string ss[k]) := ha1.cell1 hlk rfl
  have hs := hm ss[k] (List.getElem_mem _)
  go_wp2_with fail
  go_ret
  exact ⟨_, rfl, hs, hr1, hg1⟩

def textsP : List ByteArray := [⟨#[]⟩, ⟨#[47]⟩, ⟨#[97]⟩, ⟨#[47, 101]⟩, ⟨#[47, 97, 47]⟩, ⟨#[47, 47, 97]⟩, ⟨#[47, 97, 47, 98, 47, 99, 47, 100, 47, 97]⟩, ⟨#[47, 97, 98]⟩]
def lettersP : List ByteArray := [⟨#[97]⟩, ⟨#[98]⟩, ⟨#[97]⟩, ⟨#[98]⟩, ⟨#[99]⟩, ⟨#[100]⟩]
theorem textsP_le : ∀ s ∈ textsP, s.size ≤ 10 := by decide
theorem lettersP_le : ∀ s ∈ lettersP, s.size ≤ 1 := by decide
theorem size_add (a b : ByteArray) : (a ++ b).size = a.size + b.size := by simp

set_option maxHeartbeats 1000000 in
theorem l91Path_any (g q : Nat) (w : World) (hr : Rd w g q) (hq : q ≤ 249755813888) :
    Calls Tryd.prog 118 #[.pointer (some ⟨g, 0, none⟩)] w (DrawnS 10 8 g q w) := by
  have hgl := hr.lt
  go_enter Tryd.func118, Tryd.ntmps118
  go_wp2_with fail
  refine (pick_any 24 g q _ hr (by omega) (by omega) (by omega)).mono ?_
  rintro e w1 ⟨r1, rfl, h10, h11, -, hr1, hg1⟩
  have hl1 := h11 (by omega)
  have hz1 := hg1.size
  clear h11
  by_cases k0 : r1 = 0
  · subst k0
    have hn := at_new (enc := encS) w1 encS_len textsP 9 #[.string ⟨#[]⟩, .string ⟨#[47]⟩, .string ⟨#[97]⟩, .string ⟨#[47, 101]⟩, .string ⟨#[47, 97, 47]⟩, .string ⟨#[47, 47, 97]⟩, .string ⟨#[47, 97, 47, 98, 47, 99, 47, 100, 47, 97]⟩, .string ⟨#[47, 97, 98]⟩] rfl (show 8 ≤ maxLen by decide)
    go_wp2_with fail
    refine (of_any 10 g (q + 1) _ 8 _ textsP _ (hr1.alloc _) (by omega) rfl (by omega) (by omega) hn (by show g < w1.heap.size; omega) textsP_le).mono ?_
    rintro e w2 ⟨s, rfl, hs, hr2, hg2⟩
    go_wp2_with fail
    go_ret
    exact ⟨s, rfl, hs, hr2.more (by omega), grown_two (grown_two hg1 (World.grownBy_alloc w1 _ _)) hg2⟩
  · have k0' : (r1 == 0) = false := by simpa using k0
    clear k0
    go_wp2_with fail
    refine (pick_any 4 g (q + 1) _ hr1 (by omega) (by omega) (by omega)).mono ?_
    rintro e w2 ⟨r2, rfl, h20, h21, -, hr2, hg2⟩
    have hl2 := h21 (by omega)
    clear h21
    have hw2 := grown_two hg1 hg2
    go_wp2_with fail
    refine (pick_any 2 g (q + 2) _ hr2 (by omega) (by omega) (by omega)).mono ?_
    rintro e w3 ⟨r3, rfl, h30, h31, -, hr3, hg3⟩
    have hl3 := h31 (by omega)
    clear h31
    have hw3 := grown_two hw2 hg3
    obtain ⟨N, hN, hN4, hmul0, hmul1⟩ : ∃ N : Nat, (N : Int) = 1 + r2 * r3 ∧ N ≤ 4 ∧ 0 ≤ r2 * r3 ∧ r2 * r3 ≤ 3 := by
      obtain rfl | rfl : r3 = 0 ∨ r3 = 1 := by omega
      · exact ⟨1, by omega, by omega, by omega, by omega⟩
      · exact ⟨(1 + r2).toNat, by omega, by omega, by omega, by omega⟩
    have HN := Lib.hid hN
    clear hg1 hg2 hg3 hr1 hr2 hw2 hN
    go_wp2_with fail
    rw [← HN.out]
    go_loopw [4, 5] (fun o i wr => ∃ (k : Nat) (t : ByteArray), i = .int .i64 k ∧ o = .string t ∧ k ≤ N ∧ t.size ≤ 2 * k ∧ Rd wr g (q + 3 + k) ∧ w.grownBy wr (some g)) (fun _ i _ => N - (intOf i).toNat)
    case atStart => exact ⟨0, ⟨#[]⟩, rfl, rfl, Nat.zero_le _, Nat.le_refl _, hr3, hw3⟩
    case round =>
      obtain ⟨k, t, rfl, rfl, hk, ht, hrk, hwk⟩ := hrel
      have hzk := hwk.size
      by_cases hlt : k < N
      · have hn := at_new (enc := encS) wr encS_len lettersP 9 #[.string ⟨#[97]⟩, .string ⟨#[98]⟩, .string ⟨#[97]⟩, .string ⟨#[98]⟩, .string ⟨#[99]⟩, .string ⟨#[100]⟩] rfl (show 6 ≤ maxLen by decide)
        have hs1 : (t ++ ⟨#[47]⟩ : ByteArray).size ≤ 2 * k + 1 := by rw [size_add]; show t.size + 1 ≤ _; omega
        go_wp2_with fail
        refine (of_any 1 g (q + 3 + k) _ 6 _ lettersP _ (hrk.alloc _) (by omega) rfl (by omega) (by omega) hn (by show g < wr.heap.size; omega) lettersP_le).mono ?_
        rintro e w5 ⟨s, rfl, hs, hr5, hg5⟩
        go_wp2_with fail
        go_roundw
        case rel => exact ⟨k + 1, _, by go_num, rfl, by omega, by rw [size_add, size_add]; show t.size + 1 + s.size ≤ _; omega, hr5.more (by omega), grown_two (grown_two hwk (World.grownBy_alloc wr _ _)) hg5⟩
        case measure => simp [intOf]; omega
      · obtain rfl : N = k := by omega
        go_wp2_with fail
        go_ret
        exact ⟨t, rfl, by omega, hrk.more (by omega), hwk⟩

/-- A text that is drawn for a law. -/
def IsS (m : Nat) (w : World) (e : Ending) (w' : World) : Prop := ∃ s : ByteArray, e = .returned (.string s) ∧ s.size ≤ m ∧ Below w.heap.size w w'
theorem u8_bd' {l : List Int} (h : ∀ u ∈ l, (Lit.int .u8 u).wf = true) : ∀ z ∈ l, 0 ≤ z ∧ z ≤ 255 := fun z hz => bounds_u8 (h z hz)
end Go.Proofs.YtlhhplhciiobfaaDoor
