/- Texts that are twisted: a byte is struck, or a text is put in. -/
import Derived.Test.YtlemkfpgdlfdnaaDoorDrawP
import Derived.Deep.RegionWith
import Derived.IntWalk
namespace Go.Proofs.YtlemkfpgdlfdnaaDoor
open Go Go.RowKit
set_option linter.unusedVariables false
set_option linter.unusedSimpArgs false

theorem wrap_pz (p z : Nat) (h : p + z ≤ 1000000) : IntKind.i64.wrap ((p : Int) + (z : Int)) = ((p + z : Nat) : Int) := by rw [IntWalk.i64_in _ (by omega)]; omega
theorem extract_size_le (s : ByteArray) (i j : Nat) : (s.extract i j).size ≤ min j s.size - i := by simp
set_option maxHeartbeats 8000000 in
theorem l91Twist_any (m k g q : Nat) (s : ByteArray) (A : Option Addr) (n c : Nat) (ss : List ByteArray) (w : World) (hr : Rd w g q) (hq : q ≤ 249755813888) (hsz : s.size ≤ k) (hk : k ≤ 1000000) (hl : ss.length = n) (h1 : 1 ≤ n) (h2 : n ≤ 1000) (ha : At encS 1 w A ss) (hg : g < blk A) (hm : ∀ s ∈ ss, s.size ≤ m) (hmm : m ≤ 1000) :
    Calls Tryd.prog 48 #[.pointer (some ⟨g, 0, none⟩), .string s, .slice A n c] w (DrawnS (k + m) 4 g q w) := by
  have HL := Lib.hid hl
  clear hl
  by_cases h0 : s.size = 0
  · have e0 : ((s.size : Int) > 0) = False := by rw [h0]; simp
    go_enter Tryd.func48, Tryd.ntmps48
    go_wp2_with fail
    go_ret
    exact ⟨s, rfl, by omega, hr.more (by omega), only_of_below (Below.refl _ _) _⟩
  go_enter Tryd.func48, Tryd.ntmps48
  go_wp2_with fail
  refine (pick_any 3 g q _ hr (by omega) (by omega) (by omega)).mono ?_
  rintro e w1 ⟨r1, rfl, h10, h11, -, hr1, hg1⟩
  have hl1 := h11 (by omega)
  clear h11
  have ha1 := ha.grown hg1 (fun _ he => by injection he with he; omega)
  by_cases k0 : r1 = 0
  case neg =>
    have k0' : (r1 == 0) = false := by simpa using k0
    clear k0
    go_wp2_with fail
    go_ret
    exact ⟨s, rfl, by omega, hr1.more (by omega), hg1⟩
  subst k0
  go_wp2_with fail
  refine (pick_any s.size g (q + 1) _ hr1 (by omega) (by omega) (by omega)).mono ?_
  rintro e w2 ⟨r2, rfl, h20, h21, -, hr2, hg2⟩
  have hl2 := h21 (by omega)
  clear h21
  obtain ⟨p, rfl⟩ := Int.eq_ofNat_of_zero_le h20
  have hp : p < s.size := by omega
  have ha2 := ha1.grown hg2 (fun _ he => by injection he with he; omega)
  have hw2 := grown_two hg1 hg2
  have hr2' : Rd w2.drew g (q + 2) := hr2.kept (only_drew (only_of_below (Below.refl _ _) none)) (fun b hb => by cases hb)
  have ha2' : At encS 1 w2.drew A ss := ha2.drewN 1
  have hw2' : w.grownBy w2.drew (some g) := only_drew hw2
  have of1 : ∀ q', q' ≤ q + 3 → ∀ W, Rd W g q' → At encS 1 W A ss → Calls Tryd.prog 54 #[.pointer (some ⟨g, 0, none⟩), .slice A n c] W (DrawnS m 1 g q' W) := fun q' hq' W hr ha => of_any m g q' A n c ss W hr (by omega) HL.out h1 h2 ha hg hm
  have pk1 : ∀ q', q' ≤ q + 3 → ∀ W, Rd W g q' → Calls Tryd.prog 52 #[.pointer (some ⟨g, 0, none⟩), .int .i64 2] W (Picked 2 g q' W) := fun q' hq' W hr => pick_any 2 g q' W hr (by omega) (by omega) (by omega)
  have hx1 : (s.extract 0 p).size ≤ k := by have := extract_size_le s 0 p; omega
  have hA : blk A ≠ g := by omega
  clear hg1 hg2 ha ha1 hr1 hr hr2 ha2 hw2
  go_wp2_with fail
  go_region_with (first
    | (go_at_call 54; refine (of1 (q + 2) (by omega) w2.drew hr2' ha2').mono ?_; rintro e w3 ⟨t, rfl, ht, hr3, hg3⟩; have hx2 := size_add (s.extract 0 p) t)
    | (go_at_call 54; refine (of1 (q + 3) (Nat.le_refl _) _ hr3 ha3).mono ?_; rintro e w4 ⟨t, rfl, ht, hr4, hg4⟩; have hx2 := size_add (s.extract 0 p) t)
    | (go_at_call 52; refine (pk1 (q + 2) (by omega) w2.drew hr2').mono ?_; rintro e w3 ⟨r3, rfl, h30, h31, -, hr3, hg3⟩; have h32 := h31 (by omega); clear h31; obtain ⟨z, rfl⟩ := Int.eq_ofNat_of_zero_le h30; have hz : (p : Int) + (z : Int) ≤ (s.size : Int) := (by omega); have hz' : p + z ≤ s.size := (by omega); have hwr : IntKind.i64.wrap ((p : Int) + (z : Int)) = ((p + z : Nat) : Int) := wrap_pz p z (by omega); have ha3 := ha2'.grown hg3 (fun _ he => hA (Option.some.inj he)))
    | (go_at_call 52; refine (pk1 (q + 3) (Nat.le_refl _) _ hr3).mono ?_; rintro e w4 ⟨r3, rfl, h30, h31, -, hr4, hg4⟩; have h32 := h31 (by omega); clear h31; obtain ⟨z, rfl⟩ := Int.eq_ofNat_of_zero_le h30; have hz : (p : Int) + (z : Int) ≤ (s.size : Int) := (by omega); have hz' : p + z ≤ s.size := (by omega); have hwr : IntKind.i64.wrap ((p : Int) + (z : Int)) = ((p + z : Nat) : Int) := wrap_pz p z (by omega)))
  all_goals
    clear of1 pk1
    go_wp2_with fail
    go_ret
    refine ⟨_, rfl, ?_, hr4.more (by omega), grown_two (grown_two hw2' hg3) hg4⟩
    rw [size_add, size_add]
    have e1 := extract_size_le s 0 p
    have e2 := extract_size_le s (p + z) s.size
    omega
end Go.Proofs.YtlemkfpgdlfdnaaDoor
