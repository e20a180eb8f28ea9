/- The walks of the laws on texts of contents that are read. -/
import Derived.Test.YtlemkfpgdlfdnaaDoorParse
import Derived.Test.YtlemkfpgdlfdnaaDoorDrawT
import Derived.Test.YtlemkfpgdlfdnaaDoorWPathLaws
namespace Go.Proofs.YtlemkfpgdlfdnaaDoor
open Go.RowKit
set_option linter.unusedVariables false
set_option linter.unusedSimpArgs false

theorem eqContent_any (x y u v : Int) (w : World) : Calls Tryd.prog 24 #[.agg #[.int .i64 x, .int .i64 y], .agg #[.int .i64 u, .int .i64 v]] w fun e w' => e = .returned (.bool (decide (x = u ∧ y = v))) ∧ Below w.heap.size w w' := by
  by_cases h1 : x = u
  · by_cases h2 : y = v
    · subst h1 h2
      go_enter Tryd.func24, Tryd.ntmps24
      go_wp2_with fail
      go_ret
      exact ⟨ret_bool (by simp), below_alloc (below_alloc (Below.refl _ _) _) _⟩
    · have H2 := Lib.hid h2
      subst h1
      go_enter Tryd.func24, Tryd.ntmps24
      go_wp2_with fail
      go_ret
      exact ⟨ret_bool (decide_eq_false fun h => H2.out h.2).symm, below_alloc (below_alloc (Below.refl _ _) _) _⟩
  · have H1 := Lib.hid h1
    go_enter Tryd.func24, Tryd.ntmps24
    go_wp2_with fail
    go_ret
    exact ⟨ret_bool (decide_eq_false fun h => H1.out h.1).symm, below_alloc (below_alloc (Below.refl _ _) _) _⟩

/-- What a content that lies in a block reads as, behind calls that only make memory. -/
theorem blk2 {w : World} {g : Nat} {t : TypeId} {u v : Value} (h : Blk w g t #[u, v]) : w.cell? ⟨g, 0, none⟩ = some u ∧ w.cell? ⟨g, 1, none⟩ = some v ∧ w.frozen? ⟨g, 0, none⟩ = false ∧ w.frozen? ⟨g, 1, none⟩ = false :=
  ⟨h.cell 0, h.cell 1, h.frozen 0, h.frozen 1⟩

theorem walk_FnExactContentParse (s : ByteArray) (ws : s.size ≤ maxLen) (w : World) :
    Calls Tryd.prog 6 #[.string s] w fun e w' => e = .returned (.bool true) ∧ Below w.heap.size w w' := by
  unfold maxLen at ws
  by_cases hbig : 1048576 < s.size
  · go_enter Tryd.func6, Tryd.ntmps6
    go_wp2_with fail
    go_ret
    exact ⟨rfl, Below.refl _ _⟩
  obtain ⟨x, y, b, hp⟩ : ∃ x y b, parseR s.data.toList = (x, y, b) := ⟨_, _, _, rfl⟩
  have HP := Lib.hid hp
  clear hp
  go_enter Tryd.func6, Tryd.ntmps6
  go_wp2_with fail
  refine (specParse_any s _).mono ?_
  rintro e w1 ⟨x1, y1, b1, rfl, h1, hb1⟩
  obtain ⟨rfl, rfl, rfl⟩ : x1 = x ∧ y1 = y ∧ b1 = b := by have := h1.symm.trans HP.out; simpa using this
  clear h1
  go_wp2_with fail
  refine (implParse_any s _).mono ?_
  rintro e w2 ⟨x2, y2, b2, rfl, h2, hb2⟩
  obtain ⟨rfl, rfl, rfl⟩ : x2 = x1 ∧ y2 = y1 ∧ b2 = b1 := by have := h2.symm.trans HP.out; simpa using this
  clear h2
  have B2 := (Blk.new w1 25 #[.int .i64 x2, .int .i64 y2]).belowS hb2
  have bw2 := below_step (below_alloc hb1 _) hb2
  obtain ⟨c0, c1, f0, f1⟩ := blk2 B2
  have hz := B2.lt
  have hne : w1.heap.size ≠ w2.heap.size := by omega
  clear hb2 hb1
  go_wp2_with fail
  refine (eqContent_any x2 y2 x2 y2 _).mono ?_
  rintro e w3 ⟨rfl, hb3⟩
  have bw3 := below_step (below_alloc bw2 _) hb3
  have hd : decide (x2 = x2 ∧ y2 = y2) = true := decide_eq_true ⟨rfl, rfl⟩
  rw [hd]
  have hbb : (b2 != b2) = false := by simp
  clear hd
  go_wp2_with fail
  go_ret
  exact ⟨rfl, bw3⟩

def textsC : List ByteArray := [⟨#[]⟩, ⟨#[48]⟩, ⟨#[49]⟩, ⟨#[102]⟩, ⟨#[100]⟩, ⟨#[45]⟩]
theorem textsC_le : ∀ s ∈ textsC, s.size ≤ 1 := by decide
set_option maxHeartbeats 1000000 in
theorem drawParse_any (A : Option Addr) (n c : Nat) (l : List Int) (w : World) (hl : l.length = n) (hnc : n ≤ c) (ha : At encU8 1 w A l) (hby : ∀ z ∈ l, 0 ≤ z ∧ z ≤ 255) (hn : n ≤ 140737488355328) :
    Calls Tryd.prog 32 #[.slice A n c] w (IsS 4 w) := by
  go_enter Tryd.func32, Tryd.ntmps32
  go_wp2_with fail
  refine (l6Open_any A n c l _ hl hnc ha hby hn).mono ?_
  rintro e w1 ⟨g, rfl, hr, hg, hb1⟩
  clear hl
  go_wp2_with fail
  refine (l91Content_any g 0 _ hr (by omega)).mono ?_
  rintro e w2 ⟨x, y, rfl, hx, hy, hr2, hg2⟩
  have bw2 := below_only hb1 hg2 (fun b hb => by injection hb with hb; omega)
  go_wp2_with fail
  refine (specText_any x y _).mono ?_
  rintro e w3 ⟨s, rfl, -, hs, hb3⟩
  have bw3 := below_step bw2 hb3
  have hr3 := (hr2.below hb3)
  have hn3 := at_new (enc := encS) w3 encS_len textsC 9 #[.string ⟨#[]⟩, .string ⟨#[48]⟩, .string ⟨#[49]⟩, .string ⟨#[102]⟩, .string ⟨#[100]⟩, .string ⟨#[45]⟩] rfl (show 6 ≤ maxLen by decide)
  have hgl := hr3.lt
  go_wp2_with fail
  refine (l91Twist_any 1 3 g 4 s _ 6 _ textsC _ (hr3.alloc _) (by omega) hs (by omega) rfl (by omega) (by omega) hn3 hgl textsC_le (by omega)).mono ?_
  rintro e w4 ⟨t, rfl, ht, hr4, hg4⟩
  go_wp2_with fail
  go_ret
  exact ⟨t, rfl, ht, below_only (below_alloc bw3 _) hg4 (fun b hb => by injection hb with hb; omega)⟩
end Go.Proofs.YtlemkfpgdlfdnaaDoor
