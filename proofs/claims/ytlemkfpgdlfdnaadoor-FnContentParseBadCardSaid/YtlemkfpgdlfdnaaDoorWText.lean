/- The walks of the laws on the texts of contents. -/
import Derived.Test.YtlemkfpgdlfdnaaDoorDec
import Derived.Test.YtlemkfpgdlfdnaaDoorDraw2
import Derived.Test.YtlemkfpgdlfdnaaDoorPath2
import Derived.Test.YtlemkfpgdlfdnaaDoorOpen
namespace Go.Proofs.YtlemkfpgdlfdnaaDoor
open Go.RowKit
set_option linter.unusedVariables false
set_option linter.unusedSimpArgs false

theorem walk_FnExactContentText (x y : Int) (wx : (Lit.int .i64 x).wf = true) (wy : (Lit.int .i64 y).wf = true) (w : World) :
    Calls Tryd.prog 3 #[.agg #[.int .i64 x, .int .i64 y]] w fun e w' => e = .returned (.bool true) ∧ Below w.heap.size w w' := by
  go_enter Tryd.func3, Tryd.ntmps3
  go_wp2_with fail
  refine (toContent_any x y _).mono ?_
  rintro e w1 ⟨rfl, hb1⟩
  obtain ⟨hc1, hf1⟩ := bcell hb1
  have bw1 := below_step ((Below.refl w.heap.size w).alloc (Nat.le_refl _) _) hb1
  have hz1 : w.heap.size < w1.heap.size := by have := hb1.size; simp at this; omega
  have c0 : w1.cell? ⟨w.heap.size, 0, none⟩ = some (.int .i64 x) := by rw [hc1 _ _ (by simp)]; exact ((Blk.new w _ #[.int .i64 x, .int .i64 y]).cell 0)
  have c1 : w1.cell? ⟨w.heap.size, 1, none⟩ = some (.int .i64 y) := by rw [hc1 _ _ (by simp)]; exact ((Blk.new w _ #[.int .i64 x, .int .i64 y]).cell 1)
  clear hc1 hf1 hb1
  go_wp2_with fail
  refine (specText_any x y _).mono ?_
  rintro e w2 ⟨s, rfl, hs, hsz, hb2⟩
  have bw2 := below_step bw1 hb2
  have c20 := (hb2.cell (p := ⟨w.heap.size, 0, none⟩) hz1).trans c0
  have c21 := (hb2.cell (p := ⟨w.heap.size, 1, none⟩) hz1).trans c1
  have HS := Lib.hid hs
  clear c0 c1 hs
  go_wp2_with fail
  refine (toContent_any x y _).mono ?_
  rintro e w3 ⟨rfl, hb3⟩
  have bw3 := below_step bw2 hb3
  clear c20 c21
  go_wp2_with fail
  refine (implText_any x y _).mono ?_
  rintro e w4 ⟨t, rfl, ht, htz, hb4⟩
  have bw4 := below_step bw3 hb4
  have hx : (t.toList == s.toList) = true := by rw [toList_is ht, toList_is HS.out]; simp
  clear ht
  go_wp2_with fail
  go_ret
  exact ⟨rfl, bw4⟩

theorem u8_bdT {l : List Int} (h : ∀ u ∈ l, (Lit.int .u8 u).wf = true) : ∀ z ∈ l, 0 ≤ z ∧ z ≤ 255 := fun z hz => bounds_u8 (h z hz)
/-- A content that is drawn for a law. -/
def IsC (w : World) (e : Ending) (w' : World) : Prop := ∃ x y : Int, e = .returned (.agg #[.int .i64 x, .int .i64 y]) ∧ (-1 ≤ x ∧ x ≤ 3) ∧ (-1 ≤ y ∧ y ≤ 100) ∧ Below w.heap.size w w'
theorem drawText_any (A : Option Addr) (n c : Nat) (l : List Int) (w : World) (hl : l.length = n) (hnc : n ≤ c) (ha : At encU8 1 w A l) (hby : ∀ z ∈ l, 0 ≤ z ∧ z ≤ 255) (hn : n ≤ 140737488355328) :
    Calls Tryd.prog 25 #[.slice A n c] w (IsC w) := by
  have hb0 := (Below.refl w.heap.size w).alloc (Nat.le_refl _) (.cells #[.int .i64 0, .int .i64 0] 25)
  go_enter Tryd.func25, Tryd.ntmps25
  go_wp2_with fail
  refine (l6Open_any A n c l _ hl hnc (ha.belowS hb0) hby hn).mono ?_
  rintro e w1 ⟨g, rfl, hr, hg, hb1⟩
  have B1 := (Blk.new w 25 #[.int .i64 0, .int .i64 0]).belowS hb1
  have hz1 := hb1.size
  simp only [World.size_alloc] at hg hz1
  have bw1 := below_step hb0 hb1
  clear hl
  go_wp2_with fail
  refine (l91Content_any g 0 _ hr (by omega)).mono ?_
  rintro e w2 ⟨x, y, rfl, hx, hy, hr2, hg2⟩
  have bw2 := below_only bw1 hg2 (fun b hb => by injection hb with hb; omega)
  have B2 := B1.grown hg2 (fun he => by injection he with he; omega)
  have c10 := B2.cell 0
  have c11 := B2.cell 1
  have f10 := B2.frozen 0
  have f11 := B2.frozen 1
  simp only [List.getElem?_toArray, List.getElem?_cons_zero, List.getElem?_cons_succ] at c10 c11
  clear B1 B2 hg2 hb1
  go_wp2_with fail
  refine bodyPost_ret (v := .agg #[.int .i64 x, .int .i64 y]) (by simp [results, Tryd.results25, go_sem, c10, c11]) rfl ?_
  exact ⟨x, y, rfl, hx, hy, below_set (below_set bw2 (Nat.le_refl _) _) (Nat.le_refl _) _⟩

theorem textC_empty (x y : Int) : (textC x y == []) = !okC x y := by
  rcases ok_cases x y with ⟨h, ht⟩ | ⟨h, i, rfl, rfl, hi, ht⟩ | ⟨h, rfl, rfl, ht⟩ | ⟨h, rfl, rfl, ht⟩ <;> rw [h, ht] <;> rfl

theorem walk_FnContentTextBad (A0 : Option Addr) (n0 c0 : Nat) (l0 : List Int) (hl0 : l0.length = n0) (hnc0 : n0 ≤ c0) (hcm0 : c0 ≤ maxLen) (w : World) (ha0 : At encU 1 w A0 l0) (hw0 : ∀ u ∈ l0, (Lit.int .u8 u).wf = true) :
    Calls Tryd.prog 7 #[.slice A0 n0 c0] w fun e w' => e = .returned (.bool true) ∧ Below w.heap.size w w' := by
  have H0 := Lib.hid hl0
  clear hl0
  unfold maxLen at hcm0
  by_cases hb0 : 1048576 < n0
  · go_enter Tryd.func7, Tryd.ntmps7
    go_wp2
    go_ret
    exact ⟨rfl, Below.refl _ _⟩
  go_enter Tryd.func7, Tryd.ntmps7
  go_wp2_with fail
  refine (drawText_any A0 n0 c0 l0 _ H0.out hnc0 ha0 (u8_bdT hw0) (by omega)).mono ?_
  rintro e w1 ⟨x, y, rfl, hx, hy, bw1⟩
  go_wp2_with fail
  refine (implText_any x y _).mono ?_
  rintro e w2 ⟨s, rfl, hs, hsz, hb2⟩
  have B2 := (Blk.new w1 25 #[.int .i64 x, .int .i64 y]).belowS hb2
  have bw2 := below_step (below_alloc bw1 _) hb2
  have c20 := B2.cell 0
  have c21 := B2.cell 1
  simp only [List.getElem?_toArray, List.getElem?_cons_zero, List.getElem?_cons_succ] at c20 c21
  have HS := Lib.hid hs
  clear hs
  go_wp2_with fail
  refine (specText_any x y _).mono ?_
  rintro e w3 ⟨t, rfl, ht, htz, hb3⟩
  have B3 := B2.belowS hb3
  have bw3 := below_step bw2 hb3
  clear c20 c21
  have c30 := B3.cell 0
  have c31 := B3.cell 1
  simp only [List.getElem?_toArray, List.getElem?_cons_zero, List.getElem?_cons_succ] at c30 c31
  have hxe : (s.toList == t.toList) = true := by rw [toList_is ht, toList_is HS.out]; simp
  have hx0 : (s.toList == []) = !okC x y := by rw [toList_is HS.out]; exact textC_empty x y
  clear ht
  cases hok : okC x y with
  | true =>
    rw [hok] at hx0
    have HOK := Lib.hid hok
    clear hok
    go_wp2_with fail
    refine (implContentValid_any x y _).mono ?_
    rw [HOK.out]
    rintro e w4 ⟨rfl, hb4⟩
    have bw4 := below_step bw3 hb4
    go_wp2_with fail
    go_ret
    exact ⟨rfl, bw4⟩
  | false =>
    rw [hok] at hx0
    have HOK := Lib.hid hok
    clear hok
    go_wp2_with fail
    refine (implContentValid_any x y _).mono ?_
    rw [HOK.out]
    rintro e w4 ⟨rfl, hb4⟩
    have bw4 := below_step bw3 hb4
    go_wp2_with fail
    go_ret
    exact ⟨rfl, bw4⟩
end Go.Proofs.YtlemkfpgdlfdnaaDoor
