/- The walk of the law on the values of contents. -/
import Derived.Test.YtnlgpjloedoebaaDraw2
import Derived.Test.YtnlgpjloedoebaaContent
import Derived.Test.YtnlgpjloedoebaaOpen
import Derived.Deep.RegionHeld3
namespace Go.Proofs.Ytnlgpjloedoebaa
open Go.RowKit
set_option linter.unusedVariables false
set_option linter.unusedSimpArgs false

def IsC (w : World) (e : Ending) (w' : World) : Prop := ∃ x y : Int, e = .returned (.agg #[.int .i64 x, .int .i64 y]) ∧ Below w.heap.size w w'

theorem u8_bd {l : List Int} (h : ∀ u ∈ l, (Lit.int .u8 u).wf = true) : ∀ z ∈ l, 0 ≤ z ∧ z ≤ 255 := by
  intro z hz
  have := h z hz
  exact bounds_u8 this
theorem encU_eq : encU = encU8 := rfl

theorem drawContentValid_any (A : Option Addr) (n c : Nat) (l : List Int) (w : World) (hl : l.length = n) (hnc : n ≤ c) (ha : At encU8 1 w A l) (hby : ∀ z ∈ l, 0 ≤ z ∧ z ≤ 255) (hn : n ≤ 140737488355328) :
    Calls Try.prog 21 #[.slice A n c] w (IsC w) := by
  have hb0 := (Below.refl w.heap.size w).alloc (Nat.le_refl _) (.cells #[.int .i64 0, .int .i64 0] 26)
  go_enter Try.func21, Try.ntmps21
  go_wp2_with fail
  refine (l6Open_any A n c l _ hl hnc (ha.belowS hb0) hby hn).mono ?_
  rintro e w1 ⟨g, rfl, hr, hg, hb1⟩
  have B1 := (Blk.new w 26 #[.int .i64 0, .int .i64 0]).belowS hb1
  have hz1 := hb1.size
  simp only [World.size_alloc] at hg hz1
  have bw1 := below_step hb0 hb1
  clear hl
  go_wp2_with fail
  refine (l91Content_any g 0 _ hr (by omega)).mono ?_
  rintro e w2 ⟨x, y, rfl, hx, hy, hr2, hg2⟩
  have bw2 := below_only bw1 hg2 (fun b hb => by injection hb with hb; omega)
  have B2 := B1.grown hg2 (fun he => by injection he with he; omega)
  have c10 := B2.cell 0
  have c11 := B2.cell 1
  have f10 := B2.frozen 0
  have f11 := B2.frozen 1
  simp only [List.getElem?_toArray, List.getElem?_cons_zero, List.getElem?_cons_succ] at c10 c11
  clear B1 B2 hg2 hb1
  go_wp2_with fail
  refine bodyPost_ret (v := .agg #[.int .i64 x, .int .i64 y]) (by simp [results, Try.results21, go_sem, c10, c11]) rfl ?_
  exact ⟨x, y, rfl, below_set (below_set bw2 (Nat.le_refl _) _) (Nat.le_refl _) _⟩

theorem okC_pos {x y v : Int} (h : okC x y = true) (h1 : 1 ≤ v) (h2 : v ≤ 99) : okC x v = (x == 2) := by
  unfold okC at *; rw [decide_eq_true_eq] at h; rw [Bool.eq_iff_iff]; simp; omega
theorem okC_file {x y : Int} (h : okC x y = true) : okC 2 y = true := by
  unfold okC at *; rw [decide_eq_true_eq] at *; omega

set_option maxHeartbeats 2000000 in
theorem walk_FnContentValue (A0 : Option Addr) (n0 c0 : Nat) (l0 : List Int) (hl0 : l0.length = n0) (hnc0 : n0 ≤ c0) (hcm0 : c0 ≤ maxLen) (A1 : Option Addr) (n1 c1 : Nat) (l1 : List Int) (hl1 : l1.length = n1) (hnc1 : n1 ≤ c1) (hcm1 : c1 ≤ maxLen) (w : World)
    (ha0 : At encU 1 w A0 l0) (hw0 : ∀ u ∈ l0, (Lit.int .u8 u).wf = true) (ha1 : At encU 1 w A1 l1) (hw1 : ∀ u ∈ l1, (Lit.int .u8 u).wf = true) :
    Calls Try.prog 5 #[.slice A0 n0 c0, .slice A1 n1 c1] w fun e w' => e = .returned (.bool true) ∧ Below w.heap.size w w' := by
  have H0 := Lib.hid hl0
  clear hl0 hl1
  unfold maxLen at hcm0 hcm1
  by_cases hb0 : 1048576 < n0
  · go_enter Try.func5, Try.ntmps5
    go_wp2
    go_ret
    exact ⟨rfl, Below.refl _ _⟩
  by_cases hb1 : 1048576 < n1
  · go_enter Try.func5, Try.ntmps5
    go_wp2
    go_ret
    exact ⟨rfl, Below.refl _ _⟩
  go_enter Try.func5, Try.ntmps5
  go_wp2_with fail
  refine (drawContentValid_any A0 n0 c0 l0 _ H0.out hnc0 ha0 (u8_bd hw0) (by omega)).mono ?_
  rintro e w1 ⟨x, y, rfl, bw1⟩
  have hz1 := bw1.size
  go_wp2_with fail
  refine (implContentValid_any _ _ _).mono ?_
  rintro e w2 ⟨rfl, hb2⟩
  have bw2 := below_step (below_alloc bw1 _) hb2
  have B2 := (Blk.new w1 26 #[.int .i64 x, .int .i64 y]).belowS hb2
  have c20 := B2.cell 0
  have c21 := B2.cell 1
  simp only [List.getElem?_toArray, List.getElem?_cons_zero, List.getElem?_cons_succ] at c20 c21
  go_wp2_with fail
  refine (specContentValid_any _ _ _).mono ?_
  rintro e w3 ⟨rfl, hb3⟩
  have bw3 := below_step bw2 hb3
  have B3 := B2.belowS hb3
  clear c20 c21
  have c30 := B3.cell 0
  have c31 := B3.cell 1
  simp only [List.getElem?_toArray, List.getElem?_cons_zero, List.getElem?_cons_succ] at c30 c31
  by_cases hk : okC x y = true
  · have K2 := okC_pos hk (v := 1 + (n1 : Int) % 99) (by omega) (by omega)
    have K3 := okC_file hk
    have hz3 := B3.lt
    have hne : w1.heap.size ≠ w3.heap.size := by omega
    clear hb2 hb3 B2
    obtain ⟨W4, hW4⟩ : ∃ W4, W4 = (w3.alloc (.cells #[.int .i64 x, .int .i64 (1 + (n1 : Int) % 99)] 26)).alloc (.cells #[.int .i64 2, .int .i64 y] 26) := ⟨_, rfl⟩
    have X4 : Blk W4 w3.heap.size 26 #[.int .i64 x, .int .i64 (1 + (n1 : Int) % 99)] := by rw [hW4]; exact (Blk.new _ _ _).alloc _
    have Y4 : Blk W4 (w3.heap.size + 1) 26 #[.int .i64 2, .int .i64 y] := by rw [hW4]; have := Blk.new (w3.alloc (.cells #[.int .i64 x, .int .i64 (1 + (n1 : Int) % 99)] 26)) 26 #[.int .i64 2, .int .i64 y]; simpa using this
    have B4 : Blk W4 w1.heap.size 26 #[.int .i64 x, .int .i64 y] := by rw [hW4]; exact (B3.alloc _).alloc _
    have bw4 : Below w.heap.size w W4 := by rw [hW4]; exact below_alloc (below_alloc bw3 _) _
    have q0 := B4.cell 0
    have q1 := X4.cell 0
    have q2 := X4.cell 1
    have q3 := Y4.cell 0
    have q4 := Y4.cell 1
    simp only [List.getElem?_toArray, List.getElem?_cons_zero, List.getElem?_cons_succ] at q0 q1 q2 q3 q4
    clear X4 Y4 B4 B3
    go_wp2_with fail
    rw [← hW4]
    clear hW4 c30 c31
    go_region_held3 (fun w' => w'.cell? ⟨w1.heap.size, 0, none⟩ = some (.int .i64 x) ∧ w'.cell? ⟨w3.heap.size, 0, none⟩ = some (.int .i64 x) ∧ w'.cell? ⟨w3.heap.size, 1, none⟩ = some (.int .i64 (1 + (n1 : Int) % 99)) ∧ w'.cell? ⟨w3.heap.size + 1, 0, none⟩ = some (.int .i64 2) ∧ w'.cell? ⟨w3.heap.size + 1, 1, none⟩ = some (.int .i64 y) ∧ Below w.heap.size w w')
      ((refine ⟨?_, ?_, ?_, ?_, ?_, ?_⟩ <;> repeat (first | assumption | exact bw4.drew | refine cell_later (by assumption) ?_ | refine below_step2 (by assumption) ?_)))
      (first | (go_at_call 20; refine (implContentValid_any _ _ _).mono ?_; rintro e w' ⟨rfl, hbb⟩))
    go_wp2
    go_ret
    exact ⟨rfl, by repeat (first | assumption | exact bw4.drew | refine below_step2 (by assumption) ?_)⟩
  · have hk' : okC x y = false := by simpa using hk
    clear hk
    go_wp2
    go_ret
    exact ⟨rfl, bw3⟩
end Go.Proofs.Ytnlgpjloedoebaa
