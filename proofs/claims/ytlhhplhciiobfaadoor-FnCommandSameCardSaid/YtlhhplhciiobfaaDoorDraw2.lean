/- A reader is opened; contents and bodies are drawn. Of what is drawn only its form and its range are said. -/
import Derived.Test.YtlhhplhciiobfaaDoorDraw
import Derived.Test.YtlhhplhciiobfaaDoorSub
namespace Go.Proofs.YtlhhplhciiobfaaDoor
open Go.RowKit
set_option linter.unusedVariables false
set_option linter.unusedSimpArgs false
set_option maxRecDepth 20000

/-- A reader that is new. -/
def Opened (w : World) (e : Ending) (w' : World) : Prop := ∃ g, e = .returned (.pointer (some ⟨g, 0, none⟩)) ∧ Rd w' g 0 ∧ w.heap.size ≤ g ∧ Below w.heap.size w w'

theorem opened_of {w : World} {A : Option Addr} {m c : Nat} {bs : List Int} (hbl : bs.length = m) (hm : m ≤ 2000) (hat : At encU8 1 w A bs) (hby : ∀ z ∈ bs, 0 ≤ z ∧ z ≤ 255) :
    Opened w (.returned (.pointer (some ⟨w.heap.size, 0, none⟩))) (w.alloc (.cells #[.slice A m c, .int .i64 0] 124)) := by
  have hb := (Below.refl w.heap.size w).alloc (Nat.le_refl _) (.cells #[.slice A m c, .int .i64 0] 124)
  refine ⟨w.heap.size, rfl, ⟨A, m, c, bs, 0, heap_alloc_new w _, hbl, hm, Nat.le_refl _, hat.belowS hb, fun h => hat.lt (by omega), hby⟩, Nat.le_refl _, hb⟩

set_option maxRecDepth 20000 in
set_option maxHeartbeats 800000 in
theorem l6Open_any (A : Option Addr) (n c : Nat) (l : List Int) (w : World) (hl : l.length = n) (hnc : n ≤ c) (ha : At encU8 1 w A l) (hby : ∀ z ∈ l, 0 ≤ z ∧ z ≤ 255) (hn : n ≤ 140737488355328) :
    Calls Tryd.prog 77 #[.slice A n c] w (Opened w) := by
  obtain ⟨i0, hi, hz0, hz1, hz2⟩ := info_parts infoByte
  by_cases hb : 2000 < n
  · have hsl := fun W => run_slice_upto Tryd.underlying55 hi hz1 A n c W 2000 (by omega)
    have HL := Lib.hid hl
    clear hl
    go_enter Tryd.func77, Tryd.ntmps77
    go_wp2
    go_ret
    exact opened_of (bs := l.take 2000) (by rw [List.length_take, HL.out]; omega) (Nat.le_refl _) (ha.take (by rw [HL.out]; exact hnc) (by rw [HL.out]; omega)) (fun z hz => hby z (List.mem_of_mem_take hz))
  · have HL := Lib.hid hl
    clear hl
    go_enter Tryd.func77, Tryd.ntmps77
    go_wp2
    go_ret
    exact opened_of HL.out (by omega) ha hby

theorem Rd.lt {w : World} {g q : Nat} (h : Rd w g q) : g < w.heap.size := by
  obtain ⟨A, m, c, bs, p, hh, _⟩ := h.is
  rcases Nat.lt_or_ge g w.heap.size with hl | hl
  · exact hl
  · rw [Array.getElem?_eq_none hl] at hh; cases hh
/-- A reader is kept where its block and the code's are. -/
theorem Rd.kept {w w' : World} {g q : Nat} {row : Option Nat} (h : Rd w g q) (hg : w.grownBy w' row) (hr : ∀ b, row = some b → g < b) : Rd w' g q := by
  have hgl := h.lt
  obtain ⟨A, m, c, bs, p, hh, h1, h2, h3, h4, h5, h6⟩ := h.is
  refine ⟨A, m, c, bs, p, ?_, h1, h2, h3, h4.grown hg fun hl he => ?_, h5, h6⟩
  · rw [hg.block g hgl (fun he => by have := hr g he.symm; omega)]; exact hh
  · have := hr _ he.symm; have := h5 (by omega); omega
theorem Rd.alloc {w : World} {g q : Nat} (h : Rd w g q) (o : Obj) : Rd (w.alloc o) g q := h.kept (World.grownBy_alloc w o none) (fun b hb => by cases hb)
theorem Rd.below {w w' : World} {g q : Nat} (h : Rd w g q) (hb : Below w.heap.size w w') : Rd w' g q := h.kept (only_of_below hb none) (fun b hb => by cases hb)
theorem Rd.more {w : World} {g q q' : Nat} (h : Rd w g q) (hq : q ≤ q') : Rd w g q' := by
  obtain ⟨A, m, c, bs, p, hh, h1, h2, h3, h4⟩ := h.is
  exact ⟨A, m, c, bs, p, hh, h1, h2, by omega, h4⟩

theorem Rd.set {w : World} {g q : Nat} (h : Rd w g q) {p : Addr} (hp : g < p.block) (u : Value) : Rd (w.setCell p u) g q := by
  obtain ⟨A, m, c, bs, p', hh, h1, h2, h3, h4, h5, h6⟩ := h.is
  refine ⟨A, m, c, bs, p', (Below.heap_setCell w p u g (by omega)).trans hh, h1, h2, h3, ?_, h5, h6⟩
  refine h4.keep (by simp [World.setCell]) fun hl => Below.heap_setCell w p u _ ?_
  have := h5 (by omega); omega
/-- Behind a pick: what lay in other blocks reads as before. -/
theorem gcell {W w1 : World} {g : Nat} (hb : W.grownBy w1 (some g)) : (∀ b o, b < W.heap.size → b ≠ g → w1.cell? ⟨b, o, none⟩ = W.cell? ⟨b, o, none⟩) ∧ (∀ b o, b < W.heap.size → b ≠ g → w1.frozen? ⟨b, o, none⟩ = W.frozen? ⟨b, o, none⟩) :=
  ⟨fun b o h hne => World.cell?_of_block (w := W) (a := ⟨b, o, none⟩) (hb.block b h fun he => hne (by injection he)), fun b o h hne => World.frozen?_of_block (w := W) (a := ⟨b, o, none⟩) (hb.block b h fun he => hne (by injection he))⟩

/-- What is drawn as a content. -/
def DrawnC (g q : Nat) (w : World) (e : Ending) (w' : World) : Prop := ∃ x y : Int, e = .returned (.agg #[.int .i64 x, .int .i64 y]) ∧ (-1 ≤ x ∧ x ≤ 3) ∧ (-1 ≤ y ∧ y ≤ 100) ∧ Rd w' g (q + 4) ∧ w.grownBy w' (some g)

theorem drawnC_of {g q : Nat} {w W : World} {x y : Int} (hx : -1 ≤ x ∧ x ≤ 3) (hy : -1 ≤ y ∧ y ≤ 100) (hr : Rd W g (q + 4)) (hg : w.grownBy W (some g)) : DrawnC g q w (.returned (.agg #[.int .i64 x, .int .i64 y])) W := ⟨x, y, rfl, hx, hy, hr, hg⟩

set_option maxHeartbeats 1000000 in
theorem l91Content_any (g q : Nat) (w : World) (hr : Rd w g q) (hq : q ≤ 549755813888) :
    Calls Tryd.prog 116 #[.pointer (some ⟨g, 0, none⟩)] w (DrawnC g q w) := by
  have hgl := hr.lt
  go_enter Tryd.func116, Tryd.ntmps116
  go_wp2_with fail
  refine (pick_any 6 g q _ (hr.alloc _) (by omega) (by omega) (by omega)).mono ?_
  rintro e w1 ⟨r1, rfl, h10, h11, -, hr1, hg1⟩
  have hl1 := h11 (by omega)
  clear h11
  have hne0 : w.heap.size ≠ g := by omega
  have hz1 := hg1.size
  simp only [World.size_alloc] at hz1
  have hlt0 : w.heap.size < w1.heap.size := by omega
  have hw1 : w.grownBy w1 (some g) := grown_two (World.grownBy_alloc w _ _) hg1
  have b1 : Blk w1 w.heap.size 33 #[.int .i64 0, .int .i64 0] := (Blk.new w _ _).grown hg1 (fun he => hne0 (by injection he))
  have c10 := b1.cell 0
  have c11 := b1.cell 1
  have f10 := b1.frozen 0
  have f11 := b1.frozen 1
  simp only [List.getElem?_toArray, List.getElem?_cons_zero, List.getElem?_cons_succ] at c10 c11
  by_cases k0 : r1 = 0
  · subst k0
    clear hg1 b1
    go_wp2_with fail
    refine bodyPost_ret (v := .agg #[.int .i64 0, .int .i64 0]) (by simp [results, Tryd.results116, go_sem, c10, c11]) rfl ?_
    exact drawnC_of (by omega) (by omega) (((hr1.set (p := ⟨w.heap.size, 0, none⟩) hgl _).set (p := ⟨w.heap.size, 1, none⟩) hgl _).more (by omega)) (grown_set (grown_set hw1 (Nat.le_refl _) _) (Nat.le_refl _) _)
  by_cases k1 : r1 = 1
  · subst k1
    clear hg1 b1
    go_wp2_with fail
    refine bodyPost_ret (v := .agg #[.int .i64 1, .int .i64 0]) (by simp [results, Tryd.results116, go_sem, c10, c11]) rfl ?_
    exact drawnC_of (by omega) (by omega) (((hr1.set (p := ⟨w.heap.size, 0, none⟩) hgl _).set (p := ⟨w.heap.size, 1, none⟩) hgl _).more (by omega)) (grown_set (grown_set hw1 (Nat.le_refl _) _) (Nat.le_refl _) _)
  by_cases k2 : r1 = 2
  · subst k2
    clear hg1 b1
    go_wp2_with fail
    refine bodyPost_ret (v := .agg #[.int .i64 1, .int .i64 0]) (by simp [results, Tryd.results116, go_sem, c10, c11]) rfl ?_
    exact drawnC_of (by omega) (by omega) (((hr1.set (p := ⟨w.heap.size, 0, none⟩) hgl _).set (p := ⟨w.heap.size, 1, none⟩) hgl _).more (by omega)) (grown_set (grown_set hw1 (Nat.le_refl _) _) (Nat.le_refl _) _)
  have k0' : (r1 == 0) = false := by simpa using k0
  have k1' : (r1 == 1) = false := by simpa using k1
  have k2' : (r1 == 2) = false := by simpa using k2
  clear k0 k1 k2 c10 c11 f10 f11
  go_wp2_with fail
  refine (pick_any 5 g (q + 1) _ hr1 (by omega) (by omega) (by omega)).mono ?_
  rintro e w2 ⟨r2, rfl, h20, h21, -, hr2, hg2⟩
  have hl2 := h21 (by omega)
  clear h21
  have b2 := b1.grown hg2 (fun he => hne0 (by injection he))
  have hz2 := hg2.size
  have hw2 := grown_two hw1 hg2
  have hne2 : w2.heap.size ≠ g := by omega
  go_wp2_with fail
  refine (pick_any 40 g (q + 2) _ (hr2.alloc _) (by omega) (by omega) (by omega)).mono ?_
  rintro e w3 ⟨r3, rfl, h30, h31, -, hr3, hg3⟩
  have hl3 := h31 (by omega)
  clear h31
  have x3 := (Blk.new w2 33 #[.int .i64 2, .int .i64 r2]).grown hg3 (fun he => hne2 (by injection he))
  have b3 := (b2.alloc (.cells #[.int .i64 2, .int .i64 r2] 33)).grown hg3 (fun he => hne0 (by injection he))
  have hz3 := hg3.size
  simp only [World.size_alloc] at hz3
  have hw3 := grown_two (grown_two hw2 (World.grownBy_alloc w2 _ _)) hg3
  by_cases j0 : r3 = 0 ∨ r3 = 1
  · have hne3 : w3.heap.size ≠ g := by omega
    rcases j0 with rfl | rfl
    all_goals
      go_wp2_with fail
      refine (pick_any 3 g (q + 3) _ (hr3.alloc _) (by omega) (by omega) (by omega)).mono ?_
      rintro e w4 ⟨r4, rfl, h40, h41, -, hr4, hg4⟩
      have hl4 := h41 (by omega)
      clear h41
      have hw4 := grown_two (grown_two hw3 (World.grownBy_alloc w3 _ _)) hg4
      have s4 := (Blk.new w3 3 _).grown hg4 (fun he => hne3 (by injection he))
      have x4 := (x3.alloc _).grown hg4 (fun he => hne2 (by injection he))
      have b4 := (b3.alloc _).grown hg4 (fun he => hne0 (by injection he))
      have c40 := s4.cell 0
      have c41 := s4.cell 1
      have c42 := s4.cell 2
      have cx0 := x4.cell 0
      have cx1 := x4.cell 1
      have fx0 := x4.frozen 0
      have fx1 := x4.frozen 1
      have c10 := b4.cell 0
      have c11 := b4.cell 1
      have f10 := b4.frozen 0
      have f11 := b4.frozen 1
      simp only [List.getElem?_toArray, List.getElem?_cons_zero, List.getElem?_cons_succ] at c10 c11 cx0 cx1 c40 c41 c42
      have hz4 := hg4.size
      simp only [World.size_alloc] at hz4
      have hnx : w2.heap.size ≠ w.heap.size := by omega
      have hnx' : w.heap.size ≠ w2.heap.size := by omega
      clear hg1 hg2 hg3 hg4 b1 b2 b3 x3 s4 x4 b4
      obtain rfl | rfl | rfl : r4 = 0 ∨ r4 = 1 ∨ r4 = 2 := by omega
      all_goals
        go_wp2_with fail
        first
          | (refine bodyPost_ret (v := .agg #[.int .i64 2, .int .i64 (-1)]) ?_ rfl ?_; focus (simp [results, Tryd.results116, go_sem, c10, c11, cx0, cx1]; done))
          | (refine bodyPost_ret (v := .agg #[.int .i64 2, .int .i64 99]) ?_ rfl ?_; focus (simp [results, Tryd.results116, go_sem, c10, c11, cx0, cx1]; done))
          | (refine bodyPost_ret (v := .agg #[.int .i64 2, .int .i64 100]) ?_ rfl ?_; focus (simp [results, Tryd.results116, go_sem, c10, c11, cx0, cx1]; done))
          | (refine bodyPost_ret (v := .agg #[.int .i64 3, .int .i64 r2]) ?_ rfl ?_; focus (simp [results, Tryd.results116, go_sem, c10, c11, cx0, cx1]; done))
          | (refine bodyPost_ret (v := .agg #[.int .i64 (-1), .int .i64 r2]) ?_ rfl ?_; focus (simp [results, Tryd.results116, go_sem, c10, c11, cx0, cx1]; done))
          | (refine bodyPost_ret (v := .agg #[.int .i64 1, .int .i64 r2]) ?_ rfl ?_; focus (simp [results, Tryd.results116, go_sem, c10, c11, cx0, cx1]; done))
        exact drawnC_of (by omega) (by omega) ((((hr4.set (p := ⟨w2.heap.size, _, none⟩) (show g < w2.heap.size by omega) _).set (p := ⟨w.heap.size, 0, none⟩) hgl _).set (p := ⟨w.heap.size, 1, none⟩) hgl _)) (grown_set (grown_set (grown_set hw4 (show w.heap.size ≤ w2.heap.size by omega) _) (Nat.le_refl _) _) (Nat.le_refl _) _)
  · have j0' : (r3 == 0) = false := by simp; omega
    have j1' : (r3 == 1) = false := by simp; omega
    have cx0 := x3.cell 0
    have cx1 := x3.cell 1
    have c10 := b3.cell 0
    have c11 := b3.cell 1
    have f10 := b3.frozen 0
    have f11 := b3.frozen 1
    simp only [List.getElem?_toArray, List.getElem?_cons_zero, List.getElem?_cons_succ] at c10 c11 cx0 cx1
    clear hg1 hg2 hg3 b1 b2 b3 x3 j0
    go_wp2_with fail
    refine bodyPost_ret (v := .agg #[.int .i64 2, .int .i64 r2]) (by simp [results, Tryd.results116, go_sem, c10, c11, cx0, cx1]) rfl ?_
    exact drawnC_of (by omega) (by omega) (((hr3.set (p := ⟨w.heap.size, 0, none⟩) hgl _).set (p := ⟨w.heap.size, 1, none⟩) hgl _).more (by omega)) (grown_set (grown_set hw3 (Nat.le_refl _) _) (Nat.le_refl _) _)
end Go.Proofs.YtlhhplhciiobfaaDoor
