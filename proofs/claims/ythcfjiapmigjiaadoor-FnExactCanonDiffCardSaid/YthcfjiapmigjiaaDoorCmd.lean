/- Which commands change something, by both texts. -/
import Derived.Test.YthcfjiapmigjiaaDoorPath3
import Derived.Test.YthcfjiapmigjiaaDoorContent
import Derived.Test.YthcfjiapmigjiaaDoorOpenK
namespace Go.Proofs.YthcfjiapmigjiaaDoor
open Go.RowKit
set_option linter.unusedVariables false
set_option linter.unusedSimpArgs false
set_option maxRecDepth 20000

/-- A command changes something. -/
def okK (s : List UInt8) (x y z u : Int) : Bool := decide (0 < depthL s) && okC x y && okC z u && !decide (x = z ∧ y = u)
theorem okK_path {s : List UInt8} (h : ¬ 0 < depthL s) (x y z u : Int) : okK s x y z u = false := by unfold okK; rw [decide_eq_false h]; rfl
theorem okK_from {x y : Int} (h : okC x y = false) (s : List UInt8) (z u : Int) : okK s x y z u = false := by unfold okK; rw [h]; simp
theorem okK_to {z u : Int} (h : okC z u = false) (s : List UInt8) (x y : Int) : okK s x y z u = false := by unfold okK; rw [h]; simp
theorem okK_same (s : List UInt8) (x y : Int) : okK s x y x y = false := by unfold okK; simp
theorem okK_yes {s : List UInt8} {x y z u : Int} (h : 0 < depthL s) (h1 : okC x y = true) (h2 : okC z u = true) (h3 : ¬ (x = z ∧ y = u)) : okK s x y z u = true := by unfold okK; rw [decide_eq_true h, h1, h2, decide_eq_false h3]; rfl

theorem okK_path' {l : List UInt8} {x y z u : Int} (h : okK l x y z u = true) : pathB l = true := by
  unfold okK at h
  rw [Bool.and_eq_true, Bool.and_eq_true, Bool.and_eq_true, decide_eq_true_eq] at h
  exact (depth_pos.1 h.1.1.1).1

theorem blk5 {w : World} {g : Nat} {t : TypeId} {a b c d e : Value} (h : Blk w g t #[a, b, c, d, e]) : w.cell? ⟨g, 0, none⟩ = some a ∧ w.cell? ⟨g, 1, none⟩ = some b ∧ w.cell? ⟨g, 2, none⟩ = some c ∧ w.cell? ⟨g, 3, none⟩ = some d ∧ w.cell? ⟨g, 4, none⟩ = some e :=
  ⟨h.cell 0, h.cell 1, h.cell 2, h.cell 3, h.cell 4⟩
theorem blk5f {w : World} {g : Nat} {t : TypeId} {a b c d e : Value} (h : Blk w g t #[a, b, c, d, e]) : w.frozen? ⟨g, 0, none⟩ = false ∧ w.frozen? ⟨g, 1, none⟩ = false ∧ w.frozen? ⟨g, 2, none⟩ = false ∧ w.frozen? ⟨g, 3, none⟩ = false ∧ w.frozen? ⟨g, 4, none⟩ = false :=
  ⟨h.frozen 0, h.frozen 1, h.frozen 2, h.frozen 3, h.frozen 4⟩

set_option maxHeartbeats 1000000 in
theorem implCommandValid_any (s : ByteArray) (x y z u : Int) (w : World) (hs : s.size ≤ 1048576) (hm : MaxAt w) :
    Calls Tryd.prog 87 #[.agg #[.string s, .int .i64 x, .int .i64 y, .int .i64 z, .int .i64 u]] w fun e w' => e = .returned (.bool (okK s.data.toList x y z u)) ∧ Below w.heap.size w w' := by
  have HM := Lib.hid (hm.belowS ((Below.refl w.heap.size w).alloc (Nat.le_refl _) (.cells #[.string s, .int .i64 x, .int .i64 y, .int .i64 z, .int .i64 u] 52)))
  have B0 := Blk.new w 52 #[.string s, .int .i64 x, .int .i64 y, .int .i64 z, .int .i64 u]
  have bw0 := (Below.refl w.heap.size w).alloc (Nat.le_refl _) (.cells #[.string s, .int .i64 x, .int .i64 y, .int .i64 z, .int .i64 u] 52)
  clear hm
  cases hp : pathB s.data.toList with
  | false =>
    have HK := Lib.hid (okK_path (s := s.data.toList) (by rw [depth_pos, hp]; simp) x y z u)
    have HP := Lib.hid hp
    clear hp B0
    go_enter Tryd.func87, Tryd.ntmps87
    go_wp2_with fail
    refine (implPath_any s _ hs HM.out).mono ?_
    rw [HP.out]
    rintro e w1 ⟨rfl, hb1⟩
    have bw1 := below_step bw0 hb1
    go_wp2_with fail
    go_ret
    exact ⟨ret_bool HK.out.symm, bw1⟩
  | true =>
    by_cases hr : s.data.toList = [47]
    · have HK := Lib.hid (okK_path (s := s.data.toList) (by rw [depth_pos]; simp [hr]) x y z u)
      have hx : (s.toList == [47]) = true := by rw [toList_beq hr]; rfl
      have HP := Lib.hid hp
      clear hp hr
      go_enter Tryd.func87, Tryd.ntmps87
      go_wp2_with fail
      refine (implPath_any s _ hs HM.out).mono ?_
      rw [HP.out]
      rintro e w1 ⟨rfl, hb1⟩
      have bw1 := below_step bw0 hb1
      have B1 := B0.belowS hb1
      obtain ⟨c0, c1, c2, c3, c4⟩ := blk5 B1
      clear B0 hb1
      go_wp2_with fail
      go_ret
      exact ⟨ret_bool HK.out.symm, bw1⟩
    · have HD := Lib.hid (depth_pos.2 ⟨hp, hr⟩)
      have hx : (s.toList == [47]) = false := by rw [toList_is rfl]; simpa using hr
      have HP := Lib.hid hp
      clear hp hr
      go_enter Tryd.func87, Tryd.ntmps87
      go_wp2_with fail
      refine (implPath_any s _ hs HM.out).mono ?_
      rw [HP.out]
      rintro e w1 ⟨rfl, hb1⟩
      have bw1 := below_step bw0 hb1
      have B1 := B0.belowS hb1
      obtain ⟨c0, c1, c2, c3, c4⟩ := blk5 B1
      clear B0 hb1
      cases h1 : okC x y with
      | false =>
        have HK := Lib.hid (okK_from h1 s.data.toList z u)
        have H1 := Lib.hid h1
        clear h1
        go_wp2_with fail
        refine (implContentValid_any x y _).mono ?_
        rw [H1.out]
        rintro e w2 ⟨rfl, hb2⟩
        have bw2 := below_step bw1 hb2
        go_wp2_with fail
        go_ret
        exact ⟨ret_bool HK.out.symm, bw2⟩
      | true =>
        have H1 := Lib.hid h1
        clear h1
        go_wp2_with fail
        refine (implContentValid_any x y _).mono ?_
        rw [H1.out]
        rintro e w2 ⟨rfl, hb2⟩
        have bw2 := below_step bw1 hb2
        have B2 := B1.belowS hb2
        clear c0 c1 c2 c3 c4
        obtain ⟨c0, c1, c2, c3, c4⟩ := blk5 B2
        clear B1 hb2
        cases h2 : okC z u with
        | false =>
          have HK := Lib.hid (okK_to h2 s.data.toList x y)
          have H2 := Lib.hid h2
          clear h2
          go_wp2_with fail
          refine (implContentValid_any z u _).mono ?_
          rw [H2.out]
          rintro e w3 ⟨rfl, hb3⟩
          have bw3 := below_step bw2 hb3
          go_wp2_with fail
          go_ret
          exact ⟨ret_bool HK.out.symm, bw3⟩
        | true =>
          have H2 := Lib.hid h2
          clear h2
          go_wp2_with fail
          refine (implContentValid_any z u _).mono ?_
          rw [H2.out]
          rintro e w3 ⟨rfl, hb3⟩
          have bw3 := below_step bw2 hb3
          have B3 := B2.belowS hb3
          clear c0 c1 c2 c3 c4
          obtain ⟨c0, c1, c2, c3, c4⟩ := blk5 B3
          clear B2 hb3
          go_wp2_with fail
          all_goals go_ret
          all_goals
            refine ⟨ret_bool ?_, bw3⟩
            unfold okK
            rw [decide_eq_true HD.out, H1.out, H2.out]
            simp [*]

set_option maxHeartbeats 1000000 in
theorem specCommandValid_any (s : ByteArray) (x y z u : Int) (w : World) (hs : s.size ≤ 1048576) :
    Calls Tryd.prog 63 #[.agg #[.string s, .int .i64 x, .int .i64 y, .int .i64 z, .int .i64 u]] w fun e w' => e = .returned (.bool (okK s.data.toList x y z u)) ∧ Below w.heap.size w w' := by
  have B0 := Blk.new w 52 #[.string s, .int .i64 x, .int .i64 y, .int .i64 z, .int .i64 u]
  have bw0 := (Below.refl w.heap.size w).alloc (Nat.le_refl _) (.cells #[.string s, .int .i64 x, .int .i64 y, .int .i64 z, .int .i64 u] 52)
  by_cases hp : 0 < depthL s.data.toList
  case neg =>
    have HK := Lib.hid (okK_path (s := s.data.toList) hp x y z u)
    clear B0
    go_enter Tryd.func63, Tryd.ntmps63
    go_wp2_with fail
    refine (specDepth_any s _ hs).mono ?_
    rintro e w1 ⟨rfl, hb1⟩
    have bw1 := below_step bw0 hb1
    go_wp2_with fail
    go_ret
    exact ⟨ret_bool HK.out.symm, bw1⟩
  case pos =>
    have HD := Lib.hid hp
    · go_enter Tryd.func63, Tryd.ntmps63
      go_wp2_with fail
      refine (specDepth_any s _ hs).mono ?_
      rintro e w1 ⟨rfl, hb1⟩
      have bw1 := below_step bw0 hb1
      have B1 := B0.belowS hb1
      obtain ⟨c0, c1, c2, c3, c4⟩ := blk5 B1
      clear B0 hb1
      cases h1 : okC x y with
      | false =>
        have HK := Lib.hid (okK_from h1 s.data.toList z u)
        have H1 := Lib.hid h1
        clear h1
        go_wp2_with fail
        refine (specContentValid_any x y _).mono ?_
        rw [H1.out]
        rintro e w2 ⟨rfl, hb2⟩
        have bw2 := below_step bw1 hb2
        go_wp2_with fail
        go_ret
        exact ⟨ret_bool HK.out.symm, bw2⟩
      | true =>
        have H1 := Lib.hid h1
        clear h1
        go_wp2_with fail
        refine (specContentValid_any x y _).mono ?_
        rw [H1.out]
        rintro e w2 ⟨rfl, hb2⟩
        have bw2 := below_step bw1 hb2
        have B2 := B1.belowS hb2
        clear c0 c1 c2 c3 c4
        obtain ⟨c0, c1, c2, c3, c4⟩ := blk5 B2
        clear B1 hb2
        cases h2 : okC z u with
        | false =>
          have HK := Lib.hid (okK_to h2 s.data.toList x y)
          have H2 := Lib.hid h2
          clear h2
          go_wp2_with fail
          refine (specContentValid_any z u _).mono ?_
          rw [H2.out]
          rintro e w3 ⟨rfl, hb3⟩
          have bw3 := below_step bw2 hb3
          go_wp2_with fail
          go_ret
          exact ⟨ret_bool HK.out.symm, bw3⟩
        | true =>
          have H2 := Lib.hid h2
          clear h2
          go_wp2_with fail
          refine (specContentValid_any z u _).mono ?_
          rw [H2.out]
          rintro e w3 ⟨rfl, hb3⟩
          have bw3 := below_step bw2 hb3
          have B3 := B2.belowS hb3
          clear c0 c1 c2 c3 c4
          obtain ⟨c0, c1, c2, c3, c4⟩ := blk5 B3
          clear B2 hb3
          go_wp2_with fail
          all_goals go_ret
          all_goals
            refine ⟨ret_bool ?_, bw3⟩
            unfold okK
            rw [decide_eq_true HD.out, H1.out, H2.out]
            simp [*]
end Go.Proofs.YthcfjiapmigjiaaDoor
