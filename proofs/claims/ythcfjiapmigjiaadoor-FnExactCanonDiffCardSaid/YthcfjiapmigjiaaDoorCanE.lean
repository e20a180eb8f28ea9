/- The reference's tests of the canonical order. -/
import Derived.Test.YthcfjiapmigjiaaDoorCanonL
import Derived.Test.YthcfjiapmigjiaaDoorLogV
import Derived.Test.YthcfjiapmigjiaaDoorTells
import Derived.Test.YthcfjiapmigjiaaDoorOut
namespace Go.Proofs.YthcfjiapmigjiaaDoor
open Go.RowKit
set_option linter.unusedVariables false
set_option linter.unusedSimpArgs false
set_option maxRecDepth 20000

theorem specEnds_any (s : ByteArray) (x y z u : Int) (w : World) :
    Calls Tryd.prog 90 #[.agg #[.string s, .int .i64 x, .int .i64 y, .int .i64 z, .int .i64 u]] w fun e w' => e = .returned (.bool (endsB x z)) ∧ Below w.heap.size w w' := by
  have bw := below_alloc (Below.refl w.heap.size w) (.cells #[.string s, .int .i64 x, .int .i64 y, .int .i64 z, .int .i64 u] 52)
  by_cases hz : z = 0
  · have HR := Lib.hid (show endsB x z = true by unfold endsB; rw [decide_eq_true hz]; rfl)
    subst hz
    go_enter Tryd.func90, Tryd.ntmps90
    go_wp2_with fail
    go_ret
    exact ⟨ret_bool HR.out.symm, below_alloc (Below.refl _ _) _⟩
  · have hz' : (z == 0) = false := by simpa using hz
    have HR := Lib.hid (show endsB x z = (x == 1) by unfold endsB; rw [decide_eq_false hz, Bool.eq_iff_iff]; simp)
    clear hz
    go_enter Tryd.func90, Tryd.ntmps90
    go_wp2_with fail
    go_ret
    exact ⟨ret_bool HR.out.symm, below_alloc (Below.refl _ _) _⟩


set_option maxHeartbeats 2000000 in
theorem specBefore_any (s : ByteArray) (x y z u : Int) (t : ByteArray) (a b c d : Int) (w : World) :
    Calls Tryd.prog 68 #[.agg #[.string s, .int .i64 x, .int .i64 y, .int .i64 z, .int .i64 u], .agg #[.string t, .int .i64 a, .int .i64 b, .int .i64 c, .int .i64 d]] w fun e w' => e = .returned (.bool (befB s.toList x z t.toList a c)) ∧ Below w.heap.size w w' := by
  obtain ⟨W0, hW0⟩ : ∃ W0, W0 = (w.alloc (.cells #[.string s, .int .i64 x, .int .i64 y, .int .i64 z, .int .i64 u] 52)).alloc (.cells #[.string t, .int .i64 a, .int .i64 b, .int .i64 c, .int .i64 d] 52) := ⟨_, rfl⟩
  have A0 : Blk W0 w.heap.size 52 #[.string s, .int .i64 x, .int .i64 y, .int .i64 z, .int .i64 u] := by rw [hW0]; exact (Blk.new _ _ _).alloc _
  have B0 : Blk W0 (w.heap.size + 1) 52 #[.string t, .int .i64 a, .int .i64 b, .int .i64 c, .int .i64 d] := by
    rw [hW0]
    have := Blk.new (w.alloc (.cells #[.string s, .int .i64 x, .int .i64 y, .int .i64 z, .int .i64 u] 52)) 52 #[.string t, .int .i64 a, .int .i64 b, .int .i64 c, .int .i64 d]
    rwa [World.size_alloc] at this
  have bw0 : Below w.heap.size w W0 := by rw [hW0]; exact below_alloc (below_alloc (Below.refl _ _) _) _
  cases h1 : endsB x z with
  | true =>
    have E1 := Lib.hid h1
    clear h1
    cases h2 : endsB a c with
    | true =>
      have E2 := Lib.hid h2
      clear h2
      have HB := Lib.hid (show befB s.toList x z t.toList a c = _ by unfold befB; rw [E1.out, E2.out])
      go_enter Tryd.func68, Tryd.ntmps68
      go_wp2_with fail
      rw [← hW0]
      clear hW0
      refine (specEnds_any s x y z u _).mono ?_
      rw [E1.out]
      rintro e w1 ⟨rfl, hb1⟩
      have bw1 := below_step bw0 hb1
      have A1 := A0.belowS hb1
      have B1 := B0.belowS hb1
      try clear a0 a1 a2 a3 a4 b0 b1 b2 b3 b4
      obtain ⟨a0, a1, a2, a3, a4⟩ := blk5 A1
      obtain ⟨b0, b1, b2, b3, b4⟩ := blk5 B1
      clear A0 B0 hb1
      go_wp2_with fail
      refine (specEnds_any t a b c d _).mono ?_
      rw [E2.out]
      rintro e w2 ⟨rfl, hb2⟩
      have bw2 := below_step bw1 hb2
      have A2 := A1.belowS hb2
      have B2 := B1.belowS hb2
      try clear a0 a1 a2 a3 a4 b0 b1 b2 b3 b4
      obtain ⟨a0, a1, a2, a3, a4⟩ := blk5 A2
      obtain ⟨b0, b1, b2, b3, b4⟩ := blk5 B2
      clear A1 B1 hb2
      go_wp2_with fail
      all_goals go_ret
      all_goals exact ⟨ret_bool (by refine Eq.trans ?_ HB.out.symm; show _ = Op.bytesLess _ _; first | rfl | exact gt_eq _ _ | (rw [← gt_eq]; simp [*]; done)), bw2⟩
    | false =>
      have E2 := Lib.hid h2
      clear h2
      have HB := Lib.hid (show befB s.toList x z t.toList a c = _ by unfold befB; rw [E1.out, E2.out])
      go_enter Tryd.func68, Tryd.ntmps68
      go_wp2_with fail
      rw [← hW0]
      clear hW0
      refine (specEnds_any s x y z u _).mono ?_
      rw [E1.out]
      rintro e w1 ⟨rfl, hb1⟩
      have bw1 := below_step bw0 hb1
      have A1 := A0.belowS hb1
      have B1 := B0.belowS hb1
      try clear a0 a1 a2 a3 a4 b0 b1 b2 b3 b4
      obtain ⟨a0, a1, a2, a3, a4⟩ := blk5 A1
      obtain ⟨b0, b1, b2, b3, b4⟩ := blk5 B1
      clear A0 B0 hb1
      go_wp2_with fail
      refine (specEnds_any t a b c d _).mono ?_
      rw [E2.out]
      rintro e w2 ⟨rfl, hb2⟩
      have bw2 := below_step bw1 hb2
      have A2 := A1.belowS hb2
      have B2 := B1.belowS hb2
      try clear a0 a1 a2 a3 a4 b0 b1 b2 b3 b4
      obtain ⟨a0, a1, a2, a3, a4⟩ := blk5 A2
      obtain ⟨b0, b1, b2, b3, b4⟩ := blk5 B2
      clear A1 B1 hb2
      go_wp2_with fail
      refine (specEnds_any s x y z u _).mono ?_
      rw [E1.out]
      rintro e w3 ⟨rfl, hb3⟩
      have bw3 := below_step bw2 hb3
      have A3 := A2.belowS hb3
      have B3 := B2.belowS hb3
      try clear a0 a1 a2 a3 a4 b0 b1 b2 b3 b4
      obtain ⟨a0, a1, a2, a3, a4⟩ := blk5 A3
      obtain ⟨b0, b1, b2, b3, b4⟩ := blk5 B3
      clear A2 B2 hb3
      go_wp2_with fail
      refine (specEnds_any s x y z u _).mono ?_
      rw [E1.out]
      rintro e w4 ⟨rfl, hb4⟩
      have bw4 := below_step bw3 hb4
      have A4 := A3.belowS hb4
      have B4 := B3.belowS hb4
      try clear a0 a1 a2 a3 a4 b0 b1 b2 b3 b4
      obtain ⟨a0, a1, a2, a3, a4⟩ := blk5 A4
      obtain ⟨b0, b1, b2, b3, b4⟩ := blk5 B4
      clear A3 B3 hb4
      go_wp2_with fail
      go_ret
      exact ⟨ret_bool (HB.out.trans rfl).symm, bw4⟩
  | false =>
    have E1 := Lib.hid h1
    clear h1
    cases h2 : endsB a c with
    | true =>
      have E2 := Lib.hid h2
      clear h2
      have HB := Lib.hid (show befB s.toList x z t.toList a c = _ by unfold befB; rw [E1.out, E2.out])
      go_enter Tryd.func68, Tryd.ntmps68
      go_wp2_with fail
      rw [← hW0]
      clear hW0
      refine (specEnds_any s x y z u _).mono ?_
      rw [E1.out]
      rintro e w1 ⟨rfl, hb1⟩
      have bw1 := below_step bw0 hb1
      have A1 := A0.belowS hb1
      have B1 := B0.belowS hb1
      try clear a0 a1 a2 a3 a4 b0 b1 b2 b3 b4
      obtain ⟨a0, a1, a2, a3, a4⟩ := blk5 A1
      obtain ⟨b0, b1, b2, b3, b4⟩ := blk5 B1
      clear A0 B0 hb1
      go_wp2_with fail
      refine (specEnds_any s x y z u _).mono ?_
      rw [E1.out]
      rintro e w2 ⟨rfl, hb2⟩
      have bw2 := below_step bw1 hb2
      have A2 := A1.belowS hb2
      have B2 := B1.belowS hb2
      try clear a0 a1 a2 a3 a4 b0 b1 b2 b3 b4
      obtain ⟨a0, a1, a2, a3, a4⟩ := blk5 A2
      obtain ⟨b0, b1, b2, b3, b4⟩ := blk5 B2
      clear A1 B1 hb2
      go_wp2_with fail
      refine (specEnds_any t a b c d _).mono ?_
      rw [E2.out]
      rintro e w3 ⟨rfl, hb3⟩
      have bw3 := below_step bw2 hb3
      have A3 := A2.belowS hb3
      have B3 := B2.belowS hb3
      try clear a0 a1 a2 a3 a4 b0 b1 b2 b3 b4
      obtain ⟨a0, a1, a2, a3, a4⟩ := blk5 A3
      obtain ⟨b0, b1, b2, b3, b4⟩ := blk5 B3
      clear A2 B2 hb3
      go_wp2_with fail
      refine (specEnds_any s x y z u _).mono ?_
      rw [E1.out]
      rintro e w4 ⟨rfl, hb4⟩
      have bw4 := below_step bw3 hb4
      have A4 := A3.belowS hb4
      have B4 := B3.belowS hb4
      try clear a0 a1 a2 a3 a4 b0 b1 b2 b3 b4
      obtain ⟨a0, a1, a2, a3, a4⟩ := blk5 A4
      obtain ⟨b0, b1, b2, b3, b4⟩ := blk5 B4
      clear A3 B3 hb4
      go_wp2_with fail
      go_ret
      exact ⟨ret_bool (HB.out.trans rfl).symm, bw4⟩
    | false =>
      have E2 := Lib.hid h2
      clear h2
      have HB := Lib.hid (show befB s.toList x z t.toList a c = _ by unfold befB; rw [E1.out, E2.out])
      go_enter Tryd.func68, Tryd.ntmps68
      go_wp2_with fail
      rw [← hW0]
      clear hW0
      refine (specEnds_any s x y z u _).mono ?_
      rw [E1.out]
      rintro e w1 ⟨rfl, hb1⟩
      have bw1 := below_step bw0 hb1
      have A1 := A0.belowS hb1
      have B1 := B0.belowS hb1
      try clear a0 a1 a2 a3 a4 b0 b1 b2 b3 b4
      obtain ⟨a0, a1, a2, a3, a4⟩ := blk5 A1
      obtain ⟨b0, b1, b2, b3, b4⟩ := blk5 B1
      clear A0 B0 hb1
      go_wp2_with fail
      refine (specEnds_any s x y z u _).mono ?_
      rw [E1.out]
      rintro e w2 ⟨rfl, hb2⟩
      have bw2 := below_step bw1 hb2
      have A2 := A1.belowS hb2
      have B2 := B1.belowS hb2
      try clear a0 a1 a2 a3 a4 b0 b1 b2 b3 b4
      obtain ⟨a0, a1, a2, a3, a4⟩ := blk5 A2
      obtain ⟨b0, b1, b2, b3, b4⟩ := blk5 B2
      clear A1 B1 hb2
      go_wp2_with fail
      refine (specEnds_any t a b c d _).mono ?_
      rw [E2.out]
      rintro e w3 ⟨rfl, hb3⟩
      have bw3 := below_step bw2 hb3
      have A3 := A2.belowS hb3
      have B3 := B2.belowS hb3
      try clear a0 a1 a2 a3 a4 b0 b1 b2 b3 b4
      obtain ⟨a0, a1, a2, a3, a4⟩ := blk5 A3
      obtain ⟨b0, b1, b2, b3, b4⟩ := blk5 B3
      clear A2 B2 hb3
      go_wp2_with fail
      all_goals go_ret
      all_goals exact ⟨ret_bool (by refine Eq.trans ?_ HB.out.symm; show _ = Op.bytesLess _ _; first | rfl | exact gt_eq _ _ | (rw [← gt_eq]; simp [*]; done)), bw3⟩


/-- No command before k has this path. -/
def NoneHas (l : List Cmd) (k : Nat) (x : List UInt8) : Prop := ∀ j, j < k → ∀ p, l[j]? = some p → p.p.data.toList ≠ x
theorem NoneHas.next {l : List Cmd} {k : Nat} {x : List UInt8} (h : NoneHas l k x) {q : Cmd} (hq : l[k]? = some q) (hn : q.p.data.toList ≠ x) : NoneHas l (k + 1) x := by
  intro j hj p hp
  by_cases hjk : j = k
  · subst hjk; rw [hq] at hp; injection hp with hp; subst hp; exact hn
  · exact h j (by omega) p hp

set_option maxHeartbeats 1000000 in
theorem specFirst_any (A : Option Addr) (n c m : Nat) (l : List Cmd) (x : Cmd) (w : World) (hn : n ≤ 140737488355328) (hl : l.length = n) (ha : At encK 5 w A l) (hm : m < n) (hx : l[m]? = some x) :
    Calls Tryd.prog 37 #[.slice A n c, .int .i64 m] w (Tells (NoneHas l m x.p.data.toList) w) := by
  obtain ⟨i0, hi, hz0, hz1, hz2⟩ := info_parts infoK
  have HL := Lib.hid hl
  have HA := Lib.hid (ha.addr (by omega))
  have hidx2 := fun W => run_index_any (c := c) Tryd.underlying24 hi hz1 HA.out hm W
  have hxm : l[m]'(by omega) = x := by rw [List.getElem?_eq_getElem (by omega)] at hx; injection hx
  obtain ⟨e0, e1, e2, e3, e4⟩ := at5 ha (by omega) hxm
  clear hl e1 e2 e3 e4 hx hxm
  go_enter Tryd.func37, Tryd.ntmps37
  go_wp2_with fail
  go_loopw [5] (fun i wr => ∃ k : Nat, i = .int .i64 k ∧ k ≤ m ∧ Hid (NoneHas l k x.p.data.toList) ∧ Below w.heap.size w wr) (fun i _ => m - (intOf i).toNat)
  case atStart => exact ⟨0, rfl, Nat.zero_le _, Lib.hid (fun j hj => by omega), Below.refl _ _⟩
  case round =>
    obtain ⟨k, rfl, hk, HN, hbw⟩ := hrel
    by_cases hlt : k < m
    · have hlk : k < l.length := by rw [HL.out]; omega
      have hidx := fun W => run_index_any (c := c) Tryd.underlying24 hi hz1 HA.out (show k < n by omega) W
      obtain ⟨q, hq⟩ : ∃ q, l[k] = q := ⟨_, rfl⟩
      have HQ := Lib.hid (show l[k]? = some q by rw [List.getElem?_eq_getElem hlk, hq])
      obtain ⟨c0, c1, c2, c3, c4⟩ := at5 (ha.belowS hbw) hlk hq
      have d0 := cell_later hbw e0
      have c0' : wr.drew.cell? ⟨blk A, off A + k * 5, none⟩ = some (.string q.p) := c0
      have d0' : wr.drew.cell? ⟨blk A, off A + m * 5, none⟩ = some (.string x.p) := d0
      clear hq c1 c2 c3 c4
      by_cases he : q.p.data.toList = x.p.data.toList
      · have hb : (q.p.toList == x.p.toList) = true := by rw [toList_is he, toList_is rfl]; simp
        have HE := Lib.hid he
        clear he
        go_wp2_with fail
        go_region
        go_wp2_with fail
        go_ret
        exact Tells.no (fun h => h k hlt q HQ.out HE.out) hbw.drew
      · have hb : (q.p.toList == x.p.toList) = false := by rw [toList_is rfl, toList_is (s := x.p) rfl]; simpa using he
        have HE := Lib.hid he
        clear he
        go_wp2_with fail
        go_region
        go_wp2_with fail
        go_roundw
        case rel => exact ⟨k + 1, by go_num, by omega, Lib.hid (HN.out.next HQ.out HE.out), hbw.drew⟩
        case measure => simp [intOf]; omega
    · obtain rfl : m = k := by omega
      go_wp2_with fail
      go_ret
      exact Tells.yes HN.out hbw


end Go.Proofs.YthcfjiapmigjiaaDoor
