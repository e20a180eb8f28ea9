/- What a path of a tree holds and its sum, by both texts, with the tests of the arguments. -/
import Derived.Test.YtehdoambbeddpaaDoorTreeI
namespace Go.Proofs.YtehdoambbeddpaaDoor
open Go.RowKit
set_option linter.unusedVariables false
set_option linter.unusedSimpArgs false
set_option maxRecDepth 20000

/-- What TreeGet answers. -/
def TgR (l : List Nod) (s : List UInt8) (x y : Int) : Prop := (TreeP l ∧ pathB s = true) ∧ (x, y) = getN l s ∨ ¬ (TreeP l ∧ pathB s = true) ∧ (x, y) = (0, 0)
theorem TgR.same {l : List Nod} {s : List UInt8} {x y a b : Int} (h : TgR l s x y) (k : TgR l s a b) : x = a ∧ y = b := by
  have : (x, y) = (a, b) := by
    rcases h with ⟨h, e⟩ | ⟨h, e⟩ <;> rcases k with ⟨k, f⟩ | ⟨k, f⟩
    · rw [e, f]
    · exact absurd h k
    · exact absurd k h
    · rw [e, f]
  injection this with h1 h2
  exact ⟨h1, h2⟩
def TgOf (l : List Nod) (s : List UInt8) (w : World) (e : Ending) (w' : World) : Prop := ∃ x y : Int, e = .returned (.agg #[.int .i64 x, .int .i64 y]) ∧ TgR l s x y ∧ Below w.heap.size w w'


set_option maxHeartbeats 1000000 in
theorem specTreeGet_any (A : Option Addr) (n c : Nat) (l : List Nod) (s : ByteArray) (w : World) (hn : n ≤ 1100000) (hl : l.length = n) (ha : At encN 3 w A l) (hz : ∀ q ∈ l, q.p.size ≤ 1048576) (hs : s.size ≤ 1048576) :
    Calls Tryd.prog 16 #[.slice A n c, .string s] w (TgOf l s.data.toList w) := by
  have HL := Lib.hid hl

  clear hl
  have R0 := Blk.new w 30 #[.int .i64 0, .int .i64 0]
  have bw0 := below_alloc (Below.refl w.heap.size w) (.cells #[.int .i64 0, .int .i64 0] 30)
  obtain ⟨W0, hW0⟩ : ∃ W0, W0 = w.alloc (.cells #[.int .i64 0, .int .i64 0] 30) := ⟨_, rfl⟩
  obtain ⟨g, hg⟩ : ∃ g, w.heap.size = g := ⟨_, rfl⟩
  have hgw : w.heap.size ≤ g := by omega
  rw [← hW0, hg] at R0
  rw [← hW0] at bw0
  go_enter Tryd.func16, Tryd.ntmps16
  go_wp2_with fail
  rw [← hW0]
  try rw [hg]
  clear hW0 hg
  refine (specTree_any A n c l _ hn HL.out (ha.belowS bw0) hz).mono ?_
  rintro e w1 ⟨b, rfl, hb, hb1⟩
  have bw1 := below_step bw0 hb1
  have R1 := R0.belowS hb1
  have HB := Lib.hid hb
  clear hb R0
  cases b with
  | false =>
    have HN := Lib.hid (show ¬ (TreeP l ∧ pathB s.data.toList = true) from fun h => by have := HB.out.2 h.1; cases this)
    obtain ⟨f0, f1⟩ := blk2f R1
    obtain ⟨r0, r1⟩ := blk2 R1
    go_wp2_with fail
    obtain ⟨W2, hW2⟩ : ∃ W2, W2 = (w1.setCell ⟨g, 0, none⟩ (.int .i64 0)).setCell ⟨g, 1, none⟩ (.int .i64 0) := ⟨_, rfl⟩
    have R4 : Blk W2 g 30 #[.int .i64 0, .int .i64 0] := by rw [hW2]; exact ((R1.set_ 0 _).set_ 1 _)
    have bw4 : Below w.heap.size w W2 := by rw [hW2]; exact below_set (below_set bw1 hgw _) hgw _
    rw [← hW2]
    clear hW2 r0 r1 f0 f1
    obtain ⟨r0, r1⟩ := blk2 R4
    refine bodyPost_ret (v := .agg #[.int .i64 0, .int .i64 0]) (by simp [results, Tryd.results16, go_sem, r0, r1]) rfl ?_
    exact ⟨0, 0, rfl, .inr ⟨HN.out, rfl⟩, bw4⟩
  | true =>
    obtain ⟨k, hk⟩ : ∃ k, pathB s.data.toList = k := ⟨_, rfl⟩
    have HK := Lib.hid hk
    clear hk
    go_wp2_with fail
    refine (specPath_any s _ hs).mono ?_
    rw [HK.out]
    rintro e w2 ⟨rfl, hb2⟩
    have bw2 := below_step bw1 hb2
    have R2 := R1.belowS hb2
    clear R1
    cases k with
    | false =>
      have HN := Lib.hid (show ¬ (TreeP l ∧ pathB s.data.toList = true) from fun h => by have := h.2; rw [HK.out] at this; cases this)
      obtain ⟨f0, f1⟩ := blk2f R2
      obtain ⟨r0, r1⟩ := blk2 R2
      go_wp2_with fail
      obtain ⟨W2, hW2⟩ : ∃ W2, W2 = (w2.setCell ⟨g, 0, none⟩ (.int .i64 0)).setCell ⟨g, 1, none⟩ (.int .i64 0) := ⟨_, rfl⟩
      have R4 : Blk W2 g 30 #[.int .i64 0, .int .i64 0] := by rw [hW2]; exact ((R2.set_ 0 _).set_ 1 _)
      have bw4 : Below w.heap.size w W2 := by rw [hW2]; exact below_set (below_set bw2 hgw _) hgw _
      rw [← hW2]
      clear hW2 r0 r1 f0 f1
      obtain ⟨r0, r1⟩ := blk2 R4
      refine bodyPost_ret (v := .agg #[.int .i64 0, .int .i64 0]) (by simp [results, Tryd.results16, go_sem, r0, r1]) rfl ?_
      exact ⟨0, 0, rfl, .inr ⟨HN.out, rfl⟩, bw4⟩
    | true =>
      go_wp2_with fail
      refine (specGet_any A n c l s _ (by omega) HL.out (ha.belowS bw2)).mono ?_
      rintro e w3 ⟨x, y, rfl, hxy, hb3⟩
      have HX := Lib.hid hxy
      have bw3 := below_step bw2 hb3
      have R3 := R2.belowS hb3
      clear R2 hxy
      obtain ⟨f0, f1⟩ := blk2f R3
      obtain ⟨r0, r1⟩ := blk2 R3
      go_wp2_with fail
      obtain ⟨W2, hW2⟩ : ∃ W2, W2 = (w3.setCell ⟨g, 0, none⟩ (.int .i64 x)).setCell ⟨g, 1, none⟩ (.int .i64 y) := ⟨_, rfl⟩
      have R4 : Blk W2 g 30 #[.int .i64 x, .int .i64 y] := by rw [hW2]; exact ((R3.set_ 0 _).set_ 1 _)
      have bw4 : Below w.heap.size w W2 := by rw [hW2]; exact below_set (below_set bw3 hgw _) hgw _
      rw [← hW2]
      clear hW2 r0 r1 f0 f1
      obtain ⟨r0, r1⟩ := blk2 R4
      refine bodyPost_ret (v := .agg #[.int .i64 x, .int .i64 y]) (by simp [results, Tryd.results16, go_sem, r0, r1]) rfl ?_
      exact ⟨x, y, rfl, .inl ⟨⟨HB.out.1 (by first | rfl | trivial), HK.out⟩, HX.out.symm⟩, bw4⟩

set_option maxHeartbeats 1000000 in
theorem implTreeGet_any (A : Option Addr) (n c : Nat) (l : List Nod) (s : ByteArray) (w : World) (hn : n ≤ 1100000) (hl : l.length = n) (ha : At encN 3 w A l) (hz : ∀ q ∈ l, q.p.size ≤ 1048576) (hs : s.size ≤ 1048576) (hm : MaxAt w) :
    Calls Tryd.prog 17 #[.slice A n c, .string s] w (TgOf l s.data.toList w) := by
  have HL := Lib.hid hl
  have HM := Lib.hid hm
  clear hl
  have R0 := Blk.new w 30 #[.int .i64 0, .int .i64 0]
  have bw0 := below_alloc (Below.refl w.heap.size w) (.cells #[.int .i64 0, .int .i64 0] 30)
  obtain ⟨W0, hW0⟩ : ∃ W0, W0 = w.alloc (.cells #[.int .i64 0, .int .i64 0] 30) := ⟨_, rfl⟩
  obtain ⟨g, hg⟩ : ∃ g, w.heap.size = g := ⟨_, rfl⟩
  have hgw : w.heap.size ≤ g := by omega
  rw [← hW0, hg] at R0
  rw [← hW0] at bw0
  go_enter Tryd.func17, Tryd.ntmps17
  go_wp2_with fail
  rw [← hW0]
  try rw [hg]
  clear hW0 hg
  refine (implTree_any A n c l _ hn HL.out (ha.belowS bw0) hz (HM.out.belowS bw0)).mono ?_
  rintro e w1 ⟨b, rfl, hb, hb1⟩
  have bw1 := below_step bw0 hb1
  have R1 := R0.belowS hb1
  have HB := Lib.hid hb
  clear hb R0
  cases b with
  | false =>
    have HN := Lib.hid (show ¬ (TreeP l ∧ pathB s.data.toList = true) from fun h => by have := HB.out.2 h.1; cases this)
    obtain ⟨f0, f1⟩ := blk2f R1
    obtain ⟨r0, r1⟩ := blk2 R1
    go_wp2_with fail
    obtain ⟨W2, hW2⟩ : ∃ W2, W2 = (w1.setCell ⟨g, 0, none⟩ (.int .i64 0)).setCell ⟨g, 1, none⟩ (.int .i64 0) := ⟨_, rfl⟩
    have R4 : Blk W2 g 30 #[.int .i64 0, .int .i64 0] := by rw [hW2]; exact ((R1.set_ 0 _).set_ 1 _)
    have bw4 : Below w.heap.size w W2 := by rw [hW2]; exact below_set (below_set bw1 hgw _) hgw _
    rw [← hW2]
    clear hW2 r0 r1 f0 f1
    obtain ⟨r0, r1⟩ := blk2 R4
    refine bodyPost_ret (v := .agg #[.int .i64 0, .int .i64 0]) (by simp [results, Tryd.results17, go_sem, r0, r1]) rfl ?_
    exact ⟨0, 0, rfl, .inr ⟨HN.out, rfl⟩, bw4⟩
  | true =>
    obtain ⟨k, hk⟩ : ∃ k, pathB s.data.toList = k := ⟨_, rfl⟩
    have HK := Lib.hid hk
    clear hk
    go_wp2_with fail
    refine (implPath_any s _ hs (HM.out.belowS bw1)).mono ?_
    rw [HK.out]
    rintro e w2 ⟨rfl, hb2⟩
    have bw2 := below_step bw1 hb2
    have R2 := R1.belowS hb2
    clear R1
    cases k with
    | false =>
      have HN := Lib.hid (show ¬ (TreeP l ∧ pathB s.data.toList = true) from fun h => by have := h.2; rw [HK.out] at this; cases this)
      obtain ⟨f0, f1⟩ := blk2f R2
      obtain ⟨r0, r1⟩ := blk2 R2
      go_wp2_with fail
      obtain ⟨W2, hW2⟩ : ∃ W2, W2 = (w2.setCell ⟨g, 0, none⟩ (.int .i64 0)).setCell ⟨g, 1, none⟩ (.int .i64 0) := ⟨_, rfl⟩
      have R4 : Blk W2 g 30 #[.int .i64 0, .int .i64 0] := by rw [hW2]; exact ((R2.set_ 0 _).set_ 1 _)
      have bw4 : Below w.heap.size w W2 := by rw [hW2]; exact below_set (below_set bw2 hgw _) hgw _
      rw [← hW2]
      clear hW2 r0 r1 f0 f1
      obtain ⟨r0, r1⟩ := blk2 R4
      refine bodyPost_ret (v := .agg #[.int .i64 0, .int .i64 0]) (by simp [results, Tryd.results17, go_sem, r0, r1]) rfl ?_
      exact ⟨0, 0, rfl, .inr ⟨HN.out, rfl⟩, bw4⟩
    | true =>
      go_wp2_with fail
      refine (implGet_any A n c l s _ (by omega) HL.out (ha.belowS bw2)).mono ?_
      rintro e w3 ⟨x, y, rfl, hxy, hb3⟩
      have HX := Lib.hid hxy
      have bw3 := below_step bw2 hb3
      have R3 := R2.belowS hb3
      clear R2 hxy
      obtain ⟨f0, f1⟩ := blk2f R3
      obtain ⟨r0, r1⟩ := blk2 R3
      go_wp2_with fail
      obtain ⟨W2, hW2⟩ : ∃ W2, W2 = (w3.setCell ⟨g, 0, none⟩ (.int .i64 x)).setCell ⟨g, 1, none⟩ (.int .i64 y) := ⟨_, rfl⟩
      have R4 : Blk W2 g 30 #[.int .i64 x, .int .i64 y] := by rw [hW2]; exact ((R3.set_ 0 _).set_ 1 _)
      have bw4 : Below w.heap.size w W2 := by rw [hW2]; exact below_set (below_set bw3 hgw _) hgw _
      rw [← hW2]
      clear hW2 r0 r1 f0 f1
      obtain ⟨r0, r1⟩ := blk2 R4
      refine bodyPost_ret (v := .agg #[.int .i64 x, .int .i64 y]) (by simp [results, Tryd.results17, go_sem, r0, r1]) rfl ?_
      exact ⟨x, y, rfl, .inl ⟨⟨HB.out.1 (by first | rfl | trivial), HK.out⟩, HX.out.symm⟩, bw4⟩
end Go.Proofs.YtehdoambbeddpaaDoor
