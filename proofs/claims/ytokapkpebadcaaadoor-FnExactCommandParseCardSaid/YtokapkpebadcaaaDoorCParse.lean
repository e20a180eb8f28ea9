/- Commands are read, by both texts. -/
import Derived.Test.YtokapkpebadcaaaDoorCmdH
import Derived.Test.YtokapkpebadcaaaDoorWords
import Derived.Test.YtokapkpebadcaaaDoorParse
namespace Go.Proofs.YtokapkpebadcaaaDoor
open Go.RowKit
set_option linter.unusedVariables false
set_option linter.unusedSimpArgs false
set_option maxRecDepth 20000

theorem split_len (c : UInt8) : ∀ (l x : List UInt8), x ∈ splitC c l → x.length ≤ l.length
  | [], x, h => by simp [splitC] at h; subst h; simp
  | b :: l, x, h => by
    have ih := split_len c l
    unfold splitC at h
    split at h
    · rcases List.mem_cons.1 h with rfl | h
      · simp
      · have := ih x h; simp; omega
    · split at h
      · simp at h; subst h; simp
      · rename_i y t hs
        rcases List.mem_cons.1 h with rfl | h
        · have := ih y (by rw [hs]; exact List.mem_cons_self ..)
          simp; omega
        · have := ih x (by rw [hs]; exact List.mem_cons_of_mem _ h)
          simp; omega
/-- The command of a text, and whether there is one. -/
def parseKW (a : List UInt8) (p q : Int × Int × Bool) : List UInt8 × Int × Int × Int × Int × Bool := if p.2.2 = true ∧ q.2.2 = true ∧ okK a p.1 p.2.1 q.1 q.2.1 = true then (a, p.1, p.2.1, q.1, q.2.1, true) else ([], 0, 0, 0, 0, false)
def parseKR (l : List UInt8) : List UInt8 × Int × Int × Int × Int × Bool := match splitC 32 l with
  | [a, b, c] => parseKW a (parseR b) (parseR c)
  | _ => ([], 0, 0, 0, 0, false)
theorem parseK_len {l : List UInt8} (h : (splitC 32 l).length ≠ 3) : parseKR l = ([], 0, 0, 0, 0, false) := by
  unfold parseKR
  split
  · rename_i a b c hs; rw [hs] at h; exact absurd rfl h
  · rfl
theorem parseK_of {l a b c : List UInt8} (h : splitC 32 l = [a, b, c]) : parseKR l = parseKW a (parseR b) (parseR c) := by unfold parseKR; rw [h]
def ParseKOf (l : List UInt8) (w : World) (e : Ending) (w' : World) : Prop := ∃ (t : ByteArray) (x y z u : Int) (b : Bool), e = .returned (.tuple #[.agg #[.string t, .int .i64 x, .int .i64 y, .int .i64 z, .int .i64 u], .bool b]) ∧ parseKR l = (t.data.toList, x, y, z, u, b) ∧ Below w.heap.size w w'

set_option maxHeartbeats 4000000 in
theorem specCParse_any (s : ByteArray) (w : World) (hs : s.size ≤ 1048576) :
    Calls Tryd.prog 38 #[.string s] w (ParseKOf s.data.toList w) := by
  obtain ⟨i0, hi, hz0, hz1, hz2⟩ := info_parts infoStr
  have R0 := Blk.new w 41 #[.string ⟨#[]⟩, .int .i64 0, .int .i64 0, .int .i64 0, .int .i64 0]
  have bw0 := below_alloc (Below.refl w.heap.size w) (.cells #[.string ⟨#[]⟩, .int .i64 0, .int .i64 0, .int .i64 0, .int .i64 0] 41)
  go_enter Tryd.func38, Tryd.ntmps38
  go_wp2_with fail
  refine (specWords_any s _ hs).mono ?_
  rintro e w1 ⟨ps, A, c, rfl, hps, ho, hb1⟩
  have bw1 := below_step bw0 hb1
  have R1 := R0.belowS hb1
  have at1 := own_at encS_len ho rfl
  have hAge := fun h => (own_blk ho h).1
  simp only [World.size_alloc] at hAge
  clear R0 hb1 bw0 ho
  by_cases h3 : ps.length = 3
  case neg =>
    have HZ := Lib.hid (show parseKR s.data.toList = ([], 0, 0, 0, 0, false) from parseK_len (by rw [← hps, List.length_map]; exact h3))
    have hn3 : ((ps.length : Int) != 3) = true := by rw [bne_iff_ne]; omega
    clear hps h3
    obtain ⟨f0, f1, f2, f3, f4⟩ := blk5f R1
    obtain ⟨c0, c1, c2, c3, c4⟩ := blk5 R1
    go_wp2_with fail
    refine bodyPost_ret (v := .tuple #[.agg #[.string ⟨#[]⟩, .int .i64 0, .int .i64 0, .int .i64 0, .int .i64 0], .bool false]) (by simp [results, Tryd.results38, go_sem, c0, c1, c2, c3, c4]) rfl ?_
    exact ⟨_, _, _, _, _, _, rfl, HZ.out, below_set (below_set (below_set (below_set (below_set bw1 (Nat.le_refl _) _) (Nat.le_refl _) _) (Nat.le_refl _) _) (Nat.le_refl _) _) (Nat.le_refl _) _⟩
  case pos =>
  obtain ⟨p0, p1, p2, rfl⟩ : ∃ p0 p1 p2, ps = [p0, p1, p2] := by
    match ps, h3 with
    | [a, b, c], _ => exact ⟨a, b, c, rfl⟩
  have hz := fun x hx => split_len 32 s.data.toList x (by rw [← hps]; exact hx)
  have hp0 : p0.size ≤ 1048576 := by
    have := hz p0.data.toList (by simp)
    rw [← Lib.size_eq, ← Lib.size_eq] at this; omega
  have hKR : splitC 32 s.data.toList = [p0.data.toList, p1.data.toList, p2.data.toList] := hps.symm
  have HKR := Lib.hid hKR
  have hA := at1.addr (by simp)
  have hAl := at1.lt (by simp)
  have hAg := hAge (by simp)
  have hx0 : ∀ W, (Instr.indexAt 54 (.slice A 3 c) (.int .i64 0)).run Tryd.prog W = .ok (.pointer (some ⟨blk A, off A, none⟩)) W := fun W => run_index_one (c := c) (j := 0) Tryd.underlying54 hi hz1 hA (by omega) W
  have hx1 : ∀ W, (Instr.indexAt 54 (.slice A 3 c) (.int .i64 1)).run Tryd.prog W = .ok (.pointer (some ⟨blk A, off A + 1, none⟩)) W := fun W => run_index_one (c := c) (j := 1) Tryd.underlying54 hi hz1 hA (by omega) W
  have hx2 : ∀ W, (Instr.indexAt 54 (.slice A 3 c) (.int .i64 2)).run Tryd.prog W = .ok (.pointer (some ⟨blk A, off A + 2, none⟩)) W := fun W => run_index_one (c := c) (j := 2) Tryd.underlying54 hi hz1 hA (by omega) W
  have d0 : w1.cell? ⟨blk A, off A, none⟩ = some (.string p0) := at1.cell1 (j := 0) (by simp) rfl
  have d1 : w1.cell? ⟨blk A, off A + 1, none⟩ = some (.string p1) := at1.cell1 (j := 1) (by simp) rfl
  have d2 : w1.cell? ⟨blk A, off A + 2, none⟩ = some (.string p2) := at1.cell1 (j := 2) (by simp) rfl
  have hw3 : ([p0, p1, p2] : List ByteArray).length = 3 := rfl
  rw [hw3]
  clear hps h3 at1 hA hAge hKR hz hw3
  obtain ⟨bA, hbA⟩ : ∃ b, blk A = b := ⟨_, rfl⟩
  obtain ⟨oA, hoA⟩ : ∃ o, off A = o := ⟨_, rfl⟩
  rw [hbA] at hx0 hx1 hx2 d0 d1 d2 hAl hAg
  rw [hoA] at hx0 hx1 hx2 d0 d1 d2
  clear hbA hoA
  go_wp2_with fail
  refine (specParse_any p1 _).mono ?_
  rintro e w2 ⟨x, y, b1, rfl, hP1, hb2⟩
  have bw2 := below_step bw1 hb2
  have R2 := R1.belowS hb2
  have hc2 := (bcell hb2).1
  have e0 := (hc2 bA oA hAl).trans d0
  have e1 := (hc2 bA (oA + 1) hAl).trans d1
  have e2 := (hc2 bA (oA + 2) hAl).trans d2
  have hAl2 := Nat.lt_of_lt_of_le hAl hb2.size
  have HP1 := Lib.hid hP1
  clear hP1 R1 bw1 d0 d1 d2 hc2 hAl hb2
  go_wp2_with fail
  refine (specParse_any p2 _).mono ?_
  rintro e w3 ⟨z, u, b2, rfl, hP2, hb3⟩
  have F3 := (Blk.new w2 39 #[.int .i64 x, .int .i64 y]).belowS hb3
  have bw3 := below_step (below_alloc bw2 _) hb3
  have R3 := (R2.alloc (.cells #[.int .i64 x, .int .i64 y] 39)).belowS hb3
  have hc3 := (bcell hb3).1
  have hza := hb3.size
  simp only [World.size_alloc] at hc3 hza
  have hl3 : ∀ o, w3.cell? ⟨bA, o, none⟩ = w2.cell? ⟨bA, o, none⟩ := fun o => by
    rw [hc3 bA o (by omega)]
    exact (bcell ((Below.refl w2.heap.size w2).alloc (Nat.le_refl _) (.cells #[.int .i64 x, .int .i64 y] 39))).1 bA o hAl2
  have k0 := (hl3 oA).trans e0
  have k1 := (hl3 (oA + 1)).trans e1
  have k2 := (hl3 (oA + 2)).trans e2
  have hAl3 : bA < w3.heap.size := by omega
  have HP2 := Lib.hid hP2
  have hF := F3.lt
  have hR := R3.lt
  have hRA : w.heap.size ≠ bA := by omega
  clear hP2 R2 bw2 e0 e1 e2 hc3 hAl2 hb3 hl3
  obtain ⟨W, hW⟩ : ∃ W, W = w3.alloc (.cells #[.int .i64 z, .int .i64 u] 39) := ⟨_, rfl⟩
  have F4 : Blk W w2.heap.size 39 #[.int .i64 x, .int .i64 y] := by rw [hW]; exact F3.alloc _
  have T4 : Blk W w3.heap.size 39 #[.int .i64 z, .int .i64 u] := by rw [hW]; exact Blk.new _ _ _
  have R4 : Blk W w.heap.size 41 #[.string ⟨#[]⟩, .int .i64 0, .int .i64 0, .int .i64 0, .int .i64 0] := by rw [hW]; exact R3.alloc _
  have bw4 : Below w.heap.size w W := by rw [hW]; exact below_alloc bw3 _
  have k4 : W.cell? ⟨bA, oA, none⟩ = some (.string p0) := by
    rw [hW, (bcell ((Below.refl w3.heap.size w3).alloc (Nat.le_refl _) (.cells #[.int .i64 z, .int .i64 u] 39))).1 bA oA hAl3]; exact k0
  have hzW : W.heap.size = w3.heap.size + 1 := by rw [hW, World.size_alloc]
  skip
  go_wp2_with fail
  rw [← hW]
  clear hW k0 k1 k2 F3 R3 bw3 hx1 hx2
  have q0 := F4.cell 0
  have q1 := F4.cell 1
  have q2 := T4.cell 0
  have q3 := T4.cell 1
  simp only [List.getElem?_toArray, List.getElem?_cons_zero, List.getElem?_cons_succ] at q0 q1 q2 q3
  have q0' : W.drew.cell? ⟨w2.heap.size, 0, none⟩ = some (.int .i64 x) := q0
  have q1' : W.drew.cell? ⟨w2.heap.size, 1, none⟩ = some (.int .i64 y) := q1
  have q2' : W.drew.cell? ⟨w3.heap.size, 0, none⟩ = some (.int .i64 z) := q2
  have q3' : W.drew.cell? ⟨w3.heap.size, 1, none⟩ = some (.int .i64 u) := q3
  have k4' : W.drew.cell? ⟨bA, oA, none⟩ = some (.string p0) := k4
  go_region
  obtain ⟨V, hV⟩ : ∃ V, V = (W.alloc (.cells #[.string p0, .int .i64 x, .int .i64 y, .int .i64 z, .int .i64 u] 41)).drew := ⟨_, rfl⟩
  have R5 : Blk V w.heap.size 41 #[.string ⟨#[]⟩, .int .i64 0, .int .i64 0, .int .i64 0, .int .i64 0] := by rw [hV]; exact (R4.alloc _).drewN 1
  have C5 : Blk V (w3.heap.size + 1) 41 #[.string p0, .int .i64 x, .int .i64 y, .int .i64 z, .int .i64 u] := by
    rw [hV, ← hzW]; exact (Blk.new W 41 #[.string p0, .int .i64 x, .int .i64 y, .int .i64 z, .int .i64 u]).drewN 1
  have bw5 : Below w.heap.size w V := by rw [hV]; exact below_drew1 (below_alloc bw4 _)
  skip
  rw [← hV]
  clear hV q0 q1 q2 q3 q0' q1' q2' q3' k4 k4' F4 T4 R4 bw4 hx0 hzW
  have hCR : w.heap.size ≠ w3.heap.size + 1 := by omega
  obtain ⟨gC, hgC⟩ : ∃ g, w3.heap.size + 1 = g := ⟨_, rfl⟩
  rw [hgC] at C5 hCR ⊢
  clear hgC hza hAl3 hF hR
  cases b1 with
  | false =>
    have HZ := Lib.hid (show parseKR s.data.toList = ([], 0, 0, 0, 0, false) by rw [parseK_of HKR.out, HP1.out, HP2.out]; exact if_neg (by simp))
    obtain ⟨f0, f1, f2, f3, f4⟩ := blk5f R5
    obtain ⟨c0, c1, c2, c3, c4⟩ := blk5 R5
    go_wp2_with fail
    refine bodyPost_ret (v := .tuple #[.agg #[.string ⟨#[]⟩, .int .i64 0, .int .i64 0, .int .i64 0, .int .i64 0], .bool false]) (by simp [results, Tryd.results38, go_sem, c0, c1, c2, c3, c4]) rfl ?_
    exact ⟨_, _, _, _, _, _, rfl, HZ.out, below_set (below_set (below_set (below_set (below_set bw5 (Nat.le_refl _) _) (Nat.le_refl _) _) (Nat.le_refl _) _) (Nat.le_refl _) _) (Nat.le_refl _) _⟩
  | true =>
  cases b2 with
  | false =>
    have HZ := Lib.hid (show parseKR s.data.toList = ([], 0, 0, 0, 0, false) by rw [parseK_of HKR.out, HP1.out, HP2.out]; exact if_neg (by simp))
    obtain ⟨f0, f1, f2, f3, f4⟩ := blk5f R5
    obtain ⟨c0, c1, c2, c3, c4⟩ := blk5 R5
    go_wp2_with fail
    refine bodyPost_ret (v := .tuple #[.agg #[.string ⟨#[]⟩, .int .i64 0, .int .i64 0, .int .i64 0, .int .i64 0], .bool false]) (by simp [results, Tryd.results38, go_sem, c0, c1, c2, c3, c4]) rfl ?_
    exact ⟨_, _, _, _, _, _, rfl, HZ.out, below_set (below_set (below_set (below_set (below_set bw5 (Nat.le_refl _) _) (Nat.le_refl _) _) (Nat.le_refl _) _) (Nat.le_refl _) _) (Nat.le_refl _) _⟩
  | true =>
  obtain ⟨v0, v1, v2, v3, v4⟩ := blk5 C5
  cases hk : okK p0.data.toList x y z u with
  | false =>
    have HZ := Lib.hid (show parseKR s.data.toList = ([], 0, 0, 0, 0, false) by rw [parseK_of HKR.out, HP1.out, HP2.out]; exact if_neg (by simp only; rw [hk]; simp))
    have HK := Lib.hid hk
    clear hk
    go_wp2_with fail
    refine (specCommandValid_any p0 x y z u _ hp0).mono ?_
    rw [HK.out]
    rintro e w6 ⟨rfl, hb6⟩
    have bw6 := below_step bw5 hb6
    have R6 := R5.belowS hb6
    clear v0 v1 v2 v3 v4
    obtain ⟨f0, f1, f2, f3, f4⟩ := blk5f R6
    obtain ⟨c0, c1, c2, c3, c4⟩ := blk5 R6
    go_wp2_with fail
    refine bodyPost_ret (v := .tuple #[.agg #[.string ⟨#[]⟩, .int .i64 0, .int .i64 0, .int .i64 0, .int .i64 0], .bool false]) (by simp [results, Tryd.results38, go_sem, c0, c1, c2, c3, c4]) rfl ?_
    exact ⟨_, _, _, _, _, _, rfl, HZ.out, below_set (below_set (below_set (below_set (below_set bw6 (Nat.le_refl _) _) (Nat.le_refl _) _) (Nat.le_refl _) _) (Nat.le_refl _) _) (Nat.le_refl _) _⟩
  | true =>
    have HZ := Lib.hid (show parseKR s.data.toList = (p0.data.toList, x, y, z, u, true) by rw [parseK_of HKR.out, HP1.out, HP2.out]; exact if_pos ⟨rfl, rfl, hk⟩)
    have HK := Lib.hid hk
    clear hk
    go_wp2_with fail
    refine (specCommandValid_any p0 x y z u _ hp0).mono ?_
    rw [HK.out]
    rintro e w6 ⟨rfl, hb6⟩
    have bw6 := below_step bw5 hb6
    have R6 := R5.belowS hb6
    have C6 := C5.belowS hb6
    clear v0 v1 v2 v3 v4
    obtain ⟨v0, v1, v2, v3, v4⟩ := blk5 C6
    obtain ⟨f0, f1, f2, f3, f4⟩ := blk5f R6
    obtain ⟨c0, c1, c2, c3, c4⟩ := blk5 R6
    go_wp2_with fail
    refine bodyPost_ret (v := .tuple #[.agg #[.string p0, .int .i64 x, .int .i64 y, .int .i64 z, .int .i64 u], .bool true]) (by simp [results, Tryd.results38, go_sem, c0, c1, c2, c3, c4]) rfl ?_
    exact ⟨_, _, _, _, _, _, rfl, HZ.out, below_set (below_set (below_set (below_set (below_set bw6 (Nat.le_refl _) _) (Nat.le_refl _) _) (Nat.le_refl _) _) (Nat.le_refl _) _) (Nat.le_refl _) _⟩

set_option maxHeartbeats 4000000 in
theorem implCParse_any (s : ByteArray) (w : World) (hs : s.size ≤ 1048576) (hm : MaxAt w) :
    Calls Tryd.prog 39 #[.string s] w (ParseKOf s.data.toList w) := by
  obtain ⟨i0, hi, hz0, hz1, hz2⟩ := info_parts infoStr
  have HM0 := Lib.hid (hm.belowS ((Below.refl w.heap.size w).alloc (Nat.le_refl _) (.cells #[.string ⟨#[]⟩, .int .i64 0, .int .i64 0, .int .i64 0, .int .i64 0] 41)))
  clear hm
  have R0 := Blk.new w 41 #[.string ⟨#[]⟩, .int .i64 0, .int .i64 0, .int .i64 0, .int .i64 0]
  have bw0 := below_alloc (Below.refl w.heap.size w) (.cells #[.string ⟨#[]⟩, .int .i64 0, .int .i64 0, .int .i64 0, .int .i64 0] 41)
  go_enter Tryd.func39, Tryd.ntmps39
  go_wp2_with fail
  refine (split_any 32 s _ hs HM0.out).mono ?_
  rintro e w1 ⟨ps, A, c, rfl, hps, ho, hb1⟩
  have HM1 := Lib.hid (HM0.out.belowS hb1)
  have bw1 := below_step bw0 hb1
  have R1 := R0.belowS hb1
  have at1 := own_at encS_len ho rfl
  have hAge := fun h => (own_blk ho h).1
  simp only [World.size_alloc] at hAge
  clear R0 hb1 bw0 ho
  by_cases h3 : ps.length = 3
  case neg =>
    have HZ := Lib.hid (show parseKR s.data.toList = ([], 0, 0, 0, 0, false) from parseK_len (by rw [← hps, List.length_map]; exact h3))
    have hn3 : ((ps.length : Int) != 3) = true := by rw [bne_iff_ne]; omega
    clear hps h3
    obtain ⟨f0, f1, f2, f3, f4⟩ := blk5f R1
    obtain ⟨c0, c1, c2, c3, c4⟩ := blk5 R1
    go_wp2_with fail
    refine bodyPost_ret (v := .tuple #[.agg #[.string ⟨#[]⟩, .int .i64 0, .int .i64 0, .int .i64 0, .int .i64 0], .bool false]) (by simp [results, Tryd.results39, go_sem, c0, c1, c2, c3, c4]) rfl ?_
    exact ⟨_, _, _, _, _, _, rfl, HZ.out, below_set (below_set (below_set (below_set (below_set bw1 (Nat.le_refl _) _) (Nat.le_refl _) _) (Nat.le_refl _) _) (Nat.le_refl _) _) (Nat.le_refl _) _⟩
  case pos =>
  obtain ⟨p0, p1, p2, rfl⟩ : ∃ p0 p1 p2, ps = [p0, p1, p2] := by
    match ps, h3 with
    | [a, b, c], _ => exact ⟨a, b, c, rfl⟩
  have hz := fun x hx => split_len 32 s.data.toList x (by rw [← hps]; exact hx)
  have hp0 : p0.size ≤ 1048576 := by
    have := hz p0.data.toList (by simp)
    rw [← Lib.size_eq, ← Lib.size_eq] at this; omega
  have hKR : splitC 32 s.data.toList = [p0.data.toList, p1.data.toList, p2.data.toList] := hps.symm
  have HKR := Lib.hid hKR
  have hA := at1.addr (by simp)
  have hAl := at1.lt (by simp)
  have hAg := hAge (by simp)
  have hx0 : ∀ W, (Instr.indexAt 54 (.slice A 3 c) (.int .i64 0)).run Tryd.prog W = .ok (.pointer (some ⟨blk A, off A, none⟩)) W := fun W => run_index_one (c := c) (j := 0) Tryd.underlying54 hi hz1 hA (by omega) W
  have hx1 : ∀ W, (Instr.indexAt 54 (.slice A 3 c) (.int .i64 1)).run Tryd.prog W = .ok (.pointer (some ⟨blk A, off A + 1, none⟩)) W := fun W => run_index_one (c := c) (j := 1) Tryd.underlying54 hi hz1 hA (by omega) W
  have hx2 : ∀ W, (Instr.indexAt 54 (.slice A 3 c) (.int .i64 2)).run Tryd.prog W = .ok (.pointer (some ⟨blk A, off A + 2, none⟩)) W := fun W => run_index_one (c := c) (j := 2) Tryd.underlying54 hi hz1 hA (by omega) W
  have d0 : w1.cell? ⟨blk A, off A, none⟩ = some (.string p0) := at1.cell1 (j := 0) (by simp) rfl
  have d1 : w1.cell? ⟨blk A, off A + 1, none⟩ = some (.string p1) := at1.cell1 (j := 1) (by simp) rfl
  have d2 : w1.cell? ⟨blk A, off A + 2, none⟩ = some (.string p2) := at1.cell1 (j := 2) (by simp) rfl
  have hw3 : ([p0, p1, p2] : List ByteArray).length = 3 := rfl
  rw [hw3]
  clear hps h3 at1 hA hAge hKR hz hw3
  obtain ⟨bA, hbA⟩ : ∃ b, blk A = b := ⟨_, rfl⟩
  obtain ⟨oA, hoA⟩ : ∃ o, off A = o := ⟨_, rfl⟩
  rw [hbA] at hx0 hx1 hx2 d0 d1 d2 hAl hAg
  rw [hoA] at hx0 hx1 hx2 d0 d1 d2
  clear hbA hoA
  go_wp2_with fail
  refine (implParse_any p1 _).mono ?_
  rintro e w2 ⟨x, y, b1, rfl, hP1, hb2⟩
  have HM2 := Lib.hid (HM1.out.belowS hb2)
  have bw2 := below_step bw1 hb2
  have R2 := R1.belowS hb2
  have hc2 := (bcell hb2).1
  have e0 := (hc2 bA oA hAl).trans d0
  have e1 := (hc2 bA (oA + 1) hAl).trans d1
  have e2 := (hc2 bA (oA + 2) hAl).trans d2
  have hAl2 := Nat.lt_of_lt_of_le hAl hb2.size
  have HP1 := Lib.hid hP1
  clear hP1 R1 bw1 d0 d1 d2 hc2 hAl hb2
  go_wp2_with fail
  refine (implParse_any p2 _).mono ?_
  rintro e w3 ⟨z, u, b2, rfl, hP2, hb3⟩
  have HM3 := Lib.hid ((HM2.out.belowS ((Below.refl w2.heap.size w2).alloc (Nat.le_refl _) (.cells #[.int .i64 x, .int .i64 y] 39))).belowS hb3)
  have F3 := (Blk.new w2 39 #[.int .i64 x, .int .i64 y]).belowS hb3
  have bw3 := below_step (below_alloc bw2 _) hb3
  have R3 := (R2.alloc (.cells #[.int .i64 x, .int .i64 y] 39)).belowS hb3
  have hc3 := (bcell hb3).1
  have hza := hb3.size
  simp only [World.size_alloc] at hc3 hza
  have hl3 : ∀ o, w3.cell? ⟨bA, o, none⟩ = w2.cell? ⟨bA, o, none⟩ := fun o => by
    rw [hc3 bA o (by omega)]
    exact (bcell ((Below.refl w2.heap.size w2).alloc (Nat.le_refl _) (.cells #[.int .i64 x, .int .i64 y] 39))).1 bA o hAl2
  have k0 := (hl3 oA).trans e0
  have k1 := (hl3 (oA + 1)).trans e1
  have k2 := (hl3 (oA + 2)).trans e2
  have hAl3 : bA < w3.heap.size := by omega
  have HP2 := Lib.hid hP2
  have hF := F3.lt
  have hR := R3.lt
  have hRA : w.heap.size ≠ bA := by omega
  clear hP2 R2 bw2 e0 e1 e2 hc3 hAl2 hb3 hl3
  obtain ⟨W, hW⟩ : ∃ W, W = w3.alloc (.cells #[.int .i64 z, .int .i64 u] 39) := ⟨_, rfl⟩
  have F4 : Blk W w2.heap.size 39 #[.int .i64 x, .int .i64 y] := by rw [hW]; exact F3.alloc _
  have T4 : Blk W w3.heap.size 39 #[.int .i64 z, .int .i64 u] := by rw [hW]; exact Blk.new _ _ _
  have R4 : Blk W w.heap.size 41 #[.string ⟨#[]⟩, .int .i64 0, .int .i64 0, .int .i64 0, .int .i64 0] := by rw [hW]; exact R3.alloc _
  have bw4 : Below w.heap.size w W := by rw [hW]; exact below_alloc bw3 _
  have k4 : W.cell? ⟨bA, oA, none⟩ = some (.string p0) := by
    rw [hW, (bcell ((Below.refl w3.heap.size w3).alloc (Nat.le_refl _) (.cells #[.int .i64 z, .int .i64 u] 39))).1 bA oA hAl3]; exact k0
  have hzW : W.heap.size = w3.heap.size + 1 := by rw [hW, World.size_alloc]
  have HM4 : Hid (MaxAt W) := by rw [hW]; exact Lib.hid (HM3.out.belowS ((Below.refl w3.heap.size w3).alloc (Nat.le_refl _) (.cells #[.int .i64 z, .int .i64 u] 39)))
  go_wp2_with fail
  rw [← hW]
  clear hW k0 k1 k2 F3 R3 bw3 hx1 hx2
  have q0 := F4.cell 0
  have q1 := F4.cell 1
  have q2 := T4.cell 0
  have q3 := T4.cell 1
  simp only [List.getElem?_toArray, List.getElem?_cons_zero, List.getElem?_cons_succ] at q0 q1 q2 q3
  have q0' : W.drew.cell? ⟨w2.heap.size, 0, none⟩ = some (.int .i64 x) := q0
  have q1' : W.drew.cell? ⟨w2.heap.size, 1, none⟩ = some (.int .i64 y) := q1
  have q2' : W.drew.cell? ⟨w3.heap.size, 0, none⟩ = some (.int .i64 z) := q2
  have q3' : W.drew.cell? ⟨w3.heap.size, 1, none⟩ = some (.int .i64 u) := q3
  have k4' : W.drew.cell? ⟨bA, oA, none⟩ = some (.string p0) := k4
  go_region
  obtain ⟨V, hV⟩ : ∃ V, V = (W.alloc (.cells #[.string p0, .int .i64 x, .int .i64 y, .int .i64 z, .int .i64 u] 41)).drew := ⟨_, rfl⟩
  have R5 : Blk V w.heap.size 41 #[.string ⟨#[]⟩, .int .i64 0, .int .i64 0, .int .i64 0, .int .i64 0] := by rw [hV]; exact (R4.alloc _).drewN 1
  have C5 : Blk V (w3.heap.size + 1) 41 #[.string p0, .int .i64 x, .int .i64 y, .int .i64 z, .int .i64 u] := by
    rw [hV, ← hzW]; exact (Blk.new W 41 #[.string p0, .int .i64 x, .int .i64 y, .int .i64 z, .int .i64 u]).drewN 1
  have bw5 : Below w.heap.size w V := by rw [hV]; exact below_drew1 (below_alloc bw4 _)
  have HM5 : Hid (MaxAt V) := by rw [hV]; exact Lib.hid (HM4.out.belowS ((Below.refl W.heap.size W).alloc (Nat.le_refl _) (.cells #[.string p0, .int .i64 x, .int .i64 y, .int .i64 z, .int .i64 u] 41)).drew)
  rw [← hV]
  clear hV q0 q1 q2 q3 q0' q1' q2' q3' k4 k4' F4 T4 R4 bw4 hx0 hzW
  have hCR : w.heap.size ≠ w3.heap.size + 1 := by omega
  obtain ⟨gC, hgC⟩ : ∃ g, w3.heap.size + 1 = g := ⟨_, rfl⟩
  rw [hgC] at C5 hCR ⊢
  clear hgC hza hAl3 hF hR
  cases b1 with
  | false =>
    have HZ := Lib.hid (show parseKR s.data.toList = ([], 0, 0, 0, 0, false) by rw [parseK_of HKR.out, HP1.out, HP2.out]; exact if_neg (by simp))
    obtain ⟨f0, f1, f2, f3, f4⟩ := blk5f R5
    obtain ⟨c0, c1, c2, c3, c4⟩ := blk5 R5
    go_wp2_with fail
    refine bodyPost_ret (v := .tuple #[.agg #[.string ⟨#[]⟩, .int .i64 0, .int .i64 0, .int .i64 0, .int .i64 0], .bool false]) (by simp [results, Tryd.results39, go_sem, c0, c1, c2, c3, c4]) rfl ?_
    exact ⟨_, _, _, _, _, _, rfl, HZ.out, below_set (below_set (below_set (below_set (below_set bw5 (Nat.le_refl _) _) (Nat.le_refl _) _) (Nat.le_refl _) _) (Nat.le_refl _) _) (Nat.le_refl _) _⟩
  | true =>
  cases b2 with
  | false =>
    have HZ := Lib.hid (show parseKR s.data.toList = ([], 0, 0, 0, 0, false) by rw [parseK_of HKR.out, HP1.out, HP2.out]; exact if_neg (by simp))
    obtain ⟨f0, f1, f2, f3, f4⟩ := blk5f R5
    obtain ⟨c0, c1, c2, c3, c4⟩ := blk5 R5
    go_wp2_with fail
    refine bodyPost_ret (v := .tuple #[.agg #[.string ⟨#[]⟩, .int .i64 0, .int .i64 0, .int .i64 0, .int .i64 0], .bool false]) (by simp [results, Tryd.results39, go_sem, c0, c1, c2, c3, c4]) rfl ?_
    exact ⟨_, _, _, _, _, _, rfl, HZ.out, below_set (below_set (below_set (below_set (below_set bw5 (Nat.le_refl _) _) (Nat.le_refl _) _) (Nat.le_refl _) _) (Nat.le_refl _) _) (Nat.le_refl _) _⟩
  | true =>
  obtain ⟨v0, v1, v2, v3, v4⟩ := blk5 C5
  cases hk : okK p0.data.toList x y z u with
  | false =>
    have HZ := Lib.hid (show parseKR s.data.toList = ([], 0, 0, 0, 0, false) by rw [parseK_of HKR.out, HP1.out, HP2.out]; exact if_neg (by simp only; rw [hk]; simp))
    have HK := Lib.hid hk
    clear hk
    go_wp2_with fail
    refine (implCommandValid_any p0 x y z u _ hp0 HM5.out).mono ?_
    rw [HK.out]
    rintro e w6 ⟨rfl, hb6⟩
    have bw6 := below_step bw5 hb6
    have R6 := R5.belowS hb6
    clear v0 v1 v2 v3 v4
    obtain ⟨f0, f1, f2, f3, f4⟩ := blk5f R6
    obtain ⟨c0, c1, c2, c3, c4⟩ := blk5 R6
    go_wp2_with fail
    refine bodyPost_ret (v := .tuple #[.agg #[.string ⟨#[]⟩, .int .i64 0, .int .i64 0, .int .i64 0, .int .i64 0], .bool false]) (by simp [results, Tryd.results39, go_sem, c0, c1, c2, c3, c4]) rfl ?_
    exact ⟨_, _, _, _, _, _, rfl, HZ.out, below_set (below_set (below_set (below_set (below_set bw6 (Nat.le_refl _) _) (Nat.le_refl _) _) (Nat.le_refl _) _) (Nat.le_refl _) _) (Nat.le_refl _) _⟩
  | true =>
    have HZ := Lib.hid (show parseKR s.data.toList = (p0.data.toList, x, y, z, u, true) by rw [parseK_of HKR.out, HP1.out, HP2.out]; exact if_pos ⟨rfl, rfl, hk⟩)
    have HK := Lib.hid hk
    clear hk
    go_wp2_with fail
    refine (implCommandValid_any p0 x y z u _ hp0 HM5.out).mono ?_
    rw [HK.out]
    rintro e w6 ⟨rfl, hb6⟩
    have bw6 := below_step bw5 hb6
    have R6 := R5.belowS hb6
    have C6 := C5.belowS hb6
    clear v0 v1 v2 v3 v4
    obtain ⟨v0, v1, v2, v3, v4⟩ := blk5 C6
    obtain ⟨f0, f1, f2, f3, f4⟩ := blk5f R6
    obtain ⟨c0, c1, c2, c3, c4⟩ := blk5 R6
    go_wp2_with fail
    refine bodyPost_ret (v := .tuple #[.agg #[.string p0, .int .i64 x, .int .i64 y, .int .i64 z, .int .i64 u], .bool true]) (by simp [results, Tryd.results39, go_sem, c0, c1, c2, c3, c4]) rfl ?_
    exact ⟨_, _, _, _, _, _, rfl, HZ.out, below_set (below_set (below_set (below_set (below_set bw6 (Nat.le_refl _) _) (Nat.le_refl _) _) (Nat.le_refl _) _) (Nat.le_refl _) _) (Nat.le_refl _) _⟩

theorem walk_FnExactCommandParse (s : ByteArray) (ws : s.size ≤ maxLen) (w : World) (hm : MaxAt w) :
    Calls Tryd.prog 14 #[.string s] w fun e w' => e = .returned (.bool true) ∧ Below w.heap.size w w' := by
  unfold maxLen at ws
  by_cases hbig : 1048576 < s.size
  · go_enter Tryd.func14, Tryd.ntmps14
    go_wp2_with fail
    go_ret
    exact ⟨rfl, Below.refl _ _⟩
  have HM := Lib.hid hm
  clear hm
  go_enter Tryd.func14, Tryd.ntmps14
  go_wp2_with fail
  refine (specCParse_any s _ (by omega)).mono ?_
  rintro e w1 ⟨t, x, y, z, u, b, rfl, h1, hb1⟩
  have H1 := Lib.hid h1
  have HM1 := Lib.hid ((HM.out.belowS hb1).belowS ((Below.refl w1.heap.size w1).alloc (Nat.le_refl _) (.cells #[.string t, .int .i64 x, .int .i64 y, .int .i64 z, .int .i64 u] 41)))
  clear h1
  go_wp2_with fail
  refine (implCParse_any s _ (by omega) HM1.out).mono ?_
  rintro e w2 ⟨t', x', y', z', u', b', rfl, h2, hb2⟩
  have h3 := H1.out.symm.trans h2
  simp only [Prod.mk.injEq] at h3
  obtain ⟨ht, rfl, rfl, rfl, rfl, rfl⟩ := h3
  have HT := Lib.hid ht
  have B2 := (Blk.new w1 41 #[.string t, .int .i64 x, .int .i64 y, .int .i64 z, .int .i64 u]).belowS hb2
  have bw2 := below_step (below_alloc hb1 _) hb2
  obtain ⟨c0, c1, c2, c3, c4⟩ := blk5 B2
  have hz := B2.lt
  have hne : w1.heap.size ≠ w2.heap.size := by omega
  clear hb2 hb1 h2 ht
  go_wp2_with fail
  refine (eqCommand_same t' t HT.out x y z u _).mono ?_
  rintro e w3 ⟨rfl, hb3⟩
  have bw3 := below_step (below_alloc bw2 _) hb3
  have hbb : (b != b) = false := by simp
  go_wp2_with fail
  go_ret
  exact ⟨rfl, bw3⟩
end Go.Proofs.YtokapkpebadcaaaDoor
