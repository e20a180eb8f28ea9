/- Trees and commands that are drawn; the walk of the law on valid commands. -/
import Derived.Test.YtlhhplhciiobfaaDoorPutS
import Derived.Test.YtlhhplhciiobfaaDoorDrawP
import Derived.Test.YtlhhplhciiobfaaDoorCmd
import Derived.Test.YtlhhplhciiobfaaDoorOpenK
namespace Go.Proofs.YtlhhplhciiobfaaDoor
open Go.RowKit
set_option linter.unusedVariables false
set_option linter.unusedSimpArgs false
set_option maxRecDepth 20000

/-- What is drawn as a tree: a slice behind the reader. -/
def DrawnT (m d g q : Nat) (w : World) (e : Ending) (w' : World) : Prop :=
  ∃ A c ys, e = .returned (.slice A ys.length c) ∧ ys.length ≤ m ∧ At encN 3 w' A ys ∧ (0 < ys.length → g < blk A) ∧ (∀ n ∈ ys, n.p.size ≤ 10) ∧ Rd w' g (q + d) ∧ w.grownBy w' (some g)

set_option maxHeartbeats 2000000 in
theorem l91Tree_any (N g q : Nat) (w : World) (hN : N ≤ 1000) (hr : Rd w g q) (hq : q ≤ 100000000000) :
    Calls Tryd.prog 79 #[.pointer (some ⟨g, 0, none⟩), .int .i64 N] w (DrawnT N (12 * N) g q w) := by
  have hgl := hr.lt
  go_enter Tryd.func79, Tryd.ntmps79
  go_wp2_with fail
  go_loopw [5, 6] (fun v i wr => ∃ (k : Nat) (A : Option Addr) (c : Nat) (ys : List Nod), i = .int .i64 k ∧ v = .slice A ys.length c ∧ k ≤ N ∧ ys.length ≤ k ∧ At encN 3 wr A ys ∧ Hid (0 < ys.length → g < blk A) ∧ Hid (∀ n ∈ ys, n.p.size ≤ 10) ∧ Rd wr g (q + 12 * k) ∧ w.grownBy wr (some g)) (fun _ i _ => N - (intOf i).toNat)
  case atStart => exact ⟨0, _, _, [], rfl, rfl, Nat.zero_le _, Nat.le_refl _, At.nil _, Lib.hid (fun h => absurd h (by simp)), Lib.hid (by simp), hr.alloc _, World.grownBy_alloc w _ _⟩
  case round =>
    obtain ⟨k, A, c, ys, rfl, rfl, hk, hys, hat, HG, HZ, hrk, hwk⟩ := hrel
    have hgk := hrk.lt
    by_cases hlt : k < N
    · go_wp2_with fail
      refine (l91Path_any g (q + 12 * k) _ hrk (by omega)).mono ?_
      rintro e w1 ⟨s, rfl, hs, hr1, hg1⟩
      have hat1 := hat.grown hg1 (fun h he => by injection he with he; have := HG.out h; omega)
      go_wp2_with fail
      refine (l91Content_any g (q + 12 * k + 8) _ hr1 (by omega)).mono ?_
      rintro e w2 ⟨x, y, rfl, -, -, hr2, hg2⟩
      have hat2 := hat1.grown hg2 (fun h he => by injection he with he; have := HG.out h; omega)
      have hw2 := grown_two (grown_two hwk hg1) hg2
      have hg2l := hr2.lt
      clear hat hat1 hg1 hg2 hrk hr1 hwk
      go_wp2_with fail
      refine (specTreePut_any A ys.length c ys s x y _ (by omega) rfl hat2 (fun n hn => by have := HZ.out n hn; omega) (by omega)).mono ?_
      rintro e w3 ⟨A4, c4, zs, b, rfl, hR, ho4, hb4⟩
      have hr3 := hr2.below hb4
      have hw3 : w.grownBy w3 (some g) := grown_two hw2 (only_of_below hb4 (some g))
      have hat3 := hat2.belowS hb4
      have HR := Lib.hid hR
      clear hR hat2 hw2 hr2
      cases b with
      | false =>
        clear ho4
        go_wp2_with fail
        go_roundw
        case rel => exact ⟨k + 1, A, c, ys, by go_num, rfl, by omega, by omega, hat3, HG, HZ, hr3.more (by omega), hw3⟩
        case measure => simp [intOf]; omega
      | true =>
        have hzs : zs = putL ys ⟨s, x, y⟩ := by
          rcases HR.out with ⟨_, _, h⟩ | ⟨h, _, _⟩
          · exact h
          · cases h
        have hzl : zs.length ≤ ys.length + 1 := by rw [hzs]; exact put_len _ _
        have HZ2 := Lib.hid (show ∀ n ∈ zs, n.p.size ≤ 10 from fun n hn => by
          rw [hzs] at hn
          rcases put_mem hn with rfl | hn
          · exact hs
          · exact HZ.out n hn)
        have at4 := own_at encN_len ho4 rfl
        have HG4 := Lib.hid (show 0 < zs.length → g < blk A4 from fun h => by have := (own_blk ho4 h).1; omega)
        clear ho4 hat3 hzs
        go_wp2_with fail
        go_roundw
        case rel => exact ⟨k + 1, A4, c4, zs, by go_num, rfl, by omega, by omega, at4, HG4, HZ2, hr3.more (by omega), hw3⟩
        case measure => simp [intOf]; omega
    · obtain rfl : N = k := by omega
      go_wp2_with fail
      go_ret
      exact ⟨A, c, ys, rfl, hys, hat, HG.out, HZ.out, hrk, hwk⟩

def abP : List ByteArray := [⟨#[97]⟩, ⟨#[98]⟩]
theorem abP_le : ∀ s ∈ abP, s.size ≤ 1 := by decide
set_option maxHeartbeats 2000000 in
theorem l91In_any (g q : Nat) (A : Option Addr) (n c : Nat) (ys : List Nod) (w : World) (hr : Rd w g q) (hq : q ≤ 200000000000) (hl : ys.length = n) (hn : n ≤ 1000) (ha : At encN 3 w A ys) (hg : 0 < n → g < blk A) (hz : ∀ m ∈ ys, m.p.size ≤ 10) :
    Calls Tryd.prog 115 #[.pointer (some ⟨g, 0, none⟩), .slice A n c] w (DrawnS 12 16 g q w) := by
  obtain ⟨i0, hi, hz0, hz1, hz2⟩ := info_parts infoN
  have HL := Lib.hid hl
  have hgl := hr.lt
  clear hl
  by_cases h0 : n = 0
  · subst h0
    go_enter Tryd.func115, Tryd.ntmps115
    go_wp2_with fail
    refine (l91Path_any g q _ hr (by omega)).mono ?_
    rintro e w1 ⟨s, rfl, hs, hr1, hg1⟩
    go_wp2_with fail
    go_ret
    exact ⟨s, rfl, by omega, hr1.more (by omega), hg1⟩
  have hn0 : 0 < n := by omega
  have hd : decide (0 < (n : Int)) = true := decide_eq_true (by omega)
  go_enter Tryd.func115, Tryd.ntmps115
  go_wp2_with fail
  refine (pick_any 4 g q _ hr (by omega) (by omega) (by omega)).mono ?_
  rintro e w1 ⟨r1, rfl, h10, h11, -, hr1, hg1⟩
  clear h11
  have hat1 := ha.grown hg1 (fun h he => by injection he with he; have := hg hn0; omega)
  by_cases k1 : 0 < r1
  · have hd1 : decide (0 < r1) = true := decide_eq_true k1
    go_wp2_with fail
    refine (pick_any n g (q + 1) _ hr1 (by omega) (by omega) (by omega)).mono ?_
    rintro e w2 ⟨r2, rfl, h20, h21, -, hr2, hg2⟩
    have hl2 := h21 (by omega)
    clear h21
    obtain ⟨m, rfl⟩ : ∃ m : Nat, r2 = m := ⟨r2.toNat, by omega⟩
    have hmn : m < n := by omega
    have hmz : m < ys.length := by rw [HL.out]; exact hmn
    have hat2 := hat1.grown hg2 (fun h he => by injection he with he; have := hg hn0; omega)
    have hidx := fun W => run_index_any (c := c) Tryd.underlying29 hi hz1 (ha.addr (by omega)) hmn W
    obtain ⟨p, hp⟩ : ∃ p, ys[m] = p := ⟨_, rfl⟩
    have hpz := hz p (hp ▸ List.getElem_mem _)
    obtain ⟨c0, c1, c2⟩ := at3 hat2 hmz hp
    have hw2 := grown_two hg1 hg2
    clear hp hg1 hg2 hr1 hat1
    go_wp2_with fail
    refine (pick_any 4 g (q + 2) _ hr2 (by omega) (by omega) (by omega)).mono ?_
    rintro e w3 ⟨r3, rfl, h30, h31, -, hr3, hg3⟩
    clear h31
    have hw3 := grown_two hw2 hg3
    have hg3l := hr3.lt
    by_cases k3 : r3 = 0
    · subst k3
      have hn3 := at_new (enc := encS) w3 encS_len abP 9 #[.string ⟨#[97]⟩, .string ⟨#[98]⟩] rfl (show 2 ≤ maxLen by decide)
      have hs1 : (p.p ++ ⟨#[47]⟩ : ByteArray).size ≤ 11 := by rw [size_add]; show p.p.size + 1 ≤ 11; omega
      go_wp2_with fail
      refine (of_any 1 g (q + 3) _ 2 _ abP _ (hr3.alloc _) (by omega) rfl (by omega) (by omega) hn3 (by show g < w3.heap.size; omega) abP_le).mono ?_
      rintro e w4 ⟨s, rfl, hs, hr4, hg4⟩
      have hs2 : (p.p ++ ⟨#[47]⟩ ++ s : ByteArray).size ≤ 12 := by rw [size_add]; omega
      go_wp2_with fail
      go_ret
      exact ⟨_, rfl, hs2, hr4.more (by omega), grown_two (grown_two hw3 (World.grownBy_alloc w3 _ _)) hg4⟩
    · have hk3 : (r3 == 0) = false := by simpa using k3
      clear k3
      go_wp2_with fail
      go_ret
      exact ⟨p.p, rfl, by omega, hr3.more (by omega), hw3⟩
  · have hd1 : decide (0 < r1) = false := decide_eq_false k1
    go_wp2_with fail
    refine (l91Path_any g (q + 1) _ hr1 (by omega)).mono ?_
    rintro e w2 ⟨s, rfl, hs, hr2, hg2⟩
    go_wp2_with fail
    go_ret
    exact ⟨s, rfl, by omega, hr2.more (by omega), grown_two hg1 hg2⟩

theorem grown_setK {w W : World} {row : Option Nat} (h : w.grownBy W row) {p : Addr} (hp : w.heap.size ≤ p.block) (u : Value) : w.grownBy (W.setCell p u) row :=
  ⟨h.os, h.tape, h.output, Nat.le_trans h.size (by simp [World.setCell]), fun b hb hne => (Below.heap_setCell W p u b (by omega)).trans (h.block b hb hne)⟩
theorem Boxed_other {W : World} {b : Nat} {t : TypeId} {cs : Array Value} {p : Addr} {u : Value} (hne : b ≠ p.block) (h : Blk W b t cs) : Blk (W.setCell p u) b t cs := (Below.heap_setCell W p u b (by omega)).trans h
/-- A command that is drawn. -/
def DrawnK (m d g q : Nat) (w : World) (e : Ending) (w' : World) : Prop :=
  ∃ (s : ByteArray) (x y z u : Int), e = .returned (.agg #[.string s, .int .i64 x, .int .i64 y, .int .i64 z, .int .i64 u]) ∧ s.size ≤ m ∧ Rd w' g (q + d) ∧ w.grownBy w' (some g)

set_option maxHeartbeats 2000000 in
theorem l91Command_any (g q : Nat) (A : Option Addr) (n c : Nat) (ys : List Nod) (w : World) (hr : Rd w g q) (hq : q ≤ 200000000000) (hl : ys.length = n) (hn : n ≤ 1000) (ha : At encN 3 w A ys) (hg : 0 < n → g < blk A) (hz : ∀ m ∈ ys, m.p.size ≤ 10) :
    Calls Tryd.prog 78 #[.pointer (some ⟨g, 0, none⟩), .slice A n c] w (DrawnK 12 30 g q w) := by
  have HL := Lib.hid hl
  have HG := Lib.hid hg
  have HZ := Lib.hid hz
  have hgl := hr.lt
  clear hl hg hz
  have PR := Blk.new w 35 #[.string ⟨#[]⟩, .int .i64 0, .int .i64 0, .int .i64 0, .int .i64 0]
  have hw0 := World.grownBy_alloc w (.cells #[.string ⟨#[]⟩, .int .i64 0, .int .i64 0, .int .i64 0, .int .i64 0] 35) (some g)
  have hr0 := hr.alloc (.cells #[.string ⟨#[]⟩, .int .i64 0, .int .i64 0, .int .i64 0, .int .i64 0] 35)
  have ha0 := ha.belowS (below_alloc (Below.refl w.heap.size w) (.cells #[.string ⟨#[]⟩, .int .i64 0, .int .i64 0, .int .i64 0, .int .i64 0] 35))
  obtain ⟨gR, hgR⟩ : ∃ gR, w.heap.size = gR := ⟨_, rfl⟩
  have hgw : w.heap.size ≤ gR := by omega
  have hgR2 : g < gR := by omega
  obtain ⟨W0, hW0⟩ : ∃ W0, W0 = w.alloc (.cells #[.string ⟨#[]⟩, .int .i64 0, .int .i64 0, .int .i64 0, .int .i64 0] 35) := ⟨_, rfl⟩
  rw [hgR, ← hW0] at PR
  rw [← hW0] at hw0 hr0 ha0
  go_enter Tryd.func78, Tryd.ntmps78
  go_upto_region 1 with fail
  try rw [hgR]
  rw [← hW0]
  clear hW0 hgR
  go_wp2_with fail
  refine (l91In_any g q A n c ys _ hr0 hq HL.out hn ha0 HG.out HZ.out).mono ?_
  rintro e w1 ⟨s, rfl, hs, hr1, hg1⟩
  have PR1 := PR.grown hg1 (fun he => by injection he with he; omega)
  have ha1 := ha0.grown hg1 (fun h he => by injection he with he; have := HG.out (by rw [← HL.out]; exact h); omega)
  go_wp2_with fail
  refine (l91Content_any g (q + 16) _ hr1 (by omega)).mono ?_
  rintro e w2 ⟨x, y, rfl, -, -, hr2, hg2⟩
  have PR2 := PR1.grown hg2 (fun he => by injection he with he; omega)
  have ha2 := ha1.grown hg2 (fun h he => by injection he with he; have := HG.out (by rw [← HL.out]; exact h); omega)
  have hw2 := grown_two (grown_two hw0 hg1) hg2
  have hl2 := PR2.lt
  have hl3 := hr2.lt
  clear PR PR1 ha0 ha1 hr0 hr1 hg1 hg2 hw0
  have PC := Blk.new w2 35 #[.string s, .int .i64 0, .int .i64 0, .int .i64 x, .int .i64 y]
  have PR3 := PR2.alloc (.cells #[.string s, .int .i64 0, .int .i64 0, .int .i64 x, .int .i64 y] 35)
  have hr3 := hr2.alloc (.cells #[.string s, .int .i64 0, .int .i64 0, .int .i64 x, .int .i64 y] 35)
  have ha3 := ha2.belowS (below_alloc (Below.refl w2.heap.size w2) (.cells #[.string s, .int .i64 0, .int .i64 0, .int .i64 x, .int .i64 y] 35))
  have hw3 := grown_two hw2 (World.grownBy_alloc w2 (.cells #[.string s, .int .i64 0, .int .i64 0, .int .i64 x, .int .i64 y] 35) (some g))
  obtain ⟨gC, hgC⟩ : ∃ gC, w2.heap.size = gC := ⟨_, rfl⟩
  obtain ⟨W2, hW2⟩ : ∃ W2, W2 = w2.alloc (.cells #[.string s, .int .i64 0, .int .i64 0, .int .i64 x, .int .i64 y] 35) := ⟨_, rfl⟩
  have hgCR : gR < gC := by omega
  have hgCg : g < gC := by omega
  have hgCw : w.heap.size ≤ gC := by omega
  rw [hgC, ← hW2] at PC
  rw [← hW2] at PR3 hr3 ha3 hw3
  go_upto_region 2 with fail
  try rw [hgC]
  rw [← hW2]
  clear hW2 hgC PR2 hr2 ha2 hw2 hl2 hl3
  obtain ⟨p0, p1, p2, p3, p4⟩ := blk5 PC
  go_wp2_with fail
  refine (specGet_any A n c ys s _ (by omega) HL.out ha3).mono ?_
  rintro e w3 ⟨x3, y3, rfl, -, hb3⟩
  have PC3 := PC.belowS hb3
  have PR4 := PR3.belowS hb3
  have hr4 := hr3.below hb3
  have hw4 := grown_two hw3 (only_of_below hb3 (some g))
  clear p0 p1 p2 p3 p4 PC PR3 hr3 hw3 ha3
  obtain ⟨p0, p1, p2, p3, p4⟩ := blk5 PC3
  obtain ⟨f0, f1, f2, f3, f4⟩ := blk5f PC3
  go_wp2_with fail
  obtain ⟨W4, hW4⟩ : ∃ W4, W4 = (w3.setCell ⟨gC, 1, none⟩ (.int .i64 x3)).setCell ⟨gC, 2, none⟩ (.int .i64 y3) := ⟨_, rfl⟩
  have PC4 : Blk W4 gC 35 #[.string s, .int .i64 x3, .int .i64 y3, .int .i64 x, .int .i64 y] := by rw [hW4]; exact ((PC3.set_ 1 _).set_ 2 _)
  have PR5 : Blk W4 gR 35 #[.string ⟨#[]⟩, .int .i64 0, .int .i64 0, .int .i64 0, .int .i64 0] := by rw [hW4]; exact (Boxed_other (by show gR ≠ gC; omega) (Boxed_other (by show gR ≠ gC; omega) PR4))
  have hr5 : Rd W4 g (q + 16 + 4) := by rw [hW4]; exact (hr4.set (by omega) _).set (by omega) _
  have hw5 : w.grownBy W4 (some g) := by rw [hW4]; exact grown_setK (grown_set hw4 hgCw _) hgCw _
  rw [← hW4]
  clear hW4 p0 p1 p2 p3 p4 f0 f1 f2 f3 f4 PC3 PR4 hr4 hw4
  refine (pick_any 12 g (q + 16 + 4) _ hr5 (by omega) (by omega) (by omega)).mono ?_
  rintro e w6 ⟨r, rfl, -, -, -, hr6, hg6⟩
  have PC6 := PC4.grown hg6 (fun he => by injection he with he; omega)
  have PR6 := PR5.grown hg6 (fun he => by injection he with he; omega)
  have hw6 := grown_two hw5 hg6
  clear PC4 PR5 hr5 hw5 hg6
  by_cases hr0 : r = 0
  · subst hr0
    go_wp2_with fail
    refine (l91Content_any g (q + 16 + 4 + 1) _ hr6 (by omega)).mono ?_
    rintro e w7 ⟨x7, y7, rfl, -, -, hr7, hg7⟩
    have PC7 := PC6.grown hg7 (fun he => by injection he with he; omega)
    have PR7 := PR6.grown hg7 (fun he => by injection he with he; omega)
    have hw7 := grown_two hw6 hg7
    obtain ⟨p0, p1, p2, p3, p4⟩ := blk5 PC7
    obtain ⟨f0, f1, f2, f3, f4⟩ := blk5f PC7
    clear PC6 PR6 hr6 hw6 hg7
    go_upto_region 5 with fail
    obtain ⟨W8, hW8⟩ : ∃ W8, W8 = (w7.setCell ⟨gC, 1, none⟩ (.int .i64 x7)).setCell ⟨gC, 2, none⟩ (.int .i64 y7) := ⟨_, rfl⟩
    have PC8 : Blk W8 gC 35 #[.string s, .int .i64 x7, .int .i64 y7, .int .i64 x, .int .i64 y] := by rw [hW8]; exact ((PC7.set_ 1 _).set_ 2 _)
    have PR8 : Blk W8 gR 35 #[.string ⟨#[]⟩, .int .i64 0, .int .i64 0, .int .i64 0, .int .i64 0] := by rw [hW8]; exact (Boxed_other (by show gR ≠ gC; omega) (Boxed_other (by show gR ≠ gC; omega) PR7))
    have hr8 : Rd W8 g (q + 30) := by rw [hW8]; exact ((hr7.set (by omega) _).set (by omega) _).more (by omega)
    have hw8 : w.grownBy W8 (some g) := by rw [hW8]; exact grown_setK (grown_set hw7 hgCw _) hgCw _
    rw [← hW8]
    clear hW8 p0 p1 p2 p3 p4 f0 f1 f2 f3 f4 PC7 PR7 hr7 hw7
    obtain ⟨p0, p1, p2, p3, p4⟩ := blk5 PC8
    obtain ⟨q0, q1, q2, q3, q4⟩ := blk5 PR8
    obtain ⟨f0, f1, f2, f3, f4⟩ := blk5f PR8
    go_wp2_with fail
    obtain ⟨W9, hW9⟩ : ∃ W9, W9 = ((((W8.setCell ⟨gR, 0, none⟩ (.string s)).setCell ⟨gR, 1, none⟩ (.int .i64 x7)).setCell ⟨gR, 2, none⟩ (.int .i64 y7)).setCell ⟨gR, 3, none⟩ (.int .i64 x)).setCell ⟨gR, 4, none⟩ (.int .i64 y) := ⟨_, rfl⟩
    have PR9 : Blk W9 gR 35 #[.string s, .int .i64 x7, .int .i64 y7, .int .i64 x, .int .i64 y] := by rw [hW9]; exact (((((PR8.set_ 0 _).set_ 1 _).set_ 2 _).set_ 3 _).set_ 4 _)
    have hr9 : Rd W9 g (q + 30) := by rw [hW9]; exact ((((hr8.set (by omega) _).set (by omega) _).set (by omega) _).set (by omega) _).set (by omega) _
    have hw9 : w.grownBy W9 (some g) := by rw [hW9]; exact grown_setK (grown_setK (grown_setK (grown_setK (grown_set hw8 hgw _) hgw _) hgw _) hgw _) hgw _
    rw [← hW9]
    clear hW9 p0 p1 p2 p3 p4 q0 q1 q2 q3 q4 f0 f1 f2 f3 f4
    obtain ⟨q0, q1, q2, q3, q4⟩ := blk5 PR9
    refine bodyPost_ret (v := .agg #[.string s, .int .i64 x7, .int .i64 y7, .int .i64 x, .int .i64 y]) (by simp [results, Tryd.results78, go_sem, q0, q1, q2, q3, q4]) rfl ?_
    exact ⟨s, x7, y7, x, y, rfl, hs, hr9, hw9⟩
  · have hr0' : (r == 0) = false := by simpa using hr0
    clear hr0
    go_upto_region 5 with fail
    have PC8 := PC6
    have PR8 := PR6
    have hr8 := hr6.more (show q + 16 + 4 + 1 ≤ q + 30 by omega)
    have hw8 := hw6
    obtain ⟨W8, hW8⟩ : ∃ W8, W8 = w6 := ⟨_, rfl⟩
    rw [← hW8] at PC8 PR8 hr8 hw8 ⊢
    clear hW8 PC6 PR6 hr6 hw6
    obtain ⟨p0, p1, p2, p3, p4⟩ := blk5 PC8
    obtain ⟨q0, q1, q2, q3, q4⟩ := blk5 PR8
    obtain ⟨f0, f1, f2, f3, f4⟩ := blk5f PR8
    go_wp2_with fail
    obtain ⟨W9, hW9⟩ : ∃ W9, W9 = ((((W8.setCell ⟨gR, 0, none⟩ (.string s)).setCell ⟨gR, 1, none⟩ (.int .i64 x3)).setCell ⟨gR, 2, none⟩ (.int .i64 y3)).setCell ⟨gR, 3, none⟩ (.int .i64 x)).setCell ⟨gR, 4, none⟩ (.int .i64 y) := ⟨_, rfl⟩
    have PR9 : Blk W9 gR 35 #[.string s, .int .i64 x3, .int .i64 y3, .int .i64 x, .int .i64 y] := by rw [hW9]; exact (((((PR8.set_ 0 _).set_ 1 _).set_ 2 _).set_ 3 _).set_ 4 _)
    have hr9 : Rd W9 g (q + 30) := by rw [hW9]; exact ((((hr8.set (by omega) _).set (by omega) _).set (by omega) _).set (by omega) _).set (by omega) _
    have hw9 : w.grownBy W9 (some g) := by rw [hW9]; exact grown_setK (grown_setK (grown_setK (grown_setK (grown_set hw8 hgw _) hgw _) hgw _) hgw _) hgw _
    rw [← hW9]
    clear hW9 p0 p1 p2 p3 p4 q0 q1 q2 q3 q4 f0 f1 f2 f3 f4
    obtain ⟨q0, q1, q2, q3, q4⟩ := blk5 PR9
    refine bodyPost_ret (v := .agg #[.string s, .int .i64 x3, .int .i64 y3, .int .i64 x, .int .i64 y]) (by simp [results, Tryd.results78, go_sem, q0, q1, q2, q3, q4]) rfl ?_
    exact ⟨s, x3, y3, x, y, rfl, hs, hr9, hw9⟩
end Go.Proofs.YtlhhplhciiobfaaDoor
