/- Bodies are drawn. -/
import Derived.Test.YtnlgpjloedoebaaDraw2
import Derived.Deep.DeepCutAuto
namespace Go.Proofs.Ytnlgpjloedoebaa
open Go.RowKit
set_option linter.unusedVariables false
set_option linter.unusedSimpArgs false

theorem own_ge' {w : World} {base : Nat} {e : TypeId} {k : Nat} {v : Value} {n : Nat} {cs : List Value} (h : w.ownsRow base e k v n cs) : ∀ g, v.ownBlock = some g → base ≤ g := fun g hg => (h.lt g hg).1
theorem encI_one (z : Int) : ∀ u ∈ encI z, u.oneCell' = true := by intro u hu; simp [encI] at hu; subst hu; rfl

theorem ret_slice {A : Option Addr} {n m c : Nat} (h : n = m) : Ending.returned (.slice A n c) = .returned (.slice A m c) := by rw [h]
theorem set_flat (l : List Int) (j : Nat) (z : Int) : (l.set j z).flatMap encI = (l.flatMap encI).set j (.int .i64 z) := by
  have e : ∀ l : List Int, l.flatMap encI = l.map (Value.int .i64) := fun l => by induction l with
    | nil => rfl
    | cons x l ih => simp [List.flatMap_cons, encI] at ih ⊢; exact ih
  rw [e, e, List.map_set]

/-- What is drawn as a body: at most 17 numbers from -1 to 256, in a row of its own. -/
def DrawnL (g q : Nat) (w : World) (e : Ending) (w' : World) : Prop := ∃ (l : List Int) (A : Option Addr) (c : Nat), e = .returned (.slice A l.length c) ∧ w'.ownsRow w.heap.size 3 1 (.slice A l.length c) l.length (l.flatMap encI) ∧ l.length ≤ 17 ∧ (∀ z ∈ l, -1 ≤ z ∧ z ≤ 256) ∧ Rd w' g (q + 30) ∧ w.grownBy w' (some g)

set_option maxHeartbeats 2000000 in
theorem l91Body_any (g q : Nat) (w : World) (hr : Rd w g q) (hq : q ≤ 549755813888) :
    Calls Try.prog 52 #[.pointer (some ⟨g, 0, none⟩)] w (DrawnL g q w) := by
  have hgl := hr.lt
  obtain ⟨i0, hi, hz0, hz1, hz2⟩ := info_parts infoInt
  go_enter Try.func52, Try.ntmps52
  go_wp2_with fail
  refine (pick_any 6 g q _ (hr.alloc _) (by omega) (by omega) (by omega)).mono ?_
  rintro e w1 ⟨r1, rfl, h10, h11, -, hr1, hg1⟩
  have hl1 := h11 (by omega)
  clear h11
  have ho1 := own_farG ((World.ownsRow_lit (base := w.heap.size) (e := 3) (size := 1) w #[] 0 (Nat.le_refl _) (by decide) rfl)) hg1 hgl
  have hw1 := grown_two (World.grownBy_alloc w _ (some g)) hg1
  go_wp2_with fail
  refine (pick_any 20 g (q + 1) _ hr1 (by omega) (by omega) (by omega)).mono ?_
  rintro e w2 ⟨r2, rfl, h20, h21, -, hr2, hg2⟩
  have hl2 := h21 (by omega)
  clear h21
  have ho2 := own_farG ho1 hg2 hgl
  have hw2 := grown_two hw1 hg2
  have hz2' := hw2.size
  go_upto_if 12 with (fail)
  go_cut [4] (fun n wx => ∃ N : Nat, n = .int .i64 N ∧ N ≤ 17 ∧ wx.ownsRow w.heap.size 3 1 (.slice (some ⟨w.heap.size, 0, none⟩) 0 0) 0 [] ∧ Rd wx g (q + 3) ∧ w.grownBy wx (some g))
  case first =>
    by_cases k0 : r2 = 0
    · subst k0
      go_wp2_with fail
      refine (pick_any 3 g (q + 2) _ (hr2.alloc _) (by omega) (by omega) (by omega)).mono ?_
      rintro e w3 ⟨r3, rfl, h30, h31, -, hr3, hg3⟩
      have hl3 := h31 (by omega)
      clear h31
      have s3 := (Blk.new w2 3 #[.int .i64 0, .int .i64 16, .int .i64 17]).grown hg3 (fun he => by injection he with he; omega)
      have c30 := s3.cell 0
      have c31 := s3.cell 1
      have c32 := s3.cell 2
      simp only [List.getElem?_toArray, List.getElem?_cons_zero, List.getElem?_cons_succ] at c30 c31 c32
      have ho3 := own_farG (ho2.alloc _) hg3 hgl
      have hw3 := grown_two (grown_two hw2 (World.grownBy_alloc w2 _ _)) hg3
      clear hg3 hg1 hg2 s3
      obtain rfl | rfl | rfl : r3 = 0 ∨ r3 = 1 ∨ r3 = 2 := by omega
      · go_wp2_with fail
        go_meet
        exact ⟨0, rfl, by omega, ho3, hr3, hw3⟩
      · go_wp2_with fail
        go_meet
        exact ⟨16, rfl, by omega, ho3, hr3, hw3⟩
      · go_wp2_with fail
        go_meet
        exact ⟨17, rfl, by omega, ho3, hr3, hw3⟩
    · have k0' : (r2 == 0) = false := by simpa using k0
      obtain ⟨N, hN⟩ : ∃ N : Nat, (N : Int) = 1 + r1 := ⟨(1 + r1).toNat, by omega⟩
      have HN := Lib.hid hN
      clear k0 hN
      go_wp2_with fail
      go_meet
      exact ⟨N, by rw [HN.out], by have := HN.out; omega, ho2, hr2.more (by omega), hw2⟩
  case rest =>
    obtain ⟨N, rfl, hN, ho, hrc, hwc⟩ := hcut
    clear hg1 hg2 ho1 ho2 hw1 hw2 hr1 hr2 hz2' hr
    go_wp2_with fail
    have hzc := hwc.size
    go_loopw [3, 5] (fun v i wr => ∃ k : Nat, i = .int .i64 k ∧ k ≤ N ∧ ∃ l : List Int, l.length = k ∧ (∀ z ∈ l, -1 ≤ z ∧ z ≤ 256) ∧ wr.ownsRow w.heap.size 3 1 v k (l.flatMap encI) ∧ Rd wr g (q + 3 + k) ∧ w.grownBy wr (some g)) (fun _ i _ => N - (intOf i).toNat)
    case atStart => exact ⟨0, rfl, Nat.zero_le _, [], rfl, (fun z hz => by simp at hz), ho, hrc, hwc⟩
    case round =>
      obtain ⟨k, rfl, hk, l, hl, hrange, ho, hrk, hwk⟩ := hrel
      have hzk := hwk.size
      have HL := Lib.hid hl
      clear hl
      by_cases hlt : k < N
      · go_wp2_with fail
        refine (pick_any 256 g (q + 3 + k) _ hrk (by omega) (by omega) (by omega)).mono ?_
        rintro e w4 ⟨r4, rfl, h40, h41, -, hr4, hg4⟩
        have hl4 := h41 (by omega)
        clear h41
        have ho4 := (own_farG ho hg4 hgl).alloc (.cells #[.int .i64 r4] 3)
        have hn4 := at_new (enc := encI) w4 encI_len [r4] 3 #[.int .i64 r4] rfl (show 1 ≤ maxLen by decide)
        have hw4 := grown_two hwk hg4
        have hz4 := hw4.size
        have hge := own_ge' ho4
        clear hg4
        go_wp2_with (at_builtin; refine wpList_append_at _ rfl _ _ 32 rfl w.heap.size 3 i0 (.int .i64 0) 1 8 Try.underlying32 hi hz0 hz1 hz2 rfl (by decide) _ k _ rfl ho4 encI_len encI_one _ 1 1 [r4] rfl rfl hn4 (by unfold maxLen; omega) (by omega) (by simp; omega) ?_; intro v1 w5 ho5 hg5 hv5)
        go_roundw
        case rel =>
          refine ⟨k + 1, by go_num, by omega, l ++ [r4], by simp [HL.out], ?_, by simpa using ho5, (hr4.alloc _).kept hg5 ?_, ?_⟩
          · intro z hz
            rcases List.mem_append.1 hz with hz | hz
            · exact hrange z hz
            · simp at hz; omega
          · intro b hb; have := hge b hb; omega
          · exact grown_own (grown_two hw4 (World.grownBy_alloc w4 _ _)) hg5 hge
        case measure => simp [intOf]; omega
      · obtain rfl : N = k := by omega
        by_cases hN0 : N = 0
        · subst hN0
          go_wp2_with fail
          go_ret
          obtain ⟨A, c, rfl, _⟩ := own_form ho
          exact ⟨l, A, c, ret_slice HL.out.symm, by rw [HL.out]; exact ho, by rw [HL.out]; omega, hrange, hrk.more (by omega), hwk⟩
        obtain ⟨A, c, rfl, hNc, hcm, hA⟩ := own_form ho
        obtain ⟨hA1, hA2, hA3⟩ := hA (by omega)
        have HA := Lib.hid hA1
        clear hA1 hA
        go_wp2_with fail
        refine (pick_any 24 g (q + 3 + N) _ hrk (by omega) (by omega) (by omega)).mono ?_
        rintro e w4 ⟨r4, rfl, h40, h41, -, hr4, hg4⟩
        have ho4 := own_farG ho hg4 hgl
        have hw4 := grown_two hwk hg4
        have hz4 := hw4.size
        by_cases k4 : r4 = 0
        · subst k4
          go_wp2_with fail
          refine (pick_any N g (q + 3 + N + 1) _ hr4 (by omega) (by omega) (by omega)).mono ?_
          rintro e w5 ⟨r5, rfl, h50, h51, -, hr5, hg5⟩
          have hl5 := h51 (by omega)
          clear h51
          obtain ⟨j, rfl⟩ := Int.eq_ofNat_of_zero_le h50
          have ho5 := own_farG ho4 hg5 hgl
          have hw5 := grown_two hw4 hg5
          have hz5 := hw5.size
          go_wp2_with fail
          refine (pick_any 2 g (q + 3 + N + 1 + 1) _ (hr5.alloc _) (by omega) (by omega) (by omega)).mono ?_
          rintro e w6 ⟨r6, rfl, h60, h61, -, hr6, hg6⟩
          have hl6 := h61 (by omega)
          clear h61
          have s6 := (Blk.new w5 3 #[.int .i64 (-1), .int .i64 256]).grown hg6 (fun he => by injection he with he; omega)
          have c60 := s6.cell 0
          have c61 := s6.cell 1
          simp only [List.getElem?_toArray, List.getElem?_cons_zero, List.getElem?_cons_succ] at c60 c61
          have ho6 := own_farG (ho5.alloc _) hg6 hgl
          have hw6 := grown_two (grown_two hw5 (World.grownBy_alloc w5 _ _)) hg6
          have hj : j < N := by omega
          have ho6' := ho6
          rw [HA.out] at ho6'
          have hidx := fun W => run_index_one (c := c) (n := N) Try.underlying32 hi hz1 (A := A) (by rw [HA.out]; rfl) hj W
          have hoff : off A = 0 := by rw [HA.out]; rfl
          simp only [hoff, Nat.zero_add] at hidx
          obtain ⟨u0, hc2⟩ : ∃ u0, w6.cell? ⟨blk A, j, none⟩ = some u0 := ⟨_, by rw [ho6'.cellAt j (by omega)]; exact List.getElem?_eq_getElem (by rw [ho6.1]; omega)⟩
          have hf2 := ho6'.frozenAt j
          have hst := fun u => ho6'.stored j u
          have hbg : g < blk A := by omega
          clear hg4 hg5 hg6 s6 hoff ho ho4 ho5 ho6 ho6'
          obtain rfl | rfl : r6 = 0 ∨ r6 = 1 := by omega
          · go_wp2_with fail
            go_ret
            refine ⟨l.set j (-1), A, c, ret_slice (List.length_set.trans HL.out).symm, ?_, by rw [List.length_set, HL.out]; omega, ?_, (hr6.set (p := ⟨blk A, j, none⟩) hbg _).more (by omega), grown_set (p := ⟨blk A, j, none⟩) hw6 hA2 _⟩
            · have := (hst (.int .i64 (-1))).1
              rw [List.length_set, HL.out, set_flat, HA.out]
              exact this
            · intro z hz
              rcases List.mem_or_eq_of_mem_set hz with hz | hz
              · exact hrange z hz
              · omega
          · go_wp2_with fail
            go_ret
            refine ⟨l.set j 256, A, c, ret_slice (List.length_set.trans HL.out).symm, ?_, by rw [List.length_set, HL.out]; omega, ?_, (hr6.set (p := ⟨blk A, j, none⟩) hbg _).more (by omega), grown_set (p := ⟨blk A, j, none⟩) hw6 hA2 _⟩
            · have := (hst (.int .i64 256)).1
              rw [List.length_set, HL.out, set_flat, HA.out]
              exact this
            · intro z hz
              rcases List.mem_or_eq_of_mem_set hz with hz | hz
              · exact hrange z hz
              · omega
        · have k4' : (r4 == 0) = false := by simpa using k4
          clear k4
          go_wp2_with fail
          go_ret
          exact ⟨l, A, c, ret_slice HL.out.symm, by rw [HL.out]; exact ho4, by rw [HL.out]; omega, hrange, hr4.more (by omega), hw4⟩
end Go.Proofs.Ytnlgpjloedoebaa
