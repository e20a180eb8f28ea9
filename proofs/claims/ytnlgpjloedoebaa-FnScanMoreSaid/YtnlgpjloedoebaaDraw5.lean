/- What the laws on frames draw: tables of bodies; lists that are often frames. -/
import Derived.Test.YtnlgpjloedoebaaDraw4
import Derived.Test.YtnlgpjloedoebaaWSum
import Derived.Test.YtnlgpjloedoebaaPlainF
namespace Go.Proofs.Ytnlgpjloedoebaa
open Go.RowKit
set_option linter.unusedVariables false
set_option linter.unusedSimpArgs false

theorem Rows1.mono {w : World} {b b' : Nat} {v : Value} {rows : List RowI} (h : Rows1 w b v rows) (hb : b' ≤ b) : Rows1 w b' v rows := ⟨own_mono h.outer hb, fun r hr => own_mono (h.inner r hr) hb, h.apart⟩

/-- A table that is drawn for a law. -/
def IsT (w : World) (e : Ending) (w' : World) : Prop := ∃ (rows : List RowI) (A : Option Addr) (c : Nat), e = .returned (.slice A rows.length c) ∧ Rows1 w' w.heap.size (.slice A rows.length c) rows ∧ rows.length ≤ 41 ∧ (∀ r ∈ rows, r.zs.length ≤ 17 ∧ ∀ z ∈ r.zs, -1 ≤ z ∧ z ≤ 256) ∧ Below w.heap.size w w'

theorem drawFramesOf_any (A : Option Addr) (n c : Nat) (l : List Int) (w : World) (hl : l.length = n) (hnc : n ≤ c) (ha : At encU8 1 w A l) (hby : ∀ z ∈ l, 0 ≤ z ∧ z ≤ 255) (hn : n ≤ 140737488355328) :
    Calls Try.prog 34 #[.slice A n c] w (IsT w) := by
  go_enter Try.func34, Try.ntmps34
  go_wp2_with fail
  refine (l6Open_any A n c l _ hl hnc ha hby hn).mono ?_
  rintro e w1 ⟨g, rfl, hr, hg, hb1⟩
  clear hl
  go_wp2_with fail
  refine (l91Bodies_any g 0 _ hr (by omega)).mono ?_
  rintro e w2 ⟨rows, A2, c2, rfl, hro, hn2, hrange, hr2, hg2⟩
  go_wp2_with fail
  go_ret
  exact ⟨rows, A2, c2, rfl, hro.mono hb1.size, hn2, hrange, below_only hb1 hg2 (fun b hb => by injection hb with hb; omega)⟩

/-- A list that is drawn for a law: it is read. -/
def IsN (w : World) (e : Ending) (w' : World) : Prop := ∃ (l : List Int) (A : Option Addr) (c : Nat), e = .returned (.slice A l.length c) ∧ At encI 1 w' A l ∧ l.length ≤ c ∧ c ≤ 9223372036854775807 ∧ l.length ≤ 800 ∧ (∀ z ∈ l, -9223372036854775808 ≤ z ∧ z ≤ 9223372036854775807) ∧ Below w.heap.size w w'
def IsN1 (w : World) (base : Nat) (e : Ending) (w' : World) : Prop := ∃ (l : List Int) (A : Option Addr) (c : Nat), e = .returned (.slice A l.length c) ∧ At encI 1 w' A l ∧ l.length ≤ c ∧ c ≤ 9223372036854775807 ∧ l.length ≤ 800 ∧ (∀ z ∈ l, -9223372036854775808 ≤ z ∧ z ≤ 9223372036854775807) ∧ Below base w w'
theorem isN1_of {w w' : World} {base n : Nat} {l : List Int} {A : Option Addr} {c : Nat} (hn : l.length = n) (ha : At encI 1 w' A l) (h1 : n ≤ c) (h2 : c ≤ 9223372036854775807) (h3 : n ≤ 800) (h4 : ∀ z ∈ l, -9223372036854775808 ≤ z ∧ z ≤ 9223372036854775807) (h5 : Below base w w') : IsN1 w base (.returned (.slice A n c)) w' := by
  subst hn
  exact ⟨l, A, c, rfl, ha, h1, h2, h3, h4, h5⟩

set_option maxHeartbeats 2000000 in
theorem l91Damage_any (g q : Nat) (A : Option Addr) (n c base : Nat) (l : List Int) (w : World) (hr : Rd w g q) (hq : q ≤ 249755813888) (hl : l.length = n) (hn : n ≤ 750) (ho : w.ownsRow base 3 1 (.slice A n c) n (l.flatMap encI)) (hgb : g < base) (hgc : base ≤ w.heap.size) (hwf : ∀ z ∈ l, -9223372036854775808 ≤ z ∧ z ≤ 9223372036854775807) :
    Calls Try.prog 57 #[.pointer (some ⟨g, 0, none⟩), .slice A n c] w (IsN1 w g) := by
  have hgl := hr.lt
  obtain ⟨i0, hi, hz0, hz1, hz2⟩ := info_parts infoInt
  obtain ⟨hnc, hcm⟩ := own_caps ho
  have HL := Lib.hid hl
  clear hl
  have at0 := own_at encI_len ho HL.out
  by_cases hn0 : n = 0
  · have hn1 : ((n : Int) == 0) = true := by simp; omega
    go_enter Try.func57, Try.ntmps57
    go_wp2
    go_ret
    exact isN1_of HL.out at0 hnc hcm (by omega) hwf (Below.refl _ _)
  have hn1 : ((n : Int) == 0) = false := by simp; omega
  obtain ⟨A', c', hv, _, _, hA⟩ := own_form ho
  injection hv with hv1 _ hv2
  subst hv1
  subst hv2
  obtain ⟨hA1, hA2, hA3⟩ := hA (by omega)
  have HA := Lib.hid hA1
  clear hA hA1 at0
  have step : ∀ w1 : World, w.grownBy w1 (some g) → w1.ownsRow base 3 1 (.slice A n c) n (l.flatMap encI) ∧ Below g w w1 := fun w1 hg => ⟨own_farG ho hg hgb, (Below.refl g w).grown hg (by omega) (fun b hb => by injection hb with hb; omega)⟩
  have HS := Lib.hid step
  clear step
  go_enter Try.func57, Try.ntmps57
  go_wp2_with fail
  refine (pick_any n g q _ hr (by omega) (by omega) (by omega)).mono ?_
  rintro e w1 ⟨r1, rfl, h10, h11, -, hr1, hg1⟩
  have hl1 := h11 (by omega)
  clear h11
  obtain ⟨k, rfl⟩ := Int.eq_ofNat_of_zero_le h10
  have hk : k < n := by omega
  go_wp2_with fail
  refine (pick_any 5 g (q + 1) _ hr1 (by omega) (by omega) (by omega)).mono ?_
  rintro e w2 ⟨r2, rfl, h20, h21, -, hr2, hg2⟩
  have hl2 := h21 (by omega)
  clear h21
  have hw2 := grown_two hg1 hg2
  obtain ⟨ho2, hb2⟩ := HS.out _ hw2
  have hz2' := hb2.size
  have at2 := own_at encI_len ho2 HL.out
  clear hg1 hg2 hr1
  by_cases k0 : r2 = 0
  · subst k0
    have hsl := fun W => run_slice_upto Try.underlying32 hi hz1 A n c W k (by omega)
    go_wp2_with fail
    go_ret
    exact isN1_of (l := l.take k) (by rw [List.length_take, HL.out]; omega) (at2.take (c := c) (by rw [HL.out]; exact hnc) (by rw [HL.out]; omega)) (by omega) hcm (by omega) (fun z hz => hwf z (List.mem_of_mem_take hz)) hb2
  by_cases k1 : r2 = 1
  · subst k1
    go_wp2_with fail
    refine (pick_any 258 g (q + 2) _ hr2 (by omega) (by omega) (by omega)).mono ?_
    rintro e w3 ⟨r3, rfl, h30, h31, -, hr3, hg3⟩
    have hl3 := h31 (by omega)
    clear h31
    have hw3 := grown_two hw2 hg3
    obtain ⟨ho3, hb3⟩ := HS.out _ hw3
    have ho3' := ho3
    rw [HA.out] at ho3'
    have hidx := fun W => run_index_one (c := c) (n := n) Try.underlying32 hi hz1 (A := A) (by rw [HA.out]; rfl) hk W
    have hoff : off A = 0 := by rw [HA.out]; rfl
    simp only [hoff, Nat.zero_add] at hidx
    obtain ⟨u0, hc2⟩ : ∃ u0, w3.cell? ⟨blk A, k, none⟩ = some u0 := ⟨_, by rw [ho3'.cellAt k (by omega)]; exact List.getElem?_eq_getElem (by rw [ho3.1]; omega)⟩
    have hf2 := ho3'.frozenAt k
    have hst := fun u => ho3'.stored k u
    clear hoff hg3 ho ho2 ho3 ho3'
    go_wp2_with fail
    go_ret
    refine isN1_of (l := l.set k (r3 - 1)) (by rw [List.length_set]; exact HL.out) (own_at (e := 3) (base := base) (n := n) (c := c) encI_len ?_ (by rw [List.length_set]; exact HL.out)) hnc hcm (by omega) ?_ (hb3.setCell (p := ⟨blk A, k, none⟩) (by show g ≤ blk A; omega) _)
    · rw [set_flat, HA.out]
      exact (hst (.int .i64 (r3 - 1))).1
    · intro z hz
      rcases List.mem_or_eq_of_mem_set hz with hz | hz
      · exact hwf z hz
      · omega
  by_cases k2 : r2 = 2
  · subst k2
    go_wp2_with fail
    refine (pick_any 20 g (q + 2) _ hr2 (by omega) (by omega) (by omega)).mono ?_
    rintro e w3 ⟨r3, rfl, h30, h31, -, hr3, hg3⟩
    have hl3 := h31 (by omega)
    clear h31
    have hw3 := grown_two hw2 hg3
    obtain ⟨ho3, hb3⟩ := HS.out _ hw3
    have hz3 := hb3.size
    have ho4 := ho3.alloc (.cells #[.int .i64 r3] 3)
    have hn4 := at_new (enc := encI) w3 encI_len [r3] 3 #[.int .i64 r3] rfl (show 1 ≤ maxLen by decide)
    have hge := own_ge' ho4
    clear hg3
    go_wp2_with (at_builtin; refine wpList_append_at _ rfl _ _ 32 rfl base 3 i0 (.int .i64 0) 1 8 Try.underlying32 hi hz0 hz1 hz2 rfl (by decide) _ n _ rfl ho4 encI_len encI_one _ 1 1 [r3] rfl rfl hn4 (by unfold maxLen; omega) (by omega) (by simp; omega) ?_; intro v1 w5 ho5 hg5 hv5)
    go_ret
    obtain ⟨A5, c5, rfl, h5c, h5m, _⟩ := own_form ho5
    unfold maxLen at h5m
    have hl5 : (l ++ [r3]).length = n + 1 := by simp [HL.out]
    refine isN1_of (l := l ++ [r3]) hl5 (own_at (e := 3) (base := base) encI_len (by rw [List.flatMap_append]; exact ho5) hl5) h5c (by omega) (by omega) ?_ ((hb3.alloc (by omega) _).grown hg5 (by simp only [World.size_alloc]; omega) (fun b hb => by have := hge b hb; omega))
    intro z hz
    rcases List.mem_append.1 hz with hz | hz
    · exact hwf z hz
    · simp at hz; omega
  have k0' : (r2 == 0) = false := by simpa using k0
  have k1' : (r2 == 1) = false := by simpa using k1
  have k2' : (r2 == 2) = false := by simpa using k2
  clear k0 k1 k2
  go_wp2_with fail
  go_ret
  exact isN1_of HL.out at2 hnc hcm (by omega) hwf hb2

theorem framesL_bd {bs : List (List Int)} : ∀ z ∈ framesL bs, -9223372036854775808 ≤ z ∧ z ≤ 9223372036854775807 := by
  intro z hz
  unfold framesL at hz
  split at hz
  · obtain ⟨b, _, hb⟩ := List.mem_flatMap.1 hz
    exact frameL_bd z hb
  · cases hz
theorem framesL_len {bs : List (List Int)} (h : bs.length ≤ 41) : (framesL bs).length ≤ 738 := by
  have := flat_le bs
  unfold framesL
  split
  · omega
  · simp

theorem drawFramesScan_any (A : Option Addr) (n c : Nat) (l : List Int) (w : World) (hl : l.length = n) (hnc : n ≤ c) (ha : At encU8 1 w A l) (hby : ∀ z ∈ l, 0 ≤ z ∧ z ≤ 255) (hn : n ≤ 140737488355328) :
    Calls Try.prog 44 #[.slice A n c] w (IsN w) := by
  go_enter Try.func44, Try.ntmps44
  go_wp2_with fail
  refine (l6Open_any A n c l _ hl hnc ha hby hn).mono ?_
  rintro e w1 ⟨g, rfl, hr, hg, hb1⟩
  clear hl
  go_wp2_with fail
  refine (l91Bodies_any g 0 _ hr (by omega)).mono ?_
  rintro e w2 ⟨rows, A2, c2, rfl, hro, hn2, hrange, hr2, hg2⟩
  have bw2 := below_only hb1 hg2 (fun b hb => by injection hb with hb; omega)
  have hz1 := hb1.size
  have hz2 := hg2.size
  have hgl := hr2.lt
  clear hr
  go_wp2_with fail
  refine (specFramesOf_any A2 _ c2 rows _ rfl (hro.tab rfl) (by omega) (fun r hr => by have := (hrange r hr).1; omega)).mono ?_
  rintro e w3 ⟨A3, c3, rfl, ho3, hb3⟩
  have hr3 := hr2.below hb3
  have hF : (framesL (rows.map (·.zs))).length ≤ 738 := framesL_len (by rw [List.length_map]; omega)
  have hwf := framesL_bd (bs := rows.map (·.zs))
  generalize framesL (rows.map (·.zs)) = F at ho3 hF hwf ⊢
  obtain ⟨m, hm⟩ : ∃ m, F.length = m := ⟨_, rfl⟩
  have HM := Lib.hid hm
  rw [hm] at ho3 hF ⊢
  clear hm
  have bw3 := below_step bw2 hb3
  go_wp2_with fail
  refine (l91Damage_any g _ A3 m c3 w2.heap.size F _ hr3 (by omega) HM.out (by omega) ho3 hgl hb3.size hwf).mono ?_
  rintro e w4 ⟨l4, A4, c4, rfl, at4, h4c, h4m, h4l, h4w, hb4⟩
  go_wp2_with fail
  go_ret
  exact ⟨l4, A4, c4, rfl, at4, h4c, h4m, h4l, h4w, bw3.trans (hb4.mono hg)⟩
end Go.Proofs.Ytnlgpjloedoebaa
