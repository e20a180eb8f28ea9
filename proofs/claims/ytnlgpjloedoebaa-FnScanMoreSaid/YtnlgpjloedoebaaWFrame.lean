/- A frame is read: the plain law on scans of frames, and the walk of the law. -/
import Derived.Test.YtnlgpjloedoebaaWSum
import Derived.Test.YtnlgpjloedoebaaScan
namespace Go.Proofs.Ytnlgpjloedoebaa
open Go.RowKit
set_option linter.unusedVariables false
set_option linter.unusedSimpArgs false

theorem frameL_pos {l : List Int} (h : bodyB l = true) : frameL l = (l.length : Int) :: (l ++ [sumL l]) := if_pos h
theorem frameL_size {l : List Int} (h : bodyB l = true) : (frameL l).length = l.length + 2 := by rw [frameL_pos h]; simp
theorem headL_frame {l : List Int} (h : bodyB l = true) (r : List Int) : headL (frameL l ++ r) = some l := by
  have h1 := (bodyB_iff.1 h).1
  have e : frameL l ++ r = (l.length : Int) :: (l ++ (sumL l :: r)) := by rw [frameL_pos h]; simp
  rw [e, headL_cons]
  have ht : (l ++ (sumL l :: r)).take l.length = l := List.take_left ..
  simp only [Int.toNat_natCast, ht]
  rw [if_pos]
  refine ⟨?_, by simp, ?_, ?_⟩
  · unfold inB; rw [decide_eq_true_eq]; omega
  · unfold bodyB at h; rw [Bool.and_eq_true] at h; exact h.2
  · rw [List.getElem?_append_right (Nat.le_refl _), Nat.sub_self]; rfl
theorem scanGo_frames : ∀ (bs : List (List Int)) (hb : ∀ b ∈ bs, bodyB b = true) (r : List Int) (hr : headL r = none) (f : Nat), (bs.flatMap frameL ++ r).length < f → scanGo f (bs.flatMap frameL ++ r) = (bs, (bs.flatMap frameL).length)
  | [], _, r, hr, f + 1, _ => by simp [scanGo, hr]
  | b :: bs, hb, r, hr, f + 1, hf => by
    have h1 := hb b (List.mem_cons_self ..)
    have e : (b :: bs).flatMap frameL ++ r = frameL b ++ (bs.flatMap frameL ++ r) := by simp
    have hd : (frameL b ++ (bs.flatMap frameL ++ r)).drop (b.length + 2) = bs.flatMap frameL ++ r := by rw [← frameL_size h1]; exact List.drop_left ..
    have hs := frameL_size h1
    rw [e] at hf ⊢
    simp only [scanGo, headL_frame h1, hd]
    rw [scanGo_frames bs (fun x hx => hb x (List.mem_cons_of_mem _ hx)) r hr f (by simp at hf ⊢; omega)]
    simp [hs]
theorem scan_frames (bs : List (List Int)) (hb : ∀ b ∈ bs, bodyB b = true) (r : List Int) (hr : headL r = none) : scanL (bs.flatMap frameL ++ r) = (bs, (bs.flatMap frameL).length) := scanGo_frames bs hb r hr _ (Nat.lt_succ_self _)
theorem scan_frame {l : List Int} (h : bodyB l = true) : scanL (frameL l) = ([l], l.length + 2) := by
  have := scan_frames [l] (by simpa using h) [] rfl
  simpa [frameL_size h] using this
theorem frameL_bd {l : List Int} : ∀ z ∈ frameL l, -9223372036854775808 ≤ z ∧ z ≤ 9223372036854775807 := by
  intro z hz
  unfold frameL at hz
  by_cases h : bodyB l = true
  · rw [if_pos h] at hz
    obtain ⟨h1, h2⟩ := bodyB_iff.1 h
    have := sumL_bd l
    simp at hz
    rcases hz with rfl | hz | rfl
    · omega
    · have := h2 z hz; omega
    · omega
  · rw [if_neg h] at hz; simp at hz
theorem frameL_len18 (l : List Int) : (frameL l).length ≤ 18 := by
  by_cases h : bodyB l = true
  · have := (bodyB_iff.1 h).1; rw [frameL_size h]; omega
  · unfold frameL; rw [if_neg h]; simp

set_option maxHeartbeats 2000000 in
theorem walk_FnFrame (A0 : Option Addr) (n0 c0 : Nat) (l0 : List Int) (hl0 : l0.length = n0) (hnc0 : n0 ≤ c0) (hcm0 : c0 ≤ maxLen) (w : World)
    (ha0 : At encU 1 w A0 l0) (hw0 : ∀ u ∈ l0, (Lit.int .u8 u).wf = true) :
    Calls Try.prog 9 #[.slice A0 n0 c0] w fun e w' => e = .returned (.bool true) ∧ Below w.heap.size w w' := by
  have H0 := Lib.hid hl0
  clear hl0
  obtain ⟨i0, hi, hz0, hz1, hz2⟩ := info_parts infoInt
  obtain ⟨j0, ji, jz0, jz1, jz2⟩ := info_parts infoSl
  unfold maxLen at hcm0
  by_cases hb0 : 1048576 < n0
  · go_enter Try.func9, Try.ntmps9
    go_wp2
    go_ret
    exact ⟨rfl, Below.refl _ _⟩
  go_enter Try.func9, Try.ntmps9
  go_wp2_with fail
  refine (drawFrameOf_any A0 n0 c0 l0 _ H0.out hnc0 ha0 (u8_bd hw0) (by omega)).mono ?_
  rintro e w1 ⟨l, A, c, rfl, ho, hn, hrange, bw1⟩
  obtain ⟨n, hln⟩ : ∃ n, l.length = n := ⟨_, rfl⟩
  have HL := Lib.hid hln
  rw [hln] at ho hn ⊢
  clear hln
  have at1 := own_at encI_len ho HL.out
  have hF := frameL_len18 l
  obtain ⟨m, hm⟩ : ∃ m, (frameL l).length = m := ⟨_, rfl⟩
  have HM := Lib.hid hm
  rw [hm] at hF
  clear hm
  go_wp2_with fail
  refine (implFrameOf_any _ _ _ l _ (by omega) HL.out at1).mono ?_
  rintro e w2 ⟨A2, c2, rfl, ho2, hb2⟩
  rw [HM.out] at ho2 ⊢
  have bw2 := below_step bw1 hb2
  have at12 := at1.belowS hb2
  have at22 := own_at encI_len ho2 HM.out
  obtain ⟨hmc2, hcm2⟩ := own_caps ho2
  go_wp2_with fail
  refine (specFrameOf_any _ _ _ l _ (by omega) HL.out at12).mono ?_
  rintro e w3 ⟨A3, c3, rfl, ho3, hb3⟩
  rw [HM.out] at ho3 ⊢
  have bw3 := below_step bw2 hb3
  have at13 := at12.belowS hb3
  have at23 := at22.belowS hb3
  have at33 := own_at encI_len ho3 HM.out
  go_wp2_with fail
  refine (sameInts_any _ _ _ _ _ _ _ _ _ (by omega) HM.out HM.out at23 at33).mono ?_
  rintro e w' hs
  obtain ⟨rfl, q, rfl⟩ : e = .returned (.bool true) ∧ ∃ q, w' = w3.drewN q := ⟨hs.1.trans (by rw [decide_eq_true rfl]), hs.2⟩
  clear hs
  by_cases hk : bodyB l = true
  · have hm2 : m = n + 2 := by rw [← HM.out, frameL_size hk, HL.out]
    subst hm2
    have hm1 : (((n + 2 : Nat) : Int) == 0) = false := by simp; omega
    have hm1' : ((n : Int) + 2 == 0) = false := by simp; omega
    go_wp2_with fail
    refine (implScan_any _ (n + 2) _ (frameL l) _ HM.out hmc2 hcm2 (at23.drewN q) frameL_bd (by omega)).mono ?_
    rw [scan_frame hk, HL.out]
    rintro e w4 ⟨rows, A4, c4, rfl, hrows, hr4, hb4⟩
    have at14 := (at13.drewN q).belowS hb4
    have bw4 := below_step (below_drawn bw3 q) hb4
    rcases rows with _ | ⟨r, _ | ⟨r', t⟩⟩
    · simp at hrows
    · simp at hrows
      have hin := own_at encI_len (hr4.inner r (by simp)) rfl
      have hout := own_at encR_len hr4.outer rfl
      have hidx : ∀ W, (Instr.indexAt 39 (.slice A4 1 c4) (.int .i64 0)).run Try.prog W = .ok (.pointer (some ⟨blk A4, off A4, none⟩)) W := fun W => run_index_one (c := c4) (j := 0) Try.underlying39 ji jz1 (hout.addr (by simp)) (by omega) W
      have cz : w4.cell? ⟨blk A4, off A4, none⟩ = some (.slice r.A r.zs.length r.c) := hout.cell1 (j := 0) (by simp) rfl
      have HR := Lib.hid hrows
      rw [HR.out, HL.out] at cz
      rw [HR.out] at hin
      have hx1 : ((n : Int) + 2 == (n : Int) + 2) = true := by simp
      have bw5 := bw4
      clear hr4 hrows
      simp only [List.length_cons, List.length_nil]
      go_wp2_with fail
      refine (sameInts_any _ _ n n _ _ l l _ (by omega) HL.out HL.out hin at14).mono ?_
      rintro e w' hs
      obtain ⟨rfl, q', rfl⟩ : e = .returned (.bool true) ∧ ∃ q', w' = w4.drewN q' := ⟨hs.1.trans (by rw [decide_eq_true rfl]), hs.2⟩
      clear hs
      go_wp2
      go_ret
      exact ⟨rfl, below_drawn bw4 q'⟩
    · simp at hrows
  · have hm0 : m = 0 := by rw [← HM.out]; unfold frameL; rw [if_neg hk]; rfl
    subst hm0
    go_wp2_with fail
    refine (sameInts_any _ _ _ _ _ _ _ _ _ (by omega) HM.out HM.out (at23.drewN q) (at33.drewN q)).mono ?_
    rintro e w' hs
    obtain ⟨rfl, q', rfl⟩ : e = .returned (.bool true) ∧ ∃ q', w' = (w3.drewN q).drewN q' := ⟨hs.1.trans (by rw [decide_eq_true rfl]), hs.2⟩
    clear hs
    go_wp2
    go_ret
    exact ⟨rfl, below_drawn bw3 (q + q')⟩
end Go.Proofs.Ytnlgpjloedoebaa
