/- How many orders are possible, by both texts whole; the walk of the law. -/
import Derived.Test.YtmhmfdikncgdgaaDoorCountI
namespace Go.Proofs.YtmhmfdikncgdgaaDoor
open Go.RowKit
set_option linter.unusedVariables false
set_option linter.unusedSimpArgs false
set_option maxRecDepth 20000

def OnesP (l : List Cmd) : Prop := (OnceP l l.length ∧ okLog l = true) ∧ l.length ≤ 6
def CntR (l : List Cmd) (r : Int) : Prop := OnesP l ∧ r = (cntR l.length l : Nat) ∨ ¬ OnesP l ∧ r = -1
theorem CntR.same {l : List Cmd} {r s : Int} (h : CntR l r) (k : CntR l s) : r = s := by
  rcases h with ⟨h, rfl⟩ | ⟨h, rfl⟩ <;> rcases k with ⟨k, rfl⟩ | ⟨k, rfl⟩
  · rfl
  · exact absurd h k
  · exact absurd k h
  · rfl
def CntOf (l : List Cmd) (w : World) (e : Ending) (w' : World) : Prop := ∃ r : Int, e = .returned (.int .i64 r) ∧ CntR l r ∧ Below w.heap.size w w'
theorem made_false (n : Nat) : (madeCells (Value.bool false).cells (n * 1)).toList = (List.replicate n false).flatMap encB := by
  have h1 : (Value.bool false).cells = #[.bool false] := rfl
  rw [h1, Nat.mul_one]
  have e : ∀ n, (List.replicate n false).flatMap encB = List.replicate n (Value.bool false) := fun n => by
    induction n with
    | zero => rfl
    | succ n ih => rw [List.replicate_succ, List.flatMap_cons, ih]; rfl
  rw [e]
  refine List.ext_getElem (by simp [madeCells]) fun i h1 h2 => ?_
  simp [madeCells, Nat.mod_one]
theorem unused_none : ∀ (l : List Cmd) (n : Nat), l.length = n → unused l (List.replicate n false) = l
  | [], n, h => by
    subst h; rfl
  | c :: l, n, h => by
    subst h
    rw [List.length_cons, List.replicate_succ, unused, if_neg (by simp), unused_none l _ rfl]

set_option maxHeartbeats 2000000 in
theorem specOrders_any (A : Option Addr) (n c : Nat) (l : List Cmd) (w : World) (hn : n ≤ 1100000) (hl : l.length = n) (ha : At encK 5 w A l) (hz : ∀ q ∈ l, q.p.size ≤ 1048576) :
    Calls Tryd.prog 18 #[.slice A n c] w (CntOf l w) := by
  obtain ⟨j0, hj, hj0, hj1, hj2⟩ := info_parts infoB
  have HL := Lib.hid hl
  clear hl
  go_enter Tryd.func18, Tryd.ntmps18
  go_wp2_with fail
  refine (specOnce_any A n c l _ (by omega) HL.out ha hz).mono ?_
  rintro e w1 ⟨b, rfl, hb, hb1⟩
  have HB := Lib.hid hb
  clear hb
  cases b with
  | false =>
    have HN := Lib.hid (show ¬ OnesP l from fun h => by have h1 := h.1; rw [HL.out] at h1; have := HB.out.2 h1; cases this)
    go_wp2_with fail
    go_ret
    exact ⟨-1, rfl, .inr ⟨HN.out, rfl⟩, hb1⟩
  | true =>
    by_cases h6 : n ≤ 6
    · have HN := Lib.hid (show OnesP l from ⟨by have := HB.out.1 (by first | rfl | trivial); rw [← HL.out] at this; exact this, by rw [HL.out]; exact h6⟩)
      go_wp2_with (at_make; refine wpList_make_full _ rfl _ _ _ rfl w1.heap.size 4 j0 (.bool false) 1 Tryd.underlying59 hj hj0 hj1 _ _ _ _ n rfl rfl rfl rfl (by rw [hj2]; omega) (by unfold maxLen; omega) (Nat.le_refl _) ?_; intro w2 hown hgr)
      rw [made_false] at hown
      have bw2 := hb1.grown hgr hb1.size (fun k h => by cases h)
      have hat := own_at encB_len hown (by simp)
      have HLU := Lib.hid (unused_none l n HL.out)
      refine (specCount_any n A n c l _ n (List.replicate n false) _ hn HL.out (by simp) (ha.belowS bw2) hat hz h6 (by rw [HLU.out, HL.out])).mono ?_
      rw [HLU.out]
      rintro e w3 ⟨rfl, hb3⟩
      have bw3 := below_step bw2 hb3
      go_wp2_with fail
      go_ret
      exact ⟨_, rfl, .inl ⟨HN.out, by rw [HL.out]⟩, bw3⟩
    · have HN := Lib.hid (show ¬ OnesP l from fun h => h6 (by rw [← HL.out]; exact h.2))
      go_wp2_with fail
      go_ret
      exact ⟨-1, rfl, .inr ⟨HN.out, rfl⟩, hb1⟩

theorem okLog_all {l : List Cmd} (hk : okLog l = true) : ∀ q ∈ l, okCmd q = true := fun q hq => by
  unfold okLog at hk
  rw [Bool.and_eq_true, List.all_eq_true] at hk
  exact hk.1 q hq
set_option maxHeartbeats 2000000 in
theorem implOrdersCount_any (A : Option Addr) (n c : Nat) (l : List Cmd) (w : World) (hn : n ≤ 1100000) (hl : l.length = n) (hnc : n ≤ c) (hcm : c ≤ maxLen) (ha : At encK 5 w A l) (hz : ∀ q ∈ l, q.p.size ≤ 1048576) (hm : MaxAt w) :
    Calls Tryd.prog 19 #[.slice A n c] w (CntOf l w) := by
  have HL := Lib.hid hl
  have HM := Lib.hid hm
  clear hl hm
  obtain ⟨k, hk⟩ : ∃ k, okLog l = k := ⟨_, rfl⟩
  have HK := Lib.hid hk
  clear hk
  go_enter Tryd.func19, Tryd.ntmps19
  go_wp2_with fail
  refine (implLogValid_any A n c l _ (by omega) HL.out ha hz HM.out).mono ?_
  rw [HK.out]
  rintro e w1 ⟨rfl, hb1⟩
  cases k with
  | false =>
    have HN := Lib.hid (show ¬ OnesP l from fun h => by have := HK.out.symm.trans h.1.2; cases this)
    go_wp2_with fail
    go_ret
    exact ⟨-1, rfl, .inr ⟨HN.out, rfl⟩, hb1⟩
  | true =>
    go_wp2_with fail
    refine (implOnce_any A n c l _ (by omega) HL.out (ha.belowS hb1) hz).mono ?_
    rintro e w2 ⟨b, rfl, hb, hb2⟩
    have bw2 := below_step hb1 hb2
    have HB := Lib.hid hb
    clear hb
    cases b with
    | false =>
      have HN := Lib.hid (show ¬ OnesP l from fun h => by have h1 := h.1.1; rw [HL.out] at h1; have := HB.out.2 h1; cases this)
      go_wp2_with fail
      go_ret
      exact ⟨-1, rfl, .inr ⟨HN.out, rfl⟩, bw2⟩
    | true =>
      by_cases h6 : n ≤ 6
      · have HN := Lib.hid (show OnesP l from ⟨⟨by have := HB.out.1 (by first | rfl | trivial); rw [← HL.out] at this; exact this, HK.out⟩, by rw [HL.out]; exact h6⟩)
        have HO := Lib.hid (ord_nil HL.out)
        go_wp2_with fail
        refine (implOrders_any n none 0 0 [] A n c l _ (by omega) rfl HL.out hnc hcm (At.nil _) (ha.belowS bw2) (fun q hq => by cases hq) (okLog_all HK.out) h6 rfl (fun i hi => by simp at hi)).mono ?_
        rw [HO.out]
        rintro e w3 ⟨rfl, hb3⟩
        have bw3 := below_step bw2 hb3
        go_wp2_with fail
        go_ret
        exact ⟨_, rfl, .inl ⟨HN.out, by rw [HL.out]⟩, bw3⟩
      · have HN := Lib.hid (show ¬ OnesP l from fun h => h6 (by rw [← HL.out]; exact h.2))
        go_wp2_with fail
        go_ret
        exact ⟨-1, rfl, .inr ⟨HN.out, rfl⟩, bw2⟩

set_option maxHeartbeats 2000000 in
theorem walk_FnExactOrdersCount (A : Option Addr) (n c : Nat) (l : List Cmd) (hl : l.length = n) (hnc : n ≤ c) (hcm : c ≤ maxLen) (w : World) (ha : At encK 5 w A l) (hw : ∀ q ∈ l, q.wf) (hm : MaxAt w) :
    Calls Tryd.prog 6 #[.slice A n c] w fun e w' => e = .returned (.bool true) ∧ Below w.heap.size w w' := by
  have HM := Lib.hid hm
  have HL := Lib.hid hl
  clear hm
  go_enter Tryd.func6, Tryd.ntmps6
  go_wp2_with fail
  refine (szCommandS_any A n c l 1048576 _ hl (Nat.le_trans hnc hcm) ha hw (by omega) (by omega)).mono ?_
  rintro e w1 ⟨r, rfl, hr, hb1⟩
  rcases hr with hr | ⟨hr0, hrn, hrz⟩
  · have hd : decide (r < 0) = true := decide_eq_true hr
    clear hl
    go_wp2_with fail
    go_ret
    exact ⟨rfl, hb1⟩
  have hd : decide (r < 0) = false := decide_eq_false (by omega)
  have hn : n ≤ 1048576 := by omega
  have hz : ∀ q ∈ l, q.p.size ≤ 1048576 := fun q hq => by have := hrz q hq; omega
  have HM1 := Lib.hid (HM.out.belowS hb1)
  clear hrn hrz hl
  go_wp2_with fail
  refine (toCommandS_any A n c l _ (by omega) HL.out (ha.belowS hb1)).mono ?_
  rintro e w2 ⟨g1, rfl, ho1, hb2⟩
  have bw2 := below_step hb1 hb2
  have at1 := own_at encK_len ho1 HL.out
  have HM2 := Lib.hid (HM1.out.belowS hb2)
  clear ho1
  go_wp2_with fail
  refine (specOrders_any _ n n l _ (by omega) HL.out at1 hz).mono ?_
  rintro e w3 ⟨k, rfl, hR, hb3⟩
  have HR := Lib.hid hR
  have bw3 := below_step bw2 hb3
  have HM3 := Lib.hid (HM2.out.belowS hb3)
  clear at1 hR
  go_wp2_with fail
  refine (toCommandS_any A n c l _ (by omega) HL.out (ha.belowS bw3)).mono ?_
  rintro e w4 ⟨g2, rfl, ho2, hb4⟩
  have bw4 := below_step bw3 hb4
  have at2 := own_at encK_len ho2 HL.out
  have HM4 := Lib.hid (HM3.out.belowS hb4)
  clear ho2
  go_wp2_with fail
  refine (implOrdersCount_any _ n n l _ (by omega) HL.out (Nat.le_refl _) (by unfold maxLen; omega) at2 hz HM4.out).mono ?_
  rintro e w5 ⟨k', rfl, hR, hb5⟩
  obtain rfl : k' = k := hR.same HR.out
  have bw5 := below_step bw4 hb5
  have at3 := at2.belowS hb5
  have hkk : (k' != k') = false := by simp
  clear at2 hR
  go_wp2_with fail
  refine (toCommandS_any A n c l _ (by omega) HL.out (ha.belowS bw5)).mono ?_
  rintro e w6 ⟨g3, rfl, ho3, hb6⟩
  have bw6 := below_step bw5 hb6
  have at4 := own_at encK_len ho3 HL.out
  have at5' := at3.belowS hb6
  clear ho3 at3
  go_wp2_with fail
  refine (eqCommandS_same _ n n _ n l _ (by omega) HL.out at5' at4).mono ?_
  rintro e w7 ⟨rfl, hb7⟩
  have bw7 := below_step bw6 hb7
  go_wp2_with fail
  go_ret
  exact ⟨rfl, bw7⟩
end Go.Proofs.YtmhmfdikncgdgaaDoor
