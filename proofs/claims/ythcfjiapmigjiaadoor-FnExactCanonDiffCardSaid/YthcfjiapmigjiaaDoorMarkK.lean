/- The laws' marks on lists of commands. -/
import Derived.Test.YthcfjiapmigjiaaDoorCmdS
import Derived.Test.YthcfjiapmigjiaaDoorMarkT
namespace Go.Proofs.YthcfjiapmigjiaaDoor
open Go.RowKit
set_option linter.unusedVariables false
set_option linter.unusedSimpArgs false
set_option maxRecDepth 20000

def markC (k i : Nat) : Cmd := ⟨mtB (k + 5 * i), ((k + 5 * i : Nat) : Int) + 1, ((k + 5 * i : Nat) : Int) + 2, ((k + 5 * i : Nat) : Int) + 3, ((k + 5 * i : Nat) : Int) + 4⟩
def marksK (k n : Nat) : List Cmd := (List.range n).map (markC k)
theorem marksK_len (k n : Nat) : (marksK k n).length = n := by simp [marksK]
theorem marksK_get (k n i : Nat) (h : i < (marksK k n).length) : (marksK k n)[i] = markC k i := by simp [marksK]

set_option maxHeartbeats 2000000 in
theorem markCommandS_any (A : Option Addr) (n c k : Nat) (cs : List Value) (w : World) (base : Nat) (hn : n ≤ 1100000) (hk : 1 ≤ k) (hk2 : k ≤ 10000000) (ho : w.ownsRow base 52 5 (.slice A n c) n cs) (hb : base ≤ w.heap.size) :
    Calls Tryd.prog 13 #[.slice A n c, .int .i64 k] w fun e w' => e = .returned (.int .i64 ((k + 5 * n : Nat) : Int)) ∧ w'.ownsRow base 52 5 (.slice A n c) n ((marksK k n).flatMap encK) ∧ w.grownBy w' (rowOf A n) := by
  obtain ⟨i0, hi, hz0, hz1, hz2⟩ := info_parts infoK
  obtain ⟨A', c', hv, hc1, hc2, hA⟩ := own_form ho
  injection hv with hv1 _ hv2
  subst hv1
  subst hv2
  have HH := Lib.hid hA
  clear hA
  go_enter Tryd.func13, Tryd.ntmps13
  go_wp2_with fail
  go_loopw [1, 5] (fun q i wr => ∃ j : Nat, i = .int .i64 j ∧ q = .int .i64 ((k + 5 * j : Nat) : Int) ∧ j ≤ n ∧ ∃ cs, Hid (Part encK 5 (marksK k n) j cs) ∧ wr.ownsRow base 52 5 (.slice A n c) n cs ∧ Hid (w.grownBy wr (rowOf A n))) (fun _ i _ => n - (intOf i).toNat)
  case atStart => exact ⟨0, rfl, by rw [Nat.mul_zero, Nat.add_zero], Nat.zero_le _, _, Lib.hid (Part.zero (by rw [marksK_len]; exact ho.1)), ho, Lib.hid (World.grownBy.refl _ _)⟩
  case round =>
    clear ho
    obtain ⟨j, rfl, rfl, hj, cs, HP, ho, HG⟩ := hrel
    by_cases hlt : j < n
    · have HA := Lib.hid (HH.out (by omega)).1
      have hlk : j < (marksK k n).length := by rw [marksK_len]; exact hlt
      have hidx : ∀ W, (Instr.indexAt 24 (.slice A n c) (.int .i64 (j : Int))).run Tryd.prog W = .ok (.pointer (some ⟨blk A, j * 5, none⟩)) W := fun W => by
        have := run_index_any (c := c) (n := n) Tryd.underlying24 hi hz1 (A := A) (by rw [HA.out]; rfl) hlt W
        have h0 : off A = 0 := by rw [HA.out]; rfl
        rw [h0, Nat.zero_add] at this
        exact this
      have hlen : cs.length = n * 5 := ho.1
      have HK5 := Lib.hid (show j * 5 + 5 ≤ cs.length by rw [hlen]; omega)
      clear hlen
      obtain ⟨K, hK⟩ : ∃ K : Nat, k + 5 * j = K := ⟨_, rfl⟩
      have hK1 : 1 ≤ K := by omega
      have hK2 : K ≤ 20000000 := by omega
      have HKE := Lib.hid hK
      rw [hK]
      clear hK
      go_wp2_with fail
      refine (markText_any K _ hK1 (by omega)).mono ?_
      rintro e w2 ⟨rfl, hb2⟩
      have ho2 := own_belowS ho hb2
      rw [HA.out] at ho2
      have cellOf : ∀ r, r < 5 → ∃ v, w2.cell? ⟨blk A, j * 5 + r, none⟩ = some v := fun r hr => ⟨cs[j * 5 + r]'(by have := HK5.out; omega), by rw [ho2.cellAt (j * 5 + r) (by have := HK5.out; omega)]; exact List.getElem?_eq_getElem _⟩
      obtain ⟨v0, d0⟩ := cellOf 0 (by omega)
      obtain ⟨v1, d1⟩ := cellOf 1 (by omega)
      obtain ⟨v2, d2⟩ := cellOf 2 (by omega)
      obtain ⟨v3, d3⟩ := cellOf 3 (by omega)
      obtain ⟨v4, d4⟩ := cellOf 4 (by omega)
      rw [Nat.add_zero] at d0
      have f0 := ho2.frozenAt (j * 5)
      have f1 := ho2.frozenAt (j * 5 + 1)
      have f2 := ho2.frozenAt (j * 5 + 2)
      have f3 := ho2.frozenAt (j * 5 + 3)
      have f4 := ho2.frozenAt (j * 5 + 4)
      have s0 := (ho2.stored (j * 5) (.string (mtB K))).1
      have s1 := (s0.stored (j * 5 + 1) (.int .i64 (K + 1))).1
      have s2 := (s1.stored (j * 5 + 2) (.int .i64 (K + 2))).1
      have s3 := (s2.stored (j * 5 + 3) (.int .i64 (K + 3))).1
      have s4 := (s3.stored (j * 5 + 4) (.int .i64 (K + 4))).1
      have HS4 := Lib.hid s4
      have HB2 := Lib.hid hb2
      clear ho cellOf s0 s1 s2 s3 s4 ho2
      go_wp2_with fail
      go_roundw
      case rel =>
        refine ⟨j + 1, by go_num, ?_, by omega, _, Lib.hid (HP.out.set5 hlk (q := markC k j) (marksK_get _ _ _ _)), ?_, Lib.hid ?_⟩
        · have := HKE.out
          show _ = Value.int .i64 ((k + 5 * (j + 1) : Nat) : Int)
          congr 1
          first | omega | (rw [IntWalk.i64_in _ (by omega)]; omega)
        · have e := HS4.out
          rw [← HKE.out] at e ⊢
          rw [HA.out]
          exact e
        · have hg2 := grown_two HG.out (only_of_below HB2.out (rowOf A n))
          rw [rowOf_pos (by omega)] at hg2 ⊢
          exact only_setCell (p := ⟨blk A, _, none⟩) (only_setCell (p := ⟨blk A, _, none⟩) (only_setCell (p := ⟨blk A, _, none⟩) (only_setCell (p := ⟨blk A, _, none⟩) (only_setCell (p := ⟨blk A, _, none⟩) hg2 (.inl rfl) _) (.inl rfl) _) (.inl rfl) _) (.inl rfl) _) (.inl rfl) _
      case measure => simp [intOf]; omega
    · obtain rfl : n = j := by omega
      have hall := Part.all (l := marksK k n) (by rw [marksK_len]; exact HP.out)
      subst hall
      go_wp2_with fail
      go_ret
      exact ⟨rfl, ho, HG.out⟩

set_option maxHeartbeats 2000000 in
theorem heldCommandS_any (A : Option Addr) (n c k : Nat) (w : World) (hn : n ≤ 1100000) (hk : 1 ≤ k) (hk2 : k ≤ 10000000) (ha : At encK 5 w A (marksK k n)) :
    Calls Tryd.prog 14 #[.slice A n c, .int .i64 k] w fun e w' => e = .returned (.int .i64 ((k + 5 * n : Nat) : Int)) ∧ Below w.heap.size w w' := by
  obtain ⟨i0, hi, hz0, hz1, hz2⟩ := info_parts infoK
  go_enter Tryd.func14, Tryd.ntmps14
  go_wp2_with fail
  go_loopw [1, 5] (fun q i wr => ∃ j : Nat, i = .int .i64 j ∧ q = .int .i64 ((k + 5 * j : Nat) : Int) ∧ j ≤ n ∧ Below w.heap.size w wr) (fun _ i _ => n - (intOf i).toNat)
  case atStart => exact ⟨0, rfl, by rw [Nat.mul_zero, Nat.add_zero], Nat.zero_le _, Below.refl _ _⟩
  case round =>
    obtain ⟨j, rfl, rfl, hj, hbw⟩ := hrel
    by_cases hlt : j < n
    · have hlk : j < (marksK k n).length := by rw [marksK_len]; exact hlt
      have hidx := fun W => run_index_any (c := c) Tryd.underlying24 hi hz1 (ha.addr (by rw [marksK_len]; omega)) hlt W
      obtain ⟨K, hK⟩ : ∃ K : Nat, k + 5 * j = K := ⟨_, rfl⟩
      have hK1 : 1 ≤ K := by omega
      have hK2 : K ≤ 20000000 := by omega
      have HKE := Lib.hid hK
      have hm : (marksK k n)[j] = ⟨mtB K, (K : Int) + 1, (K : Int) + 2, (K : Int) + 3, (K : Int) + 4⟩ := by rw [marksK_get, markC, hK]
      obtain ⟨c0, c1, c2, c3, c4⟩ := at5 (ha.belowS hbw) hlk hm
      simp only at c0 c1 c2 c3 c4
      have ha1 := ha.belowS hbw
      have c0' : wr.drew.cell? ⟨blk A, off A + j * 5, none⟩ = some (.string (mtB K)) := c0
      rw [hK]
      clear hK
      go_wp2_with fail
      go_region_with (go_at_call 34; refine (markText_any K _ hK1 (by omega)).mono ?_; rintro e w2 ⟨rfl, hb2⟩; have d0 := cell_later hb2 c0')
      all_goals
        have bw2 := below_step hbw.drew hb2
        clear c0 c1 c2 c3 c4 c0'
        obtain ⟨c0, c1, c2, c3, c4⟩ := at5 (ha.belowS bw2) hlk hm
        simp only at c0 c1 c2 c3 c4
        clear hm
        go_wp2_with fail
        go_roundw
        case rel =>
          refine ⟨j + 1, by go_num, ?_, by omega, bw2⟩
          have := HKE.out
          show _ = Value.int .i64 ((k + 5 * (j + 1) : Nat) : Int)
          congr 1
          first | omega | (rw [IntWalk.i64_in _ (by omega)]; omega)
        case measure => simp [intOf]; omega
    · obtain rfl : n = j := by omega
      go_wp2_with fail
      go_ret
      exact ⟨rfl, hbw⟩
end Go.Proofs.YthcfjiapmigjiaaDoor
