/- The laws' marks on lists of nodes. -/
import Derived.Test.YthcfjiapmigjiaaDoorNodS
import Derived.Test.YthcfjiapmigjiaaDoorMarkT
namespace Go.Proofs.YthcfjiapmigjiaaDoor
open Go.RowKit
set_option linter.unusedVariables false
set_option linter.unusedSimpArgs false
set_option maxRecDepth 20000

def markM (k i : Nat) : Nod := ⟨mtB (k + 3 * i), ((k + 3 * i : Nat) : Int) + 1, ((k + 3 * i : Nat) : Int) + 2⟩
def marksN (k n : Nat) : List Nod := (List.range n).map (markM k)
theorem marksN_len (k n : Nat) : (marksN k n).length = n := by simp [marksN]
theorem marksN_get (k n i : Nat) (h : i < (marksN k n).length) : (marksN k n)[i] = markM k i := by simp [marksN]

set_option maxHeartbeats 2000000 in
theorem markNodeS_any (A : Option Addr) (n c k : Nat) (cs : List Value) (w : World) (base : Nat) (hn : n ≤ 1100000) (hk : 1 ≤ k) (hk2 : k ≤ 10000000) (ho : w.ownsRow base 55 3 (.slice A n c) n cs) (hb : base ≤ w.heap.size) :
    Calls Tryd.prog 12 #[.slice A n c, .int .i64 k] w fun e w' => e = .returned (.int .i64 ((k + 3 * n : Nat) : Int)) ∧ w'.ownsRow base 55 3 (.slice A n c) n ((marksN k n).flatMap encN) ∧ w.grownBy w' (rowOf A n) := by
  obtain ⟨i0, hi, hz0, hz1, hz2⟩ := info_parts infoN
  obtain ⟨A', c', hv, hc1, hc2, hA⟩ := own_form ho
  injection hv with hv1 _ hv2
  subst hv1
  subst hv2
  have HH := Lib.hid hA
  clear hA
  go_enter Tryd.func12, Tryd.ntmps12
  go_wp2_with fail
  go_loopw [1, 5] (fun q i wr => ∃ j : Nat, i = .int .i64 j ∧ q = .int .i64 ((k + 3 * j : Nat) : Int) ∧ j ≤ n ∧ ∃ cs, Hid (Part encN 3 (marksN k n) j cs) ∧ wr.ownsRow base 55 3 (.slice A n c) n cs ∧ Hid (w.grownBy wr (rowOf A n))) (fun _ i _ => n - (intOf i).toNat)
  case atStart => exact ⟨0, rfl, by rw [Nat.mul_zero, Nat.add_zero], Nat.zero_le _, _, Lib.hid (Part.zero (by rw [marksN_len]; exact ho.1)), ho, Lib.hid (World.grownBy.refl _ _)⟩
  case round =>
    clear ho
    obtain ⟨j, rfl, rfl, hj, cs, HP, ho, HG⟩ := hrel
    by_cases hlt : j < n
    · have HA := Lib.hid (HH.out (by omega)).1
      have hlk : j < (marksN k n).length := by rw [marksN_len]; exact hlt
      have hidx : ∀ W, (Instr.indexAt 27 (.slice A n c) (.int .i64 (j : Int))).run Tryd.prog W = .ok (.pointer (some ⟨blk A, j * 3, none⟩)) W := fun W => by
        have := run_index_any (c := c) (n := n) Tryd.underlying27 hi hz1 (A := A) (by rw [HA.out]; rfl) hlt W
        have h0 : off A = 0 := by rw [HA.out]; rfl
        rw [h0, Nat.zero_add] at this
        exact this
      have hlen : cs.length = n * 3 := ho.1
      have HK5 := Lib.hid (show j * 3 + 3 ≤ cs.length by rw [hlen]; omega)
      clear hlen
      obtain ⟨K, hK⟩ : ∃ K : Nat, k + 3 * j = K := ⟨_, rfl⟩
      have hK1 : 1 ≤ K := by omega
      have hK2 : K ≤ 20000000 := by omega
      have HKE := Lib.hid hK
      rw [hK]
      clear hK
      go_wp2_with fail
      refine (markText_any K _ hK1 (by omega)).mono ?_
      rintro e w2 ⟨rfl, hb2⟩
      have ho2 := own_belowS ho hb2
      rw [HA.out] at ho2
      have cellOf : ∀ r, r < 3 → ∃ v, w2.cell? ⟨blk A, j * 3 + r, none⟩ = some v := fun r hr => ⟨cs[j * 3 + r]'(by have := HK5.out; omega), by rw [ho2.cellAt (j * 3 + r) (by have := HK5.out; omega)]; exact List.getElem?_eq_getElem _⟩
      obtain ⟨v0, d0⟩ := cellOf 0 (by omega)
      obtain ⟨v1, d1⟩ := cellOf 1 (by omega)
      obtain ⟨v2, d2⟩ := cellOf 2 (by omega)
      rw [Nat.add_zero] at d0
      have f0 := ho2.frozenAt (j * 3)
      have f1 := ho2.frozenAt (j * 3 + 1)
      have f2 := ho2.frozenAt (j * 3 + 2)
      have s0 := (ho2.stored (j * 3) (.string (mtB K))).1
      have s1 := (s0.stored (j * 3 + 1) (.int .i64 (K + 1))).1
      have s2 := (s1.stored (j * 3 + 2) (.int .i64 (K + 2))).1
      have HS4 := Lib.hid s2
      have HB2 := Lib.hid hb2
      clear ho cellOf s0 s1 s2 ho2
      go_wp2_with fail
      go_roundw
      case rel =>
        refine ⟨j + 1, by go_num, ?_, by omega, _, Lib.hid (HP.out.set3 hlk (q := markM k j) (marksN_get _ _ _ _)), ?_, Lib.hid ?_⟩
        · have := HKE.out
          show _ = Value.int .i64 ((k + 3 * (j + 1) : Nat) : Int)
          congr 1
          first | omega | (rw [IntWalk.i64_in _ (by omega)]; omega)
        · have e := HS4.out
          rw [← HKE.out] at e ⊢
          rw [HA.out]
          exact e
        · have hg2 := grown_two HG.out (only_of_below HB2.out (rowOf A n))
          rw [rowOf_pos (by omega)] at hg2 ⊢
          exact only_setCell (p := ⟨blk A, _, none⟩) (only_setCell (p := ⟨blk A, _, none⟩) (only_setCell (p := ⟨blk A, _, none⟩) hg2 (.inl rfl) _) (.inl rfl) _) (.inl rfl) _
      case measure => simp [intOf]; omega
    · obtain rfl : n = j := by omega
      have hall := Part.all (l := marksN k n) (by rw [marksN_len]; exact HP.out)
      subst hall
      go_wp2_with fail
      go_ret
      exact ⟨rfl, ho, HG.out⟩

end Go.Proofs.YthcfjiapmigjiaaDoor
