/- The laws' helpers on lists of texts: comparison, marks. -/
import Derived.Test.YtehdoambbeddpaaDoorMarkT
import Derived.Test.YtehdoambbeddpaaDoorPath
import Derived.BigQuiet
import Derived.Deep.QuietTactic
namespace Go.Proofs.YtehdoambbeddpaaDoor
open Go.RowKit
set_option linter.unusedVariables false
set_option linter.unusedSimpArgs false
set_option maxRecDepth 20000

set_option maxHeartbeats 2000000 in
theorem eqStringS_same (A : Option Addr) (n c : Nat) (B : Option Addr) (m : Nat) (l : List ByteArray) (w : World) (hn : n ≤ 140737488355328) (hl : l.length = n) (ha : At encS 1 w A l) (hb : At encS 1 w B l) :
    Calls Tryd.prog 23 #[.slice A n c, .slice B n m] w fun e w' => e = .returned (.bool true) ∧ Below w.heap.size w w' := by
  obtain ⟨i0, hi, hz0, hz1, hz2⟩ := info_parts infoStr
  have HL := Lib.hid hl
  clear hl
  go_enter Tryd.func23, Tryd.ntmps23
  go_wp2_with fail
  go_loopw [5] (fun i wr => ∃ k : Nat, i = .int .i64 k ∧ k ≤ n ∧ Below w.heap.size w wr) (fun i _ => n - (intOf i).toNat)
  case atStart => exact ⟨0, rfl, Nat.zero_le _, Below.refl _ _⟩
  case round =>
    obtain ⟨k, rfl, hk, hbw⟩ := hrel
    by_cases hlt : k < n
    · have hlk : k < l.length := by rw [HL.out]; exact hlt
      have hidx := fun W => run_index_one (c := c) Tryd.underlying35 hi hz1 (ha.addr (by rw [HL.out]; omega)) hlt W
      have hidx2 := fun W => run_index_one (c := m) Tryd.underlying35 hi hz1 (hb.addr (by rw [HL.out]; omega)) hlt W
      obtain ⟨q, hq⟩ : ∃ q, l[k] = q := ⟨_, rfl⟩
      have c0 := (ha.belowS hbw).cell1 hlk (u := .string q) (by rw [hq]; rfl)
      have d0 := (hb.belowS hbw).cell1 hlk (u := .string q) (by rw [hq]; rfl)
      clear hq
      go_wp2_with fail
      go_quiet (fail)
      go_wp2_with fail
      go_roundw
      case rel => exact ⟨k + 1, by go_num, by omega, below_drawn hbw _⟩
      case measure => simp [intOf]; omega
    · obtain rfl : n = k := by omega
      go_wp2_with fail
      go_ret
      exact ⟨rfl, hbw⟩

def marksS (k n : Nat) : List ByteArray := (List.range n).map fun i => mtB (k + i)
theorem marksS_len (k n : Nat) : (marksS k n).length = n := by simp [marksS]
theorem marksS_get (k n i : Nat) (h : i < (marksS k n).length) : (marksS k n)[i] = mtB (k + i) := by simp [marksS]

set_option maxHeartbeats 2000000 in
theorem markStringS_any (A : Option Addr) (n c k : Nat) (cs : List Value) (w : World) (base : Nat) (hn : n ≤ 1100000) (hk : 1 ≤ k) (hk2 : k ≤ 10000000) (ho : w.ownsRow base 9 1 (.slice A n c) n cs) (hb : base ≤ w.heap.size) :
    Calls Tryd.prog 25 #[.slice A n c, .int .i64 k] w fun e w' => e = .returned (.int .i64 ((k + n : Nat) : Int)) ∧ w'.ownsRow base 9 1 (.slice A n c) n ((marksS k n).flatMap encS) ∧ w.grownBy w' (rowOf A n) := by
  obtain ⟨i0, hi, hz0, hz1, hz2⟩ := info_parts infoStr
  obtain ⟨A', c', hv, hc1, hc2, hA⟩ := own_form ho
  injection hv with hv1 _ hv2
  subst hv1
  subst hv2
  have HH := Lib.hid hA
  clear hA
  go_enter Tryd.func25, Tryd.ntmps25
  go_wp2_with fail
  go_loopw [1, 5] (fun q i wr => ∃ j : Nat, i = .int .i64 j ∧ q = .int .i64 ((k + j : Nat) : Int) ∧ j ≤ n ∧ ∃ cs, Hid (Part encS 1 (marksS k n) j cs) ∧ wr.ownsRow base 9 1 (.slice A n c) n cs ∧ Hid (w.grownBy wr (rowOf A n))) (fun _ i _ => n - (intOf i).toNat)
  case atStart => exact ⟨0, rfl, by rw [Nat.add_zero], Nat.zero_le _, _, Lib.hid (Part.zero (by rw [marksS_len]; exact ho.1)), ho, Lib.hid (World.grownBy.refl _ _)⟩
  case round =>
    clear ho
    obtain ⟨j, rfl, rfl, hj, cs, HP, ho, HG⟩ := hrel
    by_cases hlt : j < n
    · have HA := Lib.hid (HH.out (by omega)).1
      have hlk : j < (marksS k n).length := by rw [marksS_len]; exact hlt
      have hidx : ∀ W, (Instr.indexAt 35 (.slice A n c) (.int .i64 (j : Int))).run Tryd.prog W = .ok (.pointer (some ⟨blk A, j, none⟩)) W := fun W => by
        have := run_index_one (c := c) (n := n) Tryd.underlying35 hi hz1 (A := A) (by rw [HA.out]; rfl) hlt W
        have h0 : off A = 0 := by rw [HA.out]; rfl
        rw [h0, Nat.zero_add] at this
        exact this
      have HK5 := Lib.hid (show j < cs.length by rw [ho.1]; omega)
      obtain ⟨K, hK⟩ : ∃ K : Nat, k + j = K := ⟨_, rfl⟩
      have hK1 : 1 ≤ K := by omega
      have hK2 : K ≤ 20000000 := by omega
      have HKE := Lib.hid hK
      rw [hK]
      clear hK
      go_wp2_with fail
      refine (markText_any K _ hK1 (by omega)).mono ?_
      rintro e w2 ⟨rfl, hb2⟩
      have ho2 := own_belowS ho hb2
      rw [HA.out] at ho2
      obtain ⟨v0, d0⟩ : ∃ v, w2.cell? ⟨blk A, j, none⟩ = some v := ⟨cs[j]'HK5.out, by rw [ho2.cellAt j (by omega)]; exact List.getElem?_eq_getElem _⟩
      have f0 := ho2.frozenAt j
      have s0 := (ho2.stored j (.string (mtB K))).1
      have HS0 := Lib.hid s0
      have HB2 := Lib.hid hb2
      clear ho s0 ho2
      go_wp2_with fail
      go_roundw
      case rel =>
        refine ⟨j + 1, by go_num, ?_, by omega, _, Lib.hid (HP.out.set1 encS_len hlk (by rw [marksS_get]; rfl)), ?_, Lib.hid ?_⟩
        · have := HKE.out
          show _ = Value.int .i64 ((k + (j + 1) : Nat) : Int)
          congr 1
          first | omega | (rw [IntWalk.i64_in _ (by omega)]; omega)
        · have e := HS0.out
          rw [← HKE.out] at e ⊢
          rw [HA.out]
          exact e
        · have hg2 := grown_two HG.out (only_of_below HB2.out (rowOf A n))
          rw [rowOf_pos (by omega)] at hg2 ⊢
          exact only_setCell (p := ⟨blk A, _, none⟩) hg2 (.inl rfl) _
      case measure => simp [intOf]; omega
    · obtain rfl : n = j := by omega
      have hall := Part.all (l := marksS k n) (by rw [marksS_len]; exact HP.out)
      subst hall
      go_wp2_with fail
      go_ret
      exact ⟨rfl, ho, HG.out⟩

set_option maxHeartbeats 2000000 in
theorem heldStringS_any (A : Option Addr) (n c k : Nat) (w : World) (hn : n ≤ 1100000) (hk : 1 ≤ k) (hk2 : k ≤ 10000000) (ha : At encS 1 w A (marksS k n)) :
    Calls Tryd.prog 26 #[.slice A n c, .int .i64 k] w fun e w' => e = .returned (.int .i64 ((k + n : Nat) : Int)) ∧ Below w.heap.size w w' := by
  obtain ⟨i0, hi, hz0, hz1, hz2⟩ := info_parts infoStr
  go_enter Tryd.func26, Tryd.ntmps26
  go_wp2_with fail
  go_loopw [1, 5] (fun q i wr => ∃ j : Nat, i = .int .i64 j ∧ q = .int .i64 ((k + j : Nat) : Int) ∧ j ≤ n ∧ Below w.heap.size w wr) (fun _ i _ => n - (intOf i).toNat)
  case atStart => exact ⟨0, rfl, by rw [Nat.add_zero], Nat.zero_le _, Below.refl _ _⟩
  case round =>
    obtain ⟨j, rfl, rfl, hj, hbw⟩ := hrel
    by_cases hlt : j < n
    · have hlk : j < (marksS k n).length := by rw [marksS_len]; exact hlt
      have hidx := fun W => run_index_one (c := c) Tryd.underlying35 hi hz1 (ha.addr (by rw [marksS_len]; omega)) hlt W
      obtain ⟨K, hK⟩ : ∃ K : Nat, k + j = K := ⟨_, rfl⟩
      have hK1 : 1 ≤ K := by omega
      have hK2 : K ≤ 20000000 := by omega
      have HKE := Lib.hid hK
      have c0 := (ha.belowS hbw).cell1 hlk (u := .string (mtB K)) (by rw [marksS_get, hK]; rfl)
      have c0' : wr.drew.cell? ⟨blk A, off A + j, none⟩ = some (.string (mtB K)) := c0
      rw [hK]
      clear hK
      go_wp2_with fail
      go_region_with (go_at_call 61; refine (markText_any K _ hK1 (by omega)).mono ?_; rintro e w2 ⟨rfl, hb2⟩; have d0 := cell_later hb2 c0')
      all_goals
        have bw2 := below_step hbw.drew hb2
        clear c0 c0'
        go_wp2_with fail
        go_roundw
        case rel =>
          refine ⟨j + 1, by go_num, ?_, by omega, bw2⟩
          have := HKE.out
          show _ = Value.int .i64 ((k + (j + 1) : Nat) : Int)
          congr 1
          first | omega | (rw [IntWalk.i64_in _ (by omega)]; omega)
        case measure => simp [intOf]; omega
    · obtain rfl : n = j := by omega
      go_wp2_with fail
      go_ret
      exact ⟨rfl, hbw⟩
end Go.Proofs.YtehdoambbeddpaaDoor
