/- A text split at its blanks, by the reference. -/
import Derived.Test.YtokapkpebadcaaaDoorPath2
namespace Go.Proofs.YtokapkpebadcaaaDoor
open Go.RowKit
set_option linter.unusedVariables false
set_option linter.unusedSimpArgs false
set_option maxRecDepth 20000

set_option maxHeartbeats 1000000 in
theorem specWords_any (s : ByteArray) (w : World) (hs : s.size ≤ 1048576) :
    Calls Tryd.prog 64 #[.string s] w (Pieces (splitC 32 s.data.toList) w) := by
  obtain ⟨i0, hi, hz0, hz1, hz2⟩ := info_parts infoStr
  go_enter Tryd.func64, Tryd.ntmps64
  go_wp2_with fail
  go_loopw [3, 4, 5] (fun v f i wr => ∃ (k g : Nat) (ps : List ByteArray), i = .int .i64 k ∧ f = .int .i64 g ∧ g ≤ k ∧ k ≤ s.size ∧ ps.length ≤ k ∧ Hid (splitC 32 (s.data.toList.take k) = ps.map (·.data.toList) ++ [(s.data.toList.take k).drop g]) ∧ wr.ownsRow w.heap.size 9 1 v ps.length (ps.flatMap encS) ∧ Below w.heap.size w wr) (fun _ _ i _ => s.size - (intOf i).toNat)
  case atStart =>
    exact ⟨0, 0, [], rfl, rfl, Nat.le_refl _, Nat.zero_le _, Nat.zero_le _, Lib.hid rfl, World.ownsRow_lit (base := w.heap.size) (e := 9) (size := 1) w #[] 0 (Nat.le_refl _) (by decide) rfl, (Below.refl _ _).alloc (Nat.le_refl _) _⟩
  case round =>
    obtain ⟨k, g, ps, rfl, rfl, hgk, hk, hpk, HSP, ho, hbw⟩ := hrel
    have hext : ∀ m, (s.extract g m).data.toList = (s.data.toList.take m).drop g := fun m => by rw [Lib.extract_data, List.drop_take]
    have HEX := Lib.hid hext
    clear hext
    have hzw := hbw.size
    have ho2 := ho.alloc (.cells #[.string (s.extract g k)] 9)
    have hn2 := at_new (enc := encS) wr encS_len [s.extract g k] 9 #[.string (s.extract g k)] rfl (show 1 ≤ maxLen by decide)
    by_cases hlt : k < s.size
    · have hlk : k < s.data.toList.length := by rw [← Lib.size_eq]; exact hlt
      have HD := Lib.hid (take_snoc' s.data.toList k hlk)
      have hce : s.data.toList[k] = s[k] := rfl
      have HCE := Lib.hid hce
      clear hce
      by_cases hc : s[k] = 32
      · have hcb : ((s[k].toNat : Int) == 32) = true := (byte_eq hlt 32).1 hc
        have HC := Lib.hid hc
        clear hc
        go_wp2_with (at_builtin; refine wpList_append_at _ rfl _ _ 54 rfl w.heap.size 9 i0 (.string ByteArray.empty) 1 16 Tryd.underlying54 hi hz0 hz1 hz2 rfl (by decide) _ ps.length _ rfl ho2 encS_len encS_one _ 1 1 [s.extract g k] rfl rfl hn2 (by unfold maxLen; omega) (by omega) (by simp; omega) ?_; intro v3 w3 ho3 hg3 hv3)
        go_roundw
        case rel =>
          refine ⟨k + 1, k + 1, ps ++ [s.extract g k], by go_num, by go_num, Nat.le_refl _, by omega, by simp; omega, Lib.hid ?_, by rw [List.length_append, List.flatMap_append]; exact ho3, below_app (below_alloc hbw _) hg3 (own_ge ho)⟩
          rw [HD.out, splitC_snoc _ _ _ _ _ HSP.out, if_pos (HCE.out.trans HC.out), show (s.data.toList.take k ++ [s.data.toList[k]]).drop (k + 1) = [] from List.drop_of_length_le (by rw [List.length_append, List.length_take, List.length_singleton]; omega)]
          rw [List.map_append, List.append_assoc, List.map_cons, List.map_nil, HEX.out k]; rfl
        case measure => simp [intOf]; omega
      · have hcb : ((s[k].toNat : Int) == 32) = false := by
          cases h : ((s[k].toNat : Int) == 32) with
          | false => rfl
          | true => exact absurd ((byte_eq hlt 32).2 h) hc
        have HC := Lib.hid hc
        clear hc
        go_wp2_with fail
        go_roundw
        case rel =>
          refine ⟨k + 1, g, ps, by go_num, rfl, by omega, by omega, by omega, Lib.hid ?_, ho, hbw⟩
          rw [HD.out, splitC_snoc _ _ _ _ _ HSP.out, if_neg (by rw [HCE.out]; exact HC.out), List.drop_append_of_le_length (by rw [List.length_take]; omega)]
        case measure => simp [intOf]; omega
    · obtain rfl : s.size = k := by omega
      go_wp2_with (at_builtin; refine wpList_append_at _ rfl _ _ 54 rfl w.heap.size 9 i0 (.string ByteArray.empty) 1 16 Tryd.underlying54 hi hz0 hz1 hz2 rfl (by decide) _ ps.length _ rfl ho2 encS_len encS_one _ 1 1 [s.extract g s.size] rfl rfl hn2 (by unfold maxLen; omega) (by omega) (by simp; omega) ?_; intro v3 w3 ho3 hg3 hv3)
      go_ret
      refine Pieces.of (ps := ps ++ [s.extract g s.size]) (n := ps.length + 1) (by simp) ?_ (by rw [List.flatMap_append]; exact ho3) (below_app (below_alloc hbw _) hg3 (own_ge ho))
      have hall : s.data.toList.take s.size = s.data.toList := List.take_of_length_le (by rw [← Lib.size_eq]; exact Nat.le_refl _)
      have := HSP.out
      rw [hall] at this
      rw [this, List.map_append, List.map_cons, List.map_nil, HEX.out, hall]
end Go.Proofs.YtokapkpebadcaaaDoor
