/- Paths, by both texts. -/
import Derived.Test.YthcfjiapmigjiaaDoorProg
import Derived.Test.YthcfjiapmigjiaaDoorBase
import Derived.Test.YthcfjiapmigjiaaDoorStr
import Derived.Test.YthcfjiapmigjiaaDoorAppend
import Derived.Lib.Strings
import Derived.Lib.CutLaws
import Derived.KernelRfl
namespace Go.Proofs.YthcfjiapmigjiaaDoor
open Go.RowKit
set_option linter.unusedVariables false
set_option linter.unusedSimpArgs false
set_option maxRecDepth 20000

theorem name_size {s : ByteArray} (h : nameB s.data.toList = true) : s.size = 1 := by
  unfold nameB at h
  split at h
  · rename_i c hc
    have : s.data.toList.length = 1 := by rw [hc]; rfl
    rw [Lib.size_eq]; exact this
  · cases h
theorem one_get {s : ByteArray} (h : s.size = 1) : s.data.toList = [s[0]] := by
  have hl : s.data.toList.length = 1 := by rw [← Lib.size_eq]; exact h
  cases hs : s.data.toList with
  | nil => rw [hs] at hl; simp at hl
  | cons a t =>
    rw [hs] at hl
    have : t = [] := List.eq_nil_of_length_eq_zero (by simpa using hl)
    subst this
    have : s[0] = s.data.toList[0]'(by rw [hs]; simp) := rfl
    rw [this]
    simp [hs]
theorem name_of {s : ByteArray} (h : s.size = 1) : nameB s.data.toList = decide (97 ≤ (s[0].toNat : Int) ∧ (s[0].toNat : Int) ≤ 100) := by
  rw [one_get h]; unfold nameB; rw [Bool.eq_iff_iff]; simp; omega
theorem name_no {s : ByteArray} (h : ¬ (s.size : Int) = 1) : false = nameB s.data.toList := by
  cases hn : nameB s.data.toList with
  | false => rfl
  | true => exact absurd (name_size hn) (by omega)

theorem specName_any (s : ByteArray) (w : World) : Calls Tryd.prog 89 #[.string s] w fun e w' => e = .returned (.bool (nameB s.data.toList)) ∧ w = w' := by
  go_enter Tryd.func89, Tryd.ntmps89
  go_wp2_with fail
  · go_ret
    refine ⟨ret_bool ?_, rfl⟩
    rw [name_of (by omega), Bool.eq_iff_iff]; simp; omega
  · go_ret
    refine ⟨ret_bool ?_, rfl⟩
    rw [name_of (by omega)]; symm; rw [decide_eq_false_iff_not]; omega
  · go_ret
    exact ⟨ret_bool (name_no (by assumption)), rfl⟩
theorem implName_any (s : ByteArray) (w : World) : Calls Tryd.prog 71 #[.string s] w fun e w' => e = .returned (.bool (nameB s.data.toList)) ∧ w = w' := by
  go_enter Tryd.func71, Tryd.ntmps71
  go_wp2_with fail
  · go_ret
    refine ⟨ret_bool ?_, rfl⟩
    rw [name_of (by omega), Bool.eq_iff_iff]; simp; omega
  · go_ret
    refine ⟨ret_bool ?_, rfl⟩
    rw [name_of (by omega)]; symm; rw [decide_eq_false_iff_not]; omega
  · go_ret
    exact ⟨ret_bool (name_no (by assumption)), rfl⟩

theorem infoStr : (Tryd.prog.info? 9).map (fun i => (i.zero, i.size, i.bytes)) = some (some (.string ByteArray.empty), 1, 16) := by kernel_rfl
theorem encS_len (s : ByteArray) : (encS s).length = 1 := rfl
theorem encS_one (s : ByteArray) : ∀ u ∈ encS s, u.oneCell' = true := by intro u hu; simp [encS] at hu; subst hu; rfl

/-- A slice of texts of the call's own that are these. -/
def Pieces (ls : List (List UInt8)) (w : World) (e : Ending) (w' : World) : Prop :=
  ∃ (ps : List ByteArray) (A : Option Addr) (c : Nat), e = .returned (.slice A ps.length c) ∧ ps.map (·.data.toList) = ls ∧ w'.ownsRow w.heap.size 9 1 (.slice A ps.length c) ps.length (ps.flatMap encS) ∧ Below w.heap.size w w'
theorem Pieces.of {ls : List (List UInt8)} {w w' : World} {v : Value} {ps : List ByteArray} {n : Nat} (hn : ps.length = n) (hm : ps.map (·.data.toList) = ls) (h : w'.ownsRow w.heap.size 9 1 v n (ps.flatMap encS)) (hb : Below w.heap.size w w') : Pieces ls w (.returned v) w' := by
  subst hn
  obtain ⟨A, c, rfl, _⟩ := own_form h
  exact ⟨ps, A, c, rfl, hm, h, hb⟩
theorem byte_at {s : ByteArray} {k : Nat} (h : k < s.size) : s.data.toList[k]? = some s[k] := by
  have hl : k < s.data.toList.length := by rw [← Lib.size_eq]; exact h
  rw [List.getElem?_eq_getElem hl]; rfl
theorem byte_eq {s : ByteArray} {k : Nat} (h : k < s.size) (c : UInt8) : s[k] = c ↔ ((s[k].toNat : Int) == (c.toNat : Int)) = true := by
  rw [beq_iff_eq]
  exact ⟨fun h => by rw [h], fun h => UInt8.toNat_inj.1 (by omega)⟩
theorem drop_take_one (l : List UInt8) (k : Nat) (hk : 1 ≤ k) (h : k < l.length) : (l.take (k + 1)).drop 1 = (l.take k).drop 1 ++ [l[k]] := by
  rw [take_snoc' l k h, List.drop_append_of_le_length (by rw [List.length_take]; omega)]

set_option maxHeartbeats 1000000 in
theorem specNames_any (s : ByteArray) (w : World) (hs : s.size ≤ 1048576) (h0 : 0 < s.size) :
    Calls Tryd.prog 88 #[.string s] w (Pieces (splitC 47 (s.data.toList.drop 1)) w) := by
  obtain ⟨i0, hi, hz0, hz1, hz2⟩ := info_parts infoStr
  go_enter Tryd.func88, Tryd.ntmps88
  go_wp2_with fail
  go_loopw [3, 4, 5] (fun v f i wr => ∃ (k g : Nat) (ps : List ByteArray), i = .int .i64 k ∧ f = .int .i64 g ∧ 1 ≤ g ∧ g ≤ k ∧ k ≤ s.size ∧ ps.length ≤ k ∧ splitC 47 ((s.data.toList.take k).drop 1) = ps.map (·.data.toList) ++ [(s.data.toList.take k).drop g] ∧ wr.ownsRow w.heap.size 9 1 v ps.length (ps.flatMap encS) ∧ Below w.heap.size w wr) (fun _ _ i _ => s.size - (intOf i).toNat)
  case atStart =>
    refine ⟨1, 1, [], rfl, rfl, Nat.le_refl _, Nat.le_refl _, h0, Nat.zero_le _, ?_, World.ownsRow_lit (base := w.heap.size) (e := 9) (size := 1) w #[] 0 (Nat.le_refl _) (by decide) rfl, (Below.refl _ _).alloc (Nat.le_refl _) _⟩
    have e : (s.data.toList.take 1).drop 1 = [] := List.drop_of_length_le (by rw [List.length_take]; omega)
    rw [e]; rfl
  case round =>
    obtain ⟨k, g, ps, rfl, rfl, hg1, hgk, hk, hpk, hsp, ho, hbw⟩ := hrel
    have HSP := Lib.hid hsp
    clear hsp
    have hext : ∀ m, (s.extract g m).data.toList = (s.data.toList.take m).drop g := fun m => by rw [Lib.extract_data, List.drop_take]
    have HEX := Lib.hid hext
    clear hext
    have hzw := hbw.size
    have ho2 := ho.alloc (.cells #[.string (s.extract g k)] 9)
    have hn2 := at_new (enc := encS) wr encS_len [s.extract g k] 9 #[.string (s.extract g k)] rfl (show 1 ≤ maxLen by decide)
    by_cases hlt : k < s.size
    · have hlk : k < s.data.toList.length := by rw [← Lib.size_eq]; exact hlt
      have HD := Lib.hid (drop_take_one s.data.toList k (by omega) hlk)
      have hce : s.data.toList[k] = s[k] := rfl
      have HCE := Lib.hid hce
      clear hce
      by_cases hc : s[k] = 47
      · have hcb : ((s[k].toNat : Int) == 47) = true := (byte_eq hlt 47).1 hc
        have HC := Lib.hid hc
        clear hc
        go_wp2_with (at_builtin; refine wpList_append_at _ rfl _ _ 47 rfl w.heap.size 9 i0 (.string ByteArray.empty) 1 16 Tryd.underlying47 hi hz0 hz1 hz2 rfl (by decide) _ ps.length _ rfl ho2 encS_len encS_one _ 1 1 [s.extract g k] rfl rfl hn2 (by unfold maxLen; omega) (by omega) (by simp; omega) ?_; intro v3 w3 ho3 hg3 hv3)
        go_roundw
        case rel =>
          refine ⟨k + 1, k + 1, ps ++ [s.extract g k], by go_num, by go_num, by omega, Nat.le_refl _, by omega, by simp; omega, ?_, by rw [List.length_append, List.flatMap_append]; exact ho3, below_app (below_alloc hbw _) hg3 (own_ge ho)⟩
          rw [HD.out, splitC_snoc _ _ _ _ _ HSP.out, if_pos (HCE.out.trans HC.out), show (s.data.toList.take (k + 1)).drop (k + 1) = [] from List.drop_of_length_le (by rw [List.length_take]; omega)]
          rw [List.map_append, List.append_assoc, List.map_cons, List.map_nil, HEX.out k]; rfl
        case measure => simp [intOf]; omega
      · have hcb : ((s[k].toNat : Int) == 47) = false := by
          cases h : ((s[k].toNat : Int) == 47) with
          | false => rfl
          | true => exact absurd ((byte_eq hlt 47).2 h) hc
        have HC := Lib.hid hc
        clear hc
        go_wp2_with fail
        go_roundw
        case rel =>
          refine ⟨k + 1, g, ps, by go_num, rfl, by omega, by omega, by omega, by omega, ?_, ho, hbw⟩
          rw [HD.out, splitC_snoc _ _ _ _ _ HSP.out, if_neg (by rw [HCE.out]; exact HC.out), take_snoc' _ k hlk, List.drop_append_of_le_length (by rw [List.length_take]; omega)]
        case measure => simp [intOf]; omega
    · obtain rfl : s.size = k := by omega
      go_wp2_with (at_builtin; refine wpList_append_at _ rfl _ _ 47 rfl w.heap.size 9 i0 (.string ByteArray.empty) 1 16 Tryd.underlying47 hi hz0 hz1 hz2 rfl (by decide) _ ps.length _ rfl ho2 encS_len encS_one _ 1 1 [s.extract g s.size] rfl rfl hn2 (by unfold maxLen; omega) (by omega) (by simp; omega) ?_; intro v3 w3 ho3 hg3 hv3)
      go_ret
      refine Pieces.of (ps := ps ++ [s.extract g s.size]) (n := ps.length + 1) (by simp) ?_ (by rw [List.flatMap_append]; exact ho3) (below_app (below_alloc hbw _) hg3 (own_ge ho))
      have hall : s.data.toList.take s.size = s.data.toList := List.take_of_length_le (by rw [← Lib.size_eq]; exact Nat.le_refl _)
      have := HSP.out
      rw [hall] at this
      rw [this, List.map_append, List.map_cons, List.map_nil, HEX.out, hall]
end Go.Proofs.YthcfjiapmigjiaaDoor
