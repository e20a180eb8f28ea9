/- The frames of bodies, by both texts. -/
import Derived.Test.YtnlgpjloedoebaaTables
namespace Go.Proofs.Ytnlgpjloedoebaa
open Go.RowKit
set_option linter.unusedVariables false
set_option linter.unusedSimpArgs false

def okT (bs : List (List Int)) : Bool := decide (bs.length ≤ 40) && bs.all bodyB
/-- The frames of bodies, one behind the other: none of what is refused. -/
def framesL (bs : List (List Int)) : List Int := if okT bs = true then bs.flatMap frameL else []

/-- A slice of the call's own, and a bool. -/
def Out2 {α : Type} (enc : α → List Value) (k : Nat) (e : TypeId) (l : List α) (b : Bool) (w : World) (en : Ending) (w' : World) : Prop :=
  ∃ A c, en = .returned (.tuple #[.slice A l.length c, .bool b]) ∧ w'.ownsRow w.heap.size e k (.slice A l.length c) l.length (l.flatMap enc) ∧ Below w.heap.size w w'
theorem Out2.of {α : Type} {enc : α → List Value} {k : Nat} {e : TypeId} {l : List α} {b : Bool} {w w' : World} {v : Value} {n : Nat} {cs : List Value} (hn : l.length = n) (hc : l.flatMap enc = cs) (h : w'.ownsRow w.heap.size e k v n cs) (hb : Below w.heap.size w w') : Out2 enc k e l b w (.returned (.tuple #[v, .bool b])) w' := by
  subst hn; subst hc
  obtain ⟨A, c, rfl, _⟩ := own_form h
  exact ⟨A, c, rfl, h, hb⟩

theorem frameL_len18' (l : List Int) : (frameL l).length ≤ 18 := by
  unfold frameL
  split
  · rename_i h
    have := (bodyB_iff.1 h).1
    simp; omega
  · simp
theorem flat_le : ∀ (bs : List (List Int)), (bs.flatMap frameL).length ≤ 18 * bs.length
  | [] => by simp
  | b :: bs => by
    have := flat_le bs
    have h2 := frameL_len18' b
    rw [List.flatMap_cons, List.length_append, List.length_cons]; omega

set_option maxHeartbeats 1000000 in
theorem implFramesOf_any (A : Option Addr) (n c : Nat) (rows : List RowI) (w : World) (hl : rows.length = n) (htab : TabAt w A rows) (hn : n ≤ 1048576) (hz : ∀ r ∈ rows, r.zs.length ≤ 1048576) :
    Calls Try.prog 35 #[.slice A n c] w (Out2 encI 1 3 (framesL (rows.map (·.zs))) (okT (rows.map (·.zs))) w) := by
  obtain ⟨i0, hi, hz0, hz1, hz2⟩ := info_parts infoInt
  obtain ⟨j0, ji, jz0, jz1, jz2⟩ := info_parts infoSl
  have HL := Lib.hid hl
  clear hl
  by_cases h40 : 40 < n
  · have hk : okT (rows.map (·.zs)) = false := by unfold okT; rw [Bool.and_eq_false_iff]; left; rw [decide_eq_false_iff_not, List.length_map, HL.out]; omega
    have HF := Lib.hid (show framesL (rows.map (·.zs)) = [] by unfold framesL; rw [hk]; rfl)
    have HK := Lib.hid hk
    clear hk
    go_enter Try.func35, Try.ntmps35
    go_wp2
    go_ret2
    rw [HK.out]
    exact Out2.of (n := 0) (by rw [HF.out]; rfl) (by rw [HF.out]; rfl) (World.ownsRow_nil _ _ _ _) (Below.refl _ _)
  go_enter Try.func35, Try.ntmps35
  go_wp2_with fail
  go_loopw [4, 12] (fun v i wr => ∃ k : Nat, i = .int .i64 k ∧ k ≤ n ∧ ((rows.map (·.zs)).take k).all bodyB = true ∧ wr.ownsRow w.heap.size 3 1 v ((((rows.map (·.zs)).take k).flatMap frameL).length) ((((rows.map (·.zs)).take k).flatMap frameL).flatMap encI) ∧ Below w.heap.size w wr) (fun _ i _ => n - (intOf i).toNat)
  case atStart => exact ⟨0, rfl, Nat.zero_le _, rfl, World.ownsRow_nil _ _ _ _, Below.refl _ _⟩
  case round =>
    obtain ⟨k, rfl, hk, hall, ho, hbw⟩ := hrel
    have HA := Lib.hid hall
    clear hall
    by_cases hlt : k < n
    · have hlk : k < rows.length := by rw [HL.out]; exact hlt
      have htw := htab.belowS hbw
      have hidx := fun W => run_index_one (c := c) Try.underlying39 ji jz1 (htw.outer.addr (by omega)) hlt W
      have c1 : wr.cell? ⟨blk A, off A + k, none⟩ = some (.slice rows[k].A rows[k].zs.length rows[k].c) := htw.outer.cell1 hlk rfl
      have hri := htw.inner rows[k] (List.getElem_mem _)
      have hzr := hz rows[k] (List.getElem_mem _)
      have HT := Lib.hid (show (rows.map (·.zs)).take (k + 1) = (rows.map (·.zs)).take k ++ [rows[k].zs] by rw [take_snoc' _ k (by simpa using hlk)]; simp)
      have HM := Lib.hid (show rows[k].zs ∈ rows.map (·.zs) from List.mem_map.2 ⟨rows[k], List.getElem_mem _, rfl⟩)
      have hle := flat_le ((rows.map (·.zs)).take k)
      have hlt' : ((rows.map (·.zs)).take k).length ≤ k := List.length_take_le _ _
      generalize rows[k] = r at c1 hri hzr HT HM
      clear hlk
      generalize hX : ((rows.map (·.zs)).take k).flatMap frameL = X at ho hle
      have HX := Lib.hid hX
      clear hX
      by_cases hb : bodyB r.zs = true
      · go_wp2_with fail
        refine (implBody_any _ _ _ r.zs _ (by omega) rfl hri).mono ?_
        rintro e w' ⟨rfl, rfl⟩
        go_wp2_with fail
        refine (implFrameOf_any _ _ _ r.zs _ (by omega) rfl hri).mono ?_
        rintro e w2 ⟨A2, c2, rfl, ho2, hb2⟩
        have hf18 := frameL_len18' r.zs
        obtain ⟨m, hm⟩ : ∃ m, (frameL r.zs).length = m := ⟨_, rfl⟩
        have HM2 := Lib.hid hm
        rw [hm] at ho2 hf18 ⊢
        clear hm
        have hz3 := hb2.size
        have hz4 := hbw.size
        have hoX := own_belowS ho hb2
        have at2 := own_at encI_len ho2 HM2.out
        go_wp2_with (at_builtin; refine wpList_append_at _ rfl _ _ 32 rfl w.heap.size 3 i0 (.int .i64 0) 1 8 Try.underlying32 hi hz0 hz1 hz2 rfl (by decide) _ X.length _ rfl hoX encI_len encI_one A2 m c2 (frameL r.zs) rfl HM2.out at2 (by unfold maxLen; omega) (by omega) (by omega) ?_; intro v3 w3 ho3 hg3 hv3)
        have HB := Lib.hid hb
        go_roundw
        case rel =>
          refine ⟨k + 1, by go_num, by omega, ?_, ?_, below_app (below_step hbw hb2) hg3 (own_ge ho)⟩
          · rw [HT.out, List.all_append, HA.out]; simp [HB.out]
          · rw [HT.out, List.flatMap_append, HX.out]
            have : (X ++ [r.zs].flatMap frameL) = X ++ frameL r.zs := by simp
            rw [this, List.length_append, HM2.out, List.flatMap_append]
            exact ho3
        case measure => simp [intOf]; omega
      · have hb' : bodyB r.zs = false := by simpa using hb
        have hkk : okT (rows.map (·.zs)) = false := by
          unfold okT; rw [Bool.and_eq_false_iff]; right
          rw [List.all_eq_false]; exact ⟨r.zs, HM.out, by rw [hb']; simp⟩
        have HF := Lib.hid (show framesL (rows.map (·.zs)) = [] by unfold framesL; rw [hkk]; rfl)
        have HK := Lib.hid hkk
        clear hkk hb
        go_wp2_with fail
        refine (implBody_any _ _ _ r.zs _ (by omega) rfl hri).mono ?_
        rintro e w' ⟨rfl, rfl⟩
        go_wp2_with fail
        go_ret2
        rw [HK.out]
        exact Out2.of (n := 0) (by rw [HF.out]; rfl) (by rw [HF.out]; rfl) (World.ownsRow_nil _ _ _ _) hbw
    · obtain rfl : n = k := by omega
      rw [List.take_of_length_le (by rw [List.length_map, HL.out]; exact Nat.le_refl _)] at ho
      have hall := HA.out
      rw [List.take_of_length_le (by rw [List.length_map, HL.out]; exact Nat.le_refl _)] at hall
      have hkk : okT (rows.map (·.zs)) = true := by
        unfold okT; rw [hall, Bool.and_true, decide_eq_true_eq, List.length_map, HL.out]; omega
      have HF := Lib.hid (show framesL (rows.map (·.zs)) = (rows.map (·.zs)).flatMap frameL from if_pos hkk)
      have HK := Lib.hid hkk
      clear hkk hall
      go_wp2_with fail
      go_ret2
      rw [HK.out]
      exact Out2.of rfl rfl (by rw [HF.out]; exact ho) hbw
set_option maxHeartbeats 1000000 in
theorem specFramesOf_any (A : Option Addr) (n c : Nat) (rows : List RowI) (w : World) (hl : rows.length = n) (htab : TabAt w A rows) (hn : n ≤ 1048576) (hz : ∀ r ∈ rows, r.zs.length ≤ 1048576) :
    Calls Try.prog 36 #[.slice A n c] w (Out2 encI 1 3 (framesL (rows.map (·.zs))) (okT (rows.map (·.zs))) w) := by
  obtain ⟨i0, hi, hz0, hz1, hz2⟩ := info_parts infoInt
  obtain ⟨j0, ji, jz0, jz1, jz2⟩ := info_parts infoSl
  have HL := Lib.hid hl
  clear hl
  go_enter Try.func36, Try.ntmps36
  go_wp2_with fail
  go_loopw [4, 5] (fun v i wr => ∃ k : Nat, i = .int .i64 k ∧ k ≤ n ∧ ((rows.map (·.zs)).take k).all bodyB = true ∧ wr.ownsRow w.heap.size 3 1 v ((((rows.map (·.zs)).take k).flatMap frameL).length) ((((rows.map (·.zs)).take k).flatMap frameL).flatMap encI) ∧ Below w.heap.size w wr) (fun _ i _ => n - (intOf i).toNat)
  case atStart => exact ⟨0, rfl, Nat.zero_le _, rfl, World.ownsRow_lit (base := w.heap.size) (e := 3) (size := 1) w #[] 0 (Nat.le_refl _) (by decide) rfl, (Below.refl _ _).alloc (Nat.le_refl _) _⟩
  case round =>
    obtain ⟨k, rfl, hk, hall, ho, hbw⟩ := hrel
    have HA := Lib.hid hall
    clear hall
    by_cases hlt : k < n
    · have hlk : k < rows.length := by rw [HL.out]; exact hlt
      have htw := htab.belowS hbw
      have hidx := fun W => run_index_one (c := c) Try.underlying39 ji jz1 (htw.outer.addr (by omega)) hlt W
      have c1 : wr.cell? ⟨blk A, off A + k, none⟩ = some (.slice rows[k].A rows[k].zs.length rows[k].c) := htw.outer.cell1 hlk rfl
      have hri := htw.inner rows[k] (List.getElem_mem _)
      have hzr := hz rows[k] (List.getElem_mem _)
      have HT := Lib.hid (show (rows.map (·.zs)).take (k + 1) = (rows.map (·.zs)).take k ++ [rows[k].zs] by rw [take_snoc' _ k (by simpa using hlk)]; simp)
      have HM := Lib.hid (show rows[k].zs ∈ rows.map (·.zs) from List.mem_map.2 ⟨rows[k], List.getElem_mem _, rfl⟩)
      have hle := flat_le ((rows.map (·.zs)).take k)
      have hlt' : ((rows.map (·.zs)).take k).length ≤ k := List.length_take_le _ _
      generalize rows[k] = r at c1 hri hzr HT HM
      clear hlk
      generalize hX : ((rows.map (·.zs)).take k).flatMap frameL = X at ho hle
      have HX := Lib.hid hX
      clear hX
      by_cases hb : bodyB r.zs = true
      · go_wp2_with fail
        refine (specBody_any _ _ _ r.zs _ (by omega) rfl hri).mono ?_
        rintro e w' ⟨rfl, rfl⟩
        go_wp2_with fail
        refine (specFrameOf_any _ _ _ r.zs _ (by omega) rfl hri).mono ?_
        rintro e w2 ⟨A2, c2, rfl, ho2, hb2⟩
        have hf18 := frameL_len18' r.zs
        obtain ⟨m, hm⟩ : ∃ m, (frameL r.zs).length = m := ⟨_, rfl⟩
        have HM2 := Lib.hid hm
        rw [hm] at ho2 hf18 ⊢
        clear hm
        have hz3 := hb2.size
        have hz4 := hbw.size
        have hoX := own_belowS ho hb2
        have at2 := own_at encI_len ho2 HM2.out
        go_wp2_with (at_builtin; refine wpList_append_at _ rfl _ _ 32 rfl w.heap.size 3 i0 (.int .i64 0) 1 8 Try.underlying32 hi hz0 hz1 hz2 rfl (by decide) _ X.length _ rfl hoX encI_len encI_one A2 m c2 (frameL r.zs) rfl HM2.out at2 (by unfold maxLen; omega) (by omega) (by omega) ?_; intro v3 w3 ho3 hg3 hv3)
        have HB := Lib.hid hb
        go_roundw
        case rel =>
          refine ⟨k + 1, by go_num, by omega, ?_, ?_, below_app (below_step hbw hb2) hg3 (own_ge ho)⟩
          · rw [HT.out, List.all_append, HA.out]; simp [HB.out]
          · rw [HT.out, List.flatMap_append, HX.out]
            have : (X ++ [r.zs].flatMap frameL) = X ++ frameL r.zs := by simp
            rw [this, List.length_append, HM2.out, List.flatMap_append]
            exact ho3
        case measure => simp [intOf]; omega
      · have hb' : bodyB r.zs = false := by simpa using hb
        have hkk : okT (rows.map (·.zs)) = false := by
          unfold okT; rw [Bool.and_eq_false_iff]; right
          rw [List.all_eq_false]; exact ⟨r.zs, HM.out, by rw [hb']; simp⟩
        have HF := Lib.hid (show framesL (rows.map (·.zs)) = [] by unfold framesL; rw [hkk]; rfl)
        have HK := Lib.hid hkk
        clear hkk hb
        go_wp2_with fail
        refine (specBody_any _ _ _ r.zs _ (by omega) rfl hri).mono ?_
        rintro e w' ⟨rfl, rfl⟩
        go_wp2_with fail
        go_ret2
        rw [HK.out]
        exact Out2.of (n := 0) (by rw [HF.out]; rfl) (by rw [HF.out]; rfl) (own_mono (World.ownsRow_lit (base := wr.heap.size) (e := 3) (size := 1) wr #[] 0 (Nat.le_refl _) (by decide) rfl) hbw.size) (below_alloc hbw _)
    · obtain rfl : n = k := by omega
      rw [List.take_of_length_le (by rw [List.length_map, HL.out]; exact Nat.le_refl _)] at ho
      have hall := HA.out
      rw [List.take_of_length_le (by rw [List.length_map, HL.out]; exact Nat.le_refl _)] at hall
      by_cases h40 : 40 < n
      · have hkk : okT (rows.map (·.zs)) = false := by unfold okT; rw [Bool.and_eq_false_iff]; left; rw [decide_eq_false_iff_not, List.length_map, HL.out]; omega
        have HF := Lib.hid (show framesL (rows.map (·.zs)) = [] by unfold framesL; rw [hkk]; rfl)
        have HK := Lib.hid hkk
        clear hkk hall
        go_wp2_with fail
        go_ret2
        rw [HK.out]
        exact Out2.of (n := 0) (by rw [HF.out]; rfl) (by rw [HF.out]; rfl) (own_mono (World.ownsRow_lit (base := wr.heap.size) (e := 3) (size := 1) wr #[] 0 (Nat.le_refl _) (by decide) rfl) hbw.size) (below_alloc hbw _)
      have hkk : okT (rows.map (·.zs)) = true := by
        unfold okT; rw [hall, Bool.and_true, decide_eq_true_eq, List.length_map, HL.out]; omega
      have HF := Lib.hid (show framesL (rows.map (·.zs)) = (rows.map (·.zs)).flatMap frameL from if_pos hkk)
      have HK := Lib.hid hkk
      clear hkk hall
      go_wp2_with fail
      go_ret2
      rw [HK.out]
      exact Out2.of rfl rfl (by rw [HF.out]; exact ho) hbw
end Go.Proofs.Ytnlgpjloedoebaa
