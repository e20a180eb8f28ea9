/- The copy of a table; its size. -/
import Derived.Test.YtnlgpjloedoebaaTables
namespace Go.Proofs.Ytnlgpjloedoebaa
open Go.RowKit
set_option linter.unusedVariables false
set_option linter.unusedSimpArgs false

set_option maxHeartbeats 1000000 in
theorem szIntS_any (A : Option Addr) (n c : Nat) (left : Int) (w : World) (hn : n ≤ 9223372036854775807) (h1 : 0 ≤ left) (h2 : left ≤ 1048576) :
    Calls Try.prog 56 #[.slice A n c, .int .i64 left] w fun e w' => e = .returned (.int .i64 (if left - n < 0 then -1 else left - n)) ∧ w = w' := by
  by_cases h : left - (n : Int) < 0
  · rw [if_pos h]
    go_enter Try.func56, Try.ntmps56
    go_wp2
    go_ret
    exact ⟨rfl, rfl⟩
  · rw [if_neg h]
    go_enter Try.func56, Try.ntmps56
    go_wp2
    go_ret
    exact ⟨rfl, rfl⟩

/-- What the size of a table says: if it is not refused, all is short. -/
def SzT (n : Nat) (rows : List RowI) (left : Int) (w : World) (e : Ending) (w' : World) : Prop := ∃ r : Int, (e = .returned (.int .i64 r) ∧ (0 ≤ r → (n : Int) + totR rows ≤ left) ∧ -1 ≤ r) ∧ w = w'

set_option maxHeartbeats 1000000 in
theorem szIntSS_any (A : Option Addr) (n c : Nat) (rows : List RowI) (w : World) (hl : rows.length = n) (hn : n ≤ 9223372036854775807) (hz : ∀ r ∈ rows, r.zs.length ≤ 9223372036854775807) (htab : TabAt w A rows) :
    Calls Try.prog 41 #[.slice A n c, .int .i64 1048576] w (SzT n rows 1048576 w) := by
  obtain ⟨j0, ji, jz0, jz1, jz2⟩ := info_parts infoSl
  have HL := Lib.hid hl
  clear hl
  by_cases hbig : 1048576 < n
  · go_enter Try.func41, Try.ntmps41
    go_wp2
    go_ret
    exact ⟨-1, ⟨rfl, fun h => by omega, by omega⟩, rfl⟩
  go_enter Try.func41, Try.ntmps41
  go_wp2_with fail
  go_loop [1, 5] (fun q i => ∃ (j : Nat) (pre post : List RowI), i = .int .i64 j ∧ q = .int .i64 (1048576 - n - totR pre) ∧ (n : Int) + totR pre ≤ 1048576 ∧ pre.length = j ∧ rows = pre ++ post) (fun _ i => n - (intOf i).toNat)
  case atStart => exact ⟨0, [], rows, rfl, by simp [totR], by simp [totR]; omega, rfl, rfl⟩
  case round =>
    obtain ⟨j, pre, post, rfl, rfl, hsum, hj, hrows⟩ := hrel
    have HJ := Lib.hid hj
    have HR := Lib.hid hrows
    clear hj hrows
    cases post with
    | nil =>
      have e : n = j := by have := HL.out; rw [HR.out] at this; simp at this; rw [← this, HJ.out]
      have e2 : rows = pre := by rw [HR.out, List.append_nil]
      subst e2
      obtain rfl := e
      go_wp2
      go_ret
      exact ⟨_, ⟨rfl, fun _ => hsum, by omega⟩, rfl⟩
    | cons r post =>
      have hjn : j < n := by have := HL.out; rw [HR.out] at this; simp at this; have := HJ.out; omega
      have hlm : j < rows.length := by rw [HL.out]; exact hjn
      have hget : rows[j] = r := by
        have : rows[j]? = some r := by rw [HR.out, List.getElem?_append_right (by rw [HJ.out]; exact Nat.le_refl _), HJ.out, Nat.sub_self]; rfl
        rw [List.getElem?_eq_getElem hlm] at this; injection this
      have hidx := fun W => run_index_one (c := c) Try.underlying39 ji jz1 (htab.outer.addr (by omega)) hjn W
      have c1 : w.cell? ⟨blk A, off A + j, none⟩ = some (.slice r.A r.zs.length r.c) := htab.outer.cell1 hlm (by rw [hget]; rfl)
      have hzr := hz r (by rw [HR.out]; simp)
      clear hget hlm
      by_cases hneg : (1048576 : Int) - n - totR pre - r.zs.length < 0
      · go_wp2_with fail
        refine (szIntS_any _ _ _ (1048576 - n - totR pre) _ hzr (by omega) (by omega)).mono ?_
        rw [if_pos hneg]
        rintro e w' ⟨rfl, rfl⟩
        go_wp2
        go_ret
        exact ⟨-1, ⟨rfl, fun h => by omega, by omega⟩, rfl⟩
      · go_wp2_with fail
        refine (szIntS_any _ _ _ (1048576 - n - totR pre) _ hzr (by omega) (by omega)).mono ?_
        rw [if_neg (show ¬ (1048576 : Int) - n - totR pre - r.zs.length < 0 by omega)]
        rintro e w' ⟨rfl, rfl⟩
        go_wp2
        go_round
        case rel => exact ⟨j + 1, pre ++ [r], post, by go_num, by rw [totR_snoc]; go_num, by rw [totR_snoc]; push_cast; omega, by simp [HJ.out], by rw [HR.out]; simp⟩
        case measure => simp [intOf]; omega

/-- A copied table. -/
def CopiedT (n : Nat) (rows : List RowI) (w : World) (e : Ending) (w' : World) : Prop := ∃ (g : Nat) (rs : List RowI), e = .returned (.slice (some ⟨g, 0, none⟩) n n) ∧ rs.map (·.zs) = rows.map (·.zs) ∧ Rows1 w' w.heap.size (.slice (some ⟨g, 0, none⟩) n n) rs ∧ Below w.heap.size w w'

set_option maxHeartbeats 1000000 in
theorem toIntSS_any (A : Option Addr) (n c : Nat) (rows : List RowI) (w : World) (hl : rows.length = n) (hn : n ≤ 1048576) (hz : ∀ r ∈ rows, r.zs.length ≤ 1048576) (htab : TabAt w A rows) :
    Calls Try.prog 42 #[.slice A n c] w (CopiedT n rows w) := by
  obtain ⟨j0, ji, jz0, jz1, jz2⟩ := info_parts infoSl
  have HL := Lib.hid hl
  clear hl
  have hb := Below.refl w.heap.size w
  go_enter Try.func42, Try.ntmps42
  go_wp2_with (at_make; refine wpList_make_full _ rfl _ _ _ rfl w.heap.size 32 j0 (.slice none 0 0) 1 Try.underlying39 ji jz0 jz1 _ _ _ _ n rfl rfl rfl rfl (by rw [jz2]; omega) (by unfold maxLen; omega) (Nat.le_refl _) ?_; intro w1 hown hgr)
  have hbel := hb.grown hgr (Nat.le_refl _) (fun k h => by cases h)
  go_loopw [4] (fun i wr => ∃ (k : Nat) (done : List RowI) (rest : List Value), i = .int .i64 k ∧ k ≤ n ∧ done.length = k ∧ rest.length = n - k ∧ done.map (·.zs) = (rows.map (·.zs)).take k ∧ wr.ownsRow w.heap.size 32 1 (.slice (some ⟨w.heap.size, 0, none⟩) n n) n (done.flatMap encR ++ rest) ∧
    (∀ r ∈ done, wr.ownsRow w.heap.size 3 1 (.slice r.A r.zs.length r.c) r.zs.length (r.zs.flatMap encI)) ∧ (done.Pairwise fun r s => ∀ g, (Value.slice r.A r.zs.length r.c).ownBlock = some g → (Value.slice s.A s.zs.length s.c).ownBlock ≠ some g) ∧ Below w.heap.size w wr) (fun i _ => n - (intOf i).toNat)
  case atStart => exact ⟨0, [], _, rfl, Nat.zero_le _, rfl, by have := hown.1; simpa using this, rfl, hown, (fun r hr => by simp at hr), List.Pairwise.nil, hbel⟩
  case round =>
    obtain ⟨k, done, rest, rfl, hk, hdl, hrl, hmap, ho, hin, hap, hbw⟩ := hrel
    have HD := Lib.hid hdl
    have HRL := Lib.hid hrl
    have HM := Lib.hid hmap
    clear hdl hrl hmap
    by_cases hlt : k < n
    · have hlk : k < rows.length := by rw [HL.out]; exact hlt
      have htw := htab.belowS hbw
      have hidx := fun W => run_index_one (c := c) Try.underlying39 ji jz1 (htw.outer.addr (by omega)) hlt W
      have c1 : wr.cell? ⟨blk A, off A + k, none⟩ = some (.slice rows[k].A rows[k].zs.length rows[k].c) := htw.outer.cell1 hlk rfl
      have hri := htw.inner rows[k] (List.getElem_mem _)
      have hzr := hz rows[k] (List.getElem_mem _)
      have HT := Lib.hid (show (rows.map (·.zs)).take (k + 1) = (rows.map (·.zs)).take k ++ [rows[k].zs] by rw [take_snoc' _ k (by simpa using hlk)]; simp)
      generalize rows[k] = r at c1 hri hzr HT
      clear hlk
      obtain ⟨m, hm⟩ : ∃ m, r.zs.length = m := ⟨_, rfl⟩
      have HZ := Lib.hid hm
      rw [hm] at c1 hzr
      clear hm
      go_wp2_with fail
      refine (toIntS_any _ m _ r.zs _ (by omega) HZ.out hri).mono ?_
      rintro e w2 ⟨g2, rfl, ho2, hb2⟩
      have hoo := own_belowS ho hb2
      obtain ⟨u0, hc2⟩ : ∃ u0, w2.cell? ⟨w.heap.size, k, none⟩ = some u0 := ⟨_, by rw [hoo.cellAt k (by omega)]; exact List.getElem?_eq_getElem (by rw [hoo.1]; omega)⟩
      have hf2 := hoo.frozenAt k
      have hst := hoo.stored k (.slice (some ⟨g2, 0, none⟩) m m)
      have hz2 := hb2.size
      have hz1 := hbw.size
      have hbl2 := ho2.lt g2 rfl
      have HO2 := Lib.hid ho2
      have HOO := Lib.hid hoo
      clear ho hoo ho2
      go_wp2
      go_roundw
      case rel =>
        cases rest with
        | nil => have := HRL.out; simp at this; omega
        | cons u rest =>
          refine ⟨k + 1, done ++ [⟨some ⟨g2, 0, none⟩, m, r.zs⟩], rest, by go_num, by omega, by simp [HD.out], by have := HRL.out; simp at this; omega, by rw [HT.out, List.map_append, HM.out]; rfl, ?_, ?_, ?_, (below_step hbw hb2).setCell (p := ⟨w.heap.size, k, none⟩) (Nat.le_refl _) _⟩
          · have h1 := hst.1
            have hfl : (done.flatMap encR).length = k := by rw [flat_len encR_len, HD.out, Nat.mul_one]
            rw [List.set_append_right _ _ (by omega), hfl, Nat.sub_self] at h1
            rw [List.flatMap_append, List.append_assoc]
            have e : [(⟨some ⟨g2, 0, none⟩, m, r.zs⟩ : RowI)].flatMap encR = [.slice (some ⟨g2, 0, none⟩) m m] := by simp [encR, HZ.out]
            rw [e]
            exact h1
          · intro s hs
            rcases List.mem_append.1 hs with hs | hs
            · have h1 := own_belowS (hin s hs) hb2
              exact h1.kept hst.2 (own_types h1 HOO.out (by decide))
            · simp at hs; subst hs
              show World.ownsRow _ _ _ _ (.slice (some ⟨g2, 0, none⟩) r.zs.length m) r.zs.length _
              rw [HZ.out]
              exact own_mono (HO2.out.kept hst.2 (own_types HO2.out HOO.out (by decide))) hz1
          · refine List.pairwise_append.2 ⟨hap, List.pairwise_singleton _ _, fun s hs t ht => ?_⟩
            simp at ht; subst ht
            intro g h2 h3
            have := ((hin s hs).lt g h2).2
            simp [Value.ownBlock] at h3
            omega
      case measure => simp [intOf]; omega
    · obtain rfl : n = k := by omega
      have hr0 : rest = [] := List.eq_nil_of_length_eq_zero (by rw [HRL.out]; omega)
      subst hr0
      rw [List.append_nil] at ho
      have hmm := HM.out
      rw [List.take_of_length_le (by rw [List.length_map, HL.out]; exact Nat.le_refl _)] at hmm
      have HMM := Lib.hid hmm
      clear hmm
      go_wp2
      go_ret
      exact ⟨_, done, rfl, HMM.out, ⟨by rw [HD.out]; exact ho, hin, hap⟩, hbw⟩
end Go.Proofs.Ytnlgpjloedoebaa
