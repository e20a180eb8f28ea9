/- sameTable. -/
import Derived.Test.YtnlgpjloedoebaaTables
namespace Go.Proofs.Ytnlgpjloedoebaa
open Go.RowKit
set_option linter.unusedVariables false
set_option linter.unusedSimpArgs false

set_option maxHeartbeats 1000000 in
theorem sameTable_any (A B : Option Addr) (n m c d : Nat) (ra rb : List RowI) (w : World) (hn : n ≤ 140737488355328) (hx : ra.length = n) (hy : rb.length = m) (ha : TabAt w A ra) (hb : TabAt w B rb) (hla : ∀ r ∈ ra, r.zs.length ≤ 140737488355328) :
    Calls Try.prog 43 #[.slice A n c, .slice B m d] w (SameT (ra.map (·.zs)) (rb.map (·.zs)) w) := by
  obtain ⟨i0, hi, hz0, hz1, hz2⟩ := info_parts infoInt
  obtain ⟨j0, ji, jz0, jz1, jz2⟩ := info_parts infoSl
  by_cases hnm : n = m
  case neg =>
    have h1 : ((n : Int) != m) = true := by simp; omega
    have h2 : ra.map (·.zs) ≠ rb.map (·.zs) := by intro h; have := congrArg List.length h; simp at this; omega
    have H2 := Lib.hid h2
    clear h2 hx hy
    go_enter Try.func43, Try.ntmps43
    go_wp2
    go_ret
    exact ⟨ret_bool (b := false) (decide_eq_false H2.out).symm, 0, rfl⟩
  subst hnm
  have HX := Lib.hid hx
  have HY := Lib.hid hy
  clear hx hy
  go_enter Try.func43, Try.ntmps43
  go_wp2
  go_loopw [5] (fun i wr => ∃ k : Nat, i = .int .i64 k ∧ k ≤ n ∧ (∃ q, wr = w.drewN q) ∧ (ra.map (·.zs)).take k = (rb.map (·.zs)).take k) (fun i _ => n - (intOf i).toNat)
  case atStart => exact ⟨0, rfl, Nat.zero_le _, ⟨0, rfl⟩, rfl⟩
  case round =>
    obtain ⟨k, rfl, hk, hq, ht⟩ := hrel
    have HT := Lib.hid ht
    clear ht
    have ha : TabAt wr A ra := by obtain ⟨q, rfl⟩ := hq; exact ha.drewN q
    have hb : TabAt wr B rb := by obtain ⟨q, rfl⟩ := hq; exact hb.drewN q
    have hnew : ∀ m, ∃ q, wr.drewN m = w.drewN q := fun m => by obtain ⟨q, rfl⟩ := hq; exact ⟨_, World.drewN_drewN ..⟩
    have HQ := Lib.hid hnew
    clear hq hnew
    by_cases hlt : k < n
    · have hlx : k < ra.length := by rw [HX.out]; exact hlt
      have hly : k < rb.length := by rw [HY.out]; exact hlt
      have hidx := fun W => run_index_one (c := c) Try.underlying39 ji jz1 (ha.outer.addr (by omega)) hlt W
      have hidy := fun W => run_index_one (c := d) Try.underlying39 ji jz1 (hb.outer.addr (by omega)) hlt W
      have c1 : wr.cell? ⟨blk A, off A + k, none⟩ = some (.slice ra[k].A ra[k].zs.length ra[k].c) := ha.outer.cell1 hlx rfl
      have c2 : wr.cell? ⟨blk B, off B + k, none⟩ = some (.slice rb[k].A rb[k].zs.length rb[k].c) := hb.outer.cell1 hly rfl
      have hxa := ha.inner ra[k] (List.getElem_mem _)
      have hxb := hb.inner rb[k] (List.getElem_mem _)
      have hlen := hla ra[k] (List.getElem_mem _)
      have HIFF := Lib.hid (take_succ_eq_iff (xs := ra.map (·.zs)) (ys := rb.map (·.zs)) (k := k) (x := ra[k].zs) (y := rb[k].zs) (by simp [hlx]) (by simp [hly]) HT.out)
      have HNE := Lib.hid (fun (h : ra[k].zs ≠ rb[k].zs) => ne_of_at (xs := ra.map (·.zs)) (ys := rb.map (·.zs)) (k := k) (x := ra[k].zs) (y := rb[k].zs) (by simp [hlx]) (by simp [hly]) h)
      generalize ra[k] = r at c1 hxa hlen HIFF HNE
      generalize rb[k] = s at c2 hxb HIFF HNE
      by_cases he : r.zs = s.zs
      · have hd : decide (r.zs = s.zs) = true := decide_eq_true he
        have HE := Lib.hid he
        clear he hlx hly
        go_wp2
        go_quiet ((go_at_call 32; exact Calls.quiet_of (sameInts_any _ _ _ _ _ _ r.zs s.zs _ hlen rfl rfl (hxa.drewN _) (hxb.drewN _))))
        go_wp2
        go_roundw
        case rel => exact ⟨k + 1, by go_num, by omega, HQ.out _, HIFF.out.2 HE.out⟩
        case measure => simp [intOf]; omega
      · have hd : decide (r.zs = s.zs) = false := decide_eq_false he
        have HE := Lib.hid he
        clear he hlx hly
        go_wp2
        go_quiet ((go_at_call 32; exact Calls.quiet_of (sameInts_any _ _ _ _ _ _ r.zs s.zs _ hlen rfl rfl (hxa.drewN _) (hxb.drewN _))))
        go_wp2
        go_ret
        exact ⟨ret_bool (b := false) (decide_eq_false (HNE.out HE.out)).symm, HQ.out _⟩
    · obtain rfl : n = k := by omega
      have he : ra.map (·.zs) = rb.map (·.zs) := by
        have := HT.out
        rwa [List.take_of_length_le (by rw [List.length_map, HX.out]; exact Nat.le_refl _), List.take_of_length_le (by rw [List.length_map, HY.out]; exact Nat.le_refl _)] at this
      have HE := Lib.hid he
      clear he
      go_wp2
      go_ret
      exact ⟨ret_bool (b := true) (decide_eq_true HE.out).symm, HQ.out 0⟩
end Go.Proofs.Ytnlgpjloedoebaa
