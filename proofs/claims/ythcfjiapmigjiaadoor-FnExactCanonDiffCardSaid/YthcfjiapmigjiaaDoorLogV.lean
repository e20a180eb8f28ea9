/- Valid logs, by both texts; the walk of the law on them. -/
import Derived.Test.YthcfjiapmigjiaaDoorCmdS
namespace Go.Proofs.YthcfjiapmigjiaaDoor
open Go.RowKit
set_option linter.unusedVariables false
set_option linter.unusedSimpArgs false
set_option maxRecDepth 20000

def okCmd (q : Cmd) : Bool := okK q.p.data.toList q.x q.y q.z q.u
/-- A log is valid. -/
def okLog (l : List Cmd) : Bool := l.all okCmd && decide (l.length ≤ 20)
theorem take_all {l : List Cmd} {k : Nat} (hk : k < l.length) (h : (l.take k).all okCmd = true) (h1 : okCmd l[k] = true) : (l.take (k + 1)).all okCmd = true := by
  rw [take_snoc' l k hk, List.all_append, h]; simp [h1]
theorem all_no {l : List Cmd} {k : Nat} (hk : k < l.length) (h1 : okCmd l[k] = false) : l.all okCmd = false := by
  rw [List.all_eq_false]; exact ⟨_, List.getElem_mem hk, by rw [h1]; simp⟩

set_option maxHeartbeats 1000000 in
theorem specLogValid_any (A : Option Addr) (n c : Nat) (l : List Cmd) (w : World) (hn : n ≤ 140737488355328) (hl : l.length = n) (ha : At encK 5 w A l) (hz : ∀ q ∈ l, q.p.size ≤ 1048576) :
    Calls Tryd.prog 36 #[.slice A n c] w fun e w' => e = .returned (.bool (okLog l)) ∧ Below w.heap.size w w' := by
  obtain ⟨i0, hi, hz0, hz1, hz2⟩ := info_parts infoK
  have HL := Lib.hid hl
  clear hl
  go_enter Tryd.func36, Tryd.ntmps36
  go_wp2_with fail
  go_loopw [3] (fun i wr => ∃ k : Nat, i = .int .i64 k ∧ k ≤ n ∧ Hid ((l.take k).all okCmd = true) ∧ Below w.heap.size w wr) (fun i _ => n - (intOf i).toNat)
  case atStart => exact ⟨0, rfl, Nat.zero_le _, Lib.hid rfl, Below.refl _ _⟩
  case round =>
    obtain ⟨k, rfl, hk, HA, hbw⟩ := hrel
    by_cases hlt : k < n
    · have hlk : k < l.length := by rw [HL.out]; exact hlt
      have hidx := fun W => run_index_any (c := c) Tryd.underlying24 hi hz1 (ha.addr (by rw [HL.out]; omega)) hlt W
      obtain ⟨q, hq⟩ : ∃ q, l[k] = q := ⟨_, rfl⟩
      have hqz : q.p.size ≤ 1048576 := hz q (hq ▸ List.getElem_mem _)
      obtain ⟨c0, c1, c2, c3, c4⟩ := at5 (ha.belowS hbw) hlk hq
      cases hok : okCmd q with
      | true =>
        have HK := Lib.hid (show okK q.p.data.toList q.x q.y q.z q.u = true from hok)
        have HN := Lib.hid (take_all hlk HA.out (by rw [hq]; exact hok))
        clear hok hq
        go_wp2_with fail
        refine (specCommandValid_any q.p q.x q.y q.z q.u _ hqz).mono ?_
        rw [HK.out]
        rintro e w1 ⟨rfl, hb1⟩
        have bw1 := below_step hbw hb1
        go_wp2_with fail
        go_roundw
        case rel => exact ⟨k + 1, by go_num, by omega, HN, bw1⟩
        case measure => simp [intOf]; omega
      | false =>
        have HK := Lib.hid (show okK q.p.data.toList q.x q.y q.z q.u = false from hok)
        have HN := Lib.hid (all_no hlk (by rw [hq]; exact hok))
        clear hok hq
        go_wp2_with fail
        refine (specCommandValid_any q.p q.x q.y q.z q.u _ hqz).mono ?_
        rw [HK.out]
        rintro e w1 ⟨rfl, hb1⟩
        have bw1 := below_step hbw hb1
        go_wp2_with fail
        go_ret
        exact ⟨ret_bool (by unfold okLog; rw [HN.out]; rfl), bw1⟩
    · obtain rfl : n = k := by omega
      have hall := HA.out
      rw [List.take_of_length_le (by rw [HL.out]; exact Nat.le_refl _)] at hall
      have HN := Lib.hid hall
      clear hall
      go_wp2_with fail
      go_ret
      refine ⟨ret_bool ?_, hbw⟩
      unfold okLog
      rw [HN.out, HL.out, Bool.eq_iff_iff]; simp; omega

theorem implNot_any (q : Cmd) (w : World) (hs : q.p.size ≤ 1048576) (hm : MaxAt w) :
    Calls Tryd.prog 86 #[.agg #[.string q.p, .int .i64 q.x, .int .i64 q.y, .int .i64 q.z, .int .i64 q.u]] w fun e w' => e = .returned (.bool (!okCmd q)) ∧ Below w.heap.size w w' := by
  have HM := Lib.hid (hm.belowS ((Below.refl w.heap.size w).alloc (Nat.le_refl _) (.cells #[.string q.p, .int .i64 q.x, .int .i64 q.y, .int .i64 q.z, .int .i64 q.u] 52)))
  have bw0 := below_alloc (Below.refl w.heap.size w) (.cells #[.string q.p, .int .i64 q.x, .int .i64 q.y, .int .i64 q.z, .int .i64 q.u] 52)
  obtain ⟨k, hk⟩ : ∃ k, okCmd q = k := ⟨_, rfl⟩
  have HK := Lib.hid (show okK q.p.data.toList q.x q.y q.z q.u = k from hk)
  rw [hk]
  clear hk hm
  cases k
  all_goals
    go_enter Tryd.func86, Tryd.ntmps86
    go_wp2_with fail
    refine (implCommandValid_any q.p q.x q.y q.z q.u _ hs HM.out).mono ?_
    rw [HK.out]
    rintro e w1 ⟨rfl, hb1⟩
    have bw1 := below_step bw0 hb1
    go_wp2_with fail
    go_ret
    exact ⟨rfl, bw1⟩

set_option maxHeartbeats 1000000 in
theorem indexNot_any (A : Option Addr) (n c : Nat) (l : List Cmd) (w : World) (hn : n ≤ 140737488355328) (hl : l.length = n) (ha : At encK 5 w A l) (hz : ∀ q ∈ l, q.p.size ≤ 1048576) (hm : MaxAt w) :
    Calls Tryd.prog 40 #[.slice A n c, .func (.func 86) #[] #[]] w fun e w' => (∃ r : Int, e = .returned (.int .i64 r) ∧ decide (0 ≤ r) = !l.all okCmd) ∧ Below w.heap.size w w' := by
  obtain ⟨i0, hi, hz0, hz1, hz2⟩ := info_parts infoK
  have HL := Lib.hid hl
  have HM := Lib.hid hm
  clear hl hm
  go_enter Tryd.func40, Tryd.ntmps40
  go_wp2_with fail
  go_loopw [8] (fun i wr => ∃ k : Nat, i = .int .i64 k ∧ k ≤ n ∧ Hid ((l.take k).all okCmd = true) ∧ Below w.heap.size w wr) (fun i _ => n - (intOf i).toNat)
  case atStart => exact ⟨0, rfl, Nat.zero_le _, Lib.hid rfl, Below.refl _ _⟩
  case round =>
    obtain ⟨k, rfl, hk, HA, hbw⟩ := hrel
    by_cases hlt : k < n
    · have hlk : k < l.length := by rw [HL.out]; exact hlt
      have hidx := fun W => run_index_any (c := c) Tryd.underlying24 hi hz1 (ha.addr (by rw [HL.out]; omega)) hlt W
      obtain ⟨q, hq⟩ : ∃ q, l[k] = q := ⟨_, rfl⟩
      have hqz : q.p.size ≤ 1048576 := hz q (hq ▸ List.getElem_mem _)
      obtain ⟨c0, c1, c2, c3, c4⟩ := at5 (ha.belowS hbw) hlk hq
      cases hok : okCmd q with
      | true =>
        have HK := Lib.hid hok
        have HN := Lib.hid (take_all hlk HA.out (by rw [hq]; exact hok))
        clear hok hq
        go_wp2_with fail
        refine (implNot_any q _ hqz (HM.out.belowS hbw)).mono ?_
        rw [HK.out]
        rintro e w1 ⟨rfl, hb1⟩
        have bw1 := below_step hbw hb1
        go_wp2_with fail
        go_roundw
        case rel => exact ⟨k + 1, by go_num, by omega, HN, bw1⟩
        case measure => simp [intOf]; omega
      | false =>
        have HK := Lib.hid hok
        have HN := Lib.hid (all_no hlk (by rw [hq]; exact hok))
        clear hok hq
        go_wp2_with fail
        refine (implNot_any q _ hqz (HM.out.belowS hbw)).mono ?_
        rw [HK.out]
        rintro e w1 ⟨rfl, hb1⟩
        have bw1 := below_step hbw hb1
        go_wp2_with fail
        go_ret
        exact ⟨⟨_, rfl, by rw [HN.out]; simp⟩, bw1⟩
    · obtain rfl : n = k := by omega
      have hall := HA.out
      rw [List.take_of_length_le (by rw [HL.out]; exact Nat.le_refl _)] at hall
      have HN := Lib.hid hall
      clear hall
      go_wp2_with fail
      go_ret
      exact ⟨⟨-1, rfl, by rw [HN.out]; rfl⟩, hbw⟩
theorem containsNot_any (A : Option Addr) (n c : Nat) (l : List Cmd) (w : World) (hn : n ≤ 140737488355328) (hl : l.length = n) (ha : At encK 5 w A l) (hz : ∀ q ∈ l, q.p.size ≤ 1048576) (hm : MaxAt w) :
    Calls Tryd.prog 85 #[.slice A n c, .func (.func 86) #[] #[]] w fun e w' => e = .returned (.bool (!l.all okCmd)) ∧ Below w.heap.size w w' := by
  go_enter Tryd.func85, Tryd.ntmps85
  go_wp2_with fail
  refine (indexNot_any A n c l _ hn hl ha hz hm).mono ?_
  rintro e w1 ⟨⟨r, rfl, hr⟩, hb1⟩
  have HR := Lib.hid hr
  clear hr
  go_wp2_with fail
  go_ret
  exact ⟨ret_bool HR.out, hb1⟩
theorem implAllValid_any (A : Option Addr) (n c : Nat) (l : List Cmd) (w : World) (hn : n ≤ 140737488355328) (hl : l.length = n) (ha : At encK 5 w A l) (hz : ∀ q ∈ l, q.p.size ≤ 1048576) (hm : MaxAt w) :
    Calls Tryd.prog 64 #[.slice A n c] w fun e w' => e = .returned (.bool (l.all okCmd)) ∧ Below w.heap.size w w' := by
  obtain ⟨k, hk⟩ : ∃ k, l.all okCmd = k := ⟨_, rfl⟩
  have HK := Lib.hid hk
  rw [hk]
  clear hk
  go_enter Tryd.func64, Tryd.ntmps64
  go_wp2_with fail
  refine (containsNot_any A n c l _ hn hl ha hz hm).mono ?_
  rw [HK.out]
  rintro e w1 ⟨rfl, hb1⟩
  go_wp2_with fail
  go_ret
  exact ⟨ret_bool (by cases k <;> rfl), hb1⟩
theorem implLogValid_any (A : Option Addr) (n c : Nat) (l : List Cmd) (w : World) (hn : n ≤ 140737488355328) (hl : l.length = n) (ha : At encK 5 w A l) (hz : ∀ q ∈ l, q.p.size ≤ 1048576) (hm : MaxAt w) :
    Calls Tryd.prog 39 #[.slice A n c] w fun e w' => e = .returned (.bool (okLog l)) ∧ Below w.heap.size w w' := by
  have HO := Lib.hid (show okLog l = (l.all okCmd && decide (n ≤ 20)) by unfold okLog; rw [hl])
  by_cases h20 : n ≤ 20
  · obtain ⟨k, hk⟩ : ∃ k, l.all okCmd = k := ⟨_, rfl⟩
    have HK := Lib.hid hk
    clear hk
    go_enter Tryd.func39, Tryd.ntmps39
    go_wp2_with fail
    refine (implAllValid_any A n c l _ hn hl ha hz hm).mono ?_
    rw [HK.out]
    rintro e w1 ⟨rfl, hb1⟩
    go_wp2_with fail
    go_ret
    exact ⟨ret_bool (by rw [HO.out, HK.out, decide_eq_true h20]; simp), hb1⟩
  · go_enter Tryd.func39, Tryd.ntmps39
    go_wp2_with fail
    go_ret
    exact ⟨ret_bool (by rw [HO.out, decide_eq_false h20]; simp), Below.refl _ _⟩

end Go.Proofs.YthcfjiapmigjiaaDoor
