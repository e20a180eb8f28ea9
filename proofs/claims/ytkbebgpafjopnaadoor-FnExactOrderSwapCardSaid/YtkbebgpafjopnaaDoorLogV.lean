/- Valid logs, by both texts; the walk of the law on them. -/
import Derived.Test.YtkbebgpafjopnaaDoorCmdS
namespace Go.Proofs.YtkbebgpafjopnaaDoor
open Go.RowKit
set_option linter.unusedVariables false
set_option linter.unusedSimpArgs false
set_option maxRecDepth 20000

def okCmd (q : Cmd) : Bool := okK q.p.data.toList q.x q.y q.z q.u
/-- A log is valid. -/
def okLog (l : List Cmd) : Bool := l.all okCmd && decide (l.length ≤ 20)
theorem take_all {l : List Cmd} {k : Nat} (hk : k < l.length) (h : (l.take k).all okCmd = true) (h1 : okCmd l[k] = true) : (l.take (k + 1)).all okCmd = true := by
  rw [take_snoc' l k hk, List.all_append, h]; simp [h1]
theorem all_no {l : List Cmd} {k : Nat} (hk : k < l.length) (h1 : okCmd l[k] = false) : l.all okCmd = false := by
  rw [List.all_eq_false]; exact ⟨_, List.getElem_mem hk, by rw [h1]; simp⟩

set_option maxHeartbeats 1000000 in
theorem specLogValid_any (A : Option Addr) (n c : Nat) (l : List Cmd) (w : World) (hn : n ≤ 140737488355328) (hl : l.length = n) (ha : At encK 5 w A l) (hz : ∀ q ∈ l, q.p.size ≤ 1048576) :
    Calls Tryd.prog 28 #[.slice A n c] w fun e w' => e = .returned (.bool (okLog l)) ∧ Below w.heap.size w w' := by
  obtain ⟨i0, hi, hz0, hz1, hz2⟩ := info_parts infoK
  have HL := Lib.hid hl
  clear hl
  go_enter Tryd.func28, Tryd.ntmps28
  go_wp2_with fail
  go_loopw [3] (fun i wr => ∃ k : Nat, i = .int .i64 k ∧ k ≤ n ∧ Hid ((l.take k).all okCmd = true) ∧ Below w.heap.size w wr) (fun i _ => n - (intOf i).toNat)
  case atStart => exact ⟨0, rfl, Nat.zero_le _, Lib.hid rfl, Below.refl _ _⟩
  case round =>
    obtain ⟨k, rfl, hk, HA, hbw⟩ := hrel
    by_cases hlt : k < n
    · have hlk : k < l.length := by rw [HL.out]; exact hlt
      have hidx := fun W => run_index_any (c := c) Tryd.underlying24 hi hz1 (ha.addr (by rw [HL.out]; omega)) hlt W
      obtain ⟨q, hq⟩ : ∃ q, l[k] = q := ⟨_, rfl⟩
      have hqz : q.p.size ≤ 1048576 := hz q (hq ▸ List.getElem_mem _)
      obtain ⟨c0, c1, c2, c3, c4⟩ := at5 (ha.belowS hbw) hlk hq
      cases hok : okCmd q with
      | true =>
        have HK := Lib.hid (show okK q.p.data.toList q.x q.y q.z q.u = true from hok)
        have HN := Lib.hid (take_all hlk HA.out (by rw [hq]; exact hok))
        clear hok hq
        go_wp2_with fail
        refine (specCommandValid_any q.p q.x q.y q.z q.u _ hqz).mono ?_
        rw [HK.out]
        rintro e w1 ⟨rfl, hb1⟩
        have bw1 := below_step hbw hb1
        go_wp2_with fail
        go_roundw
        case rel => exact ⟨k + 1, by go_num, by omega, HN, bw1⟩
        case measure => simp [intOf]; omega
      | false =>
        have HK := Lib.hid (show okK q.p.data.toList q.x q.y q.z q.u = false from hok)
        have HN := Lib.hid (all_no hlk (by rw [hq]; exact hok))
        clear hok hq
        go_wp2_with fail
        refine (specCommandValid_any q.p q.x q.y q.z q.u _ hqz).mono ?_
        rw [HK.out]
        rintro e w1 ⟨rfl, hb1⟩
        have bw1 := below_step hbw hb1
        go_wp2_with fail
        go_ret
        exact ⟨ret_bool (by unfold okLog; rw [HN.out]; rfl), bw1⟩
    · obtain rfl : n = k := by omega
      have hall := HA.out
      rw [List.take_of_length_le (by rw [HL.out]; exact Nat.le_refl _)] at hall
      have HN := Lib.hid hall
      clear hall
      go_wp2_with fail
      go_ret
      refine ⟨ret_bool ?_, hbw⟩
      unfold okLog
      rw [HN.out, HL.out, Bool.eq_iff_iff]; simp; omega

theorem implNot_any (q : Cmd) (w : World) (hs : q.p.size ≤ 1048576) (hm : MaxAt w) :
    Calls Tryd.prog 89 #[.agg #[.string q.p, .int .i64 q.x, .int .i64 q.y, .int .i64 q.z, .int .i64 q.u]] w fun e w' => e = .returned (.bool (!okCmd q)) ∧ Below w.heap.size w w' := by
  have HM := Lib.hid (hm.belowS ((Below.refl w.heap.size w).alloc (Nat.le_refl _) (.cells #[.string q.p, .int .i64 q.x, .int .i64 q.y, .int .i64 q.z, .int .i64 q.u] 41)))
  have bw0 := below_alloc (Below.refl w.heap.size w) (.cells #[.string q.p, .int .i64 q.x, .int .i64 q.y, .int .i64 q.z, .int .i64 q.u] 41)
  obtain ⟨k, hk⟩ : ∃ k, okCmd q = k := ⟨_, rfl⟩
  have HK := Lib.hid (show okK q.p.data.toList q.x q.y q.z q.u = k from hk)
  rw [hk]
  clear hk hm
  cases k
  all_goals
    go_enter Tryd.func89, Tryd.ntmps89
    go_wp2_with fail
    refine (implCommandValid_any q.p q.x q.y q.z q.u _ hs HM.out).mono ?_
    rw [HK.out]
    rintro e w1 ⟨rfl, hb1⟩
    have bw1 := below_step bw0 hb1
    go_wp2_with fail
    go_ret
    exact ⟨rfl, bw1⟩

set_option maxHeartbeats 1000000 in
theorem indexNot_any (A : Option Addr) (n c : Nat) (l : List Cmd) (w : World) (hn : n ≤ 140737488355328) (hl : l.length = n) (ha : At encK 5 w A l) (hz : ∀ q ∈ l, q.p.size ≤ 1048576) (hm : MaxAt w) :
    Calls Tryd.prog 42 #[.slice A n c, .func (.func 89) #[] #[]] w fun e w' => (∃ r : Int, e = .returned (.int .i64 r) ∧ decide (0 ≤ r) = !l.all okCmd) ∧ Below w.heap.size w w' := by
  obtain ⟨i0, hi, hz0, hz1, hz2⟩ := info_parts infoK
  have HL := Lib.hid hl
  have HM := Lib.hid hm
  clear hl hm
  go_enter Tryd.func42, Tryd.ntmps42
  go_wp2_with fail
  go_loopw [8] (fun i wr => ∃ k : Nat, i = .int .i64 k ∧ k ≤ n ∧ Hid ((l.take k).all okCmd = true) ∧ Below w.heap.size w wr) (fun i _ => n - (intOf i).toNat)
  case atStart => exact ⟨0, rfl, Nat.zero_le _, Lib.hid rfl, Below.refl _ _⟩
  case round =>
    obtain ⟨k, rfl, hk, HA, hbw⟩ := hrel
    by_cases hlt : k < n
    · have hlk : k < l.length := by rw [HL.out]; exact hlt
      have hidx := fun W => run_index_any (c := c) Tryd.underlying24 hi hz1 (ha.addr (by rw [HL.out]; omega)) hlt W
      obtain ⟨q, hq⟩ : ∃ q, l[k] = q := ⟨_, rfl⟩
      have hqz : q.p.size ≤ 1048576 := hz q (hq ▸ List.getElem_mem _)
      obtain ⟨c0, c1, c2, c3, c4⟩ := at5 (ha.belowS hbw) hlk hq
      cases hok : okCmd q with
      | true =>
        have HK := Lib.hid hok
        have HN := Lib.hid (take_all hlk HA.out (by rw [hq]; exact hok))
        clear hok hq
        go_wp2_with fail
        refine (implNot_any q _ hqz (HM.out.belowS hbw)).mono ?_
        rw [HK.out]
        rintro e w1 ⟨rfl, hb1⟩
        have bw1 := below_step hbw hb1
        go_wp2_with fail
        go_roundw
        case rel => exact ⟨k + 1, by go_num, by omega, HN, bw1⟩
        case measure => simp [intOf]; omega
      | false =>
        have HK := Lib.hid hok
        have HN := Lib.hid (all_no hlk (by rw [hq]; exact hok))
        clear hok hq
        go_wp2_with fail
        refine (implNot_any q _ hqz (HM.out.belowS hbw)).mono ?_
        rw [HK.out]
        rintro e w1 ⟨rfl, hb1⟩
        have bw1 := below_step hbw hb1
        go_wp2_with fail
        go_ret
        exact ⟨⟨_, rfl, by rw [HN.out]; simp⟩, bw1⟩
    · obtain rfl : n = k := by omega
      have hall := HA.out
      rw [List.take_of_length_le (by rw [HL.out]; exact Nat.le_refl _)] at hall
      have HN := Lib.hid hall
      clear hall
      go_wp2_with fail
      go_ret
      exact ⟨⟨-1, rfl, by rw [HN.out]; rfl⟩, hbw⟩
theorem containsNot_any (A : Option Addr) (n c : Nat) (l : List Cmd) (w : World) (hn : n ≤ 140737488355328) (hl : l.length = n) (ha : At encK 5 w A l) (hz : ∀ q ∈ l, q.p.size ≤ 1048576) (hm : MaxAt w) :
    Calls Tryd.prog 88 #[.slice A n c, .func (.func 89) #[] #[]] w fun e w' => e = .returned (.bool (!l.all okCmd)) ∧ Below w.heap.size w w' := by
  go_enter Tryd.func88, Tryd.ntmps88
  go_wp2_with fail
  refine (indexNot_any A n c l _ hn hl ha hz hm).mono ?_
  rintro e w1 ⟨⟨r, rfl, hr⟩, hb1⟩
  have HR := Lib.hid hr
  clear hr
  go_wp2_with fail
  go_ret
  exact ⟨ret_bool HR.out, hb1⟩
theorem implAllValid_any (A : Option Addr) (n c : Nat) (l : List Cmd) (w : World) (hn : n ≤ 140737488355328) (hl : l.length = n) (ha : At encK 5 w A l) (hz : ∀ q ∈ l, q.p.size ≤ 1048576) (hm : MaxAt w) :
    Calls Tryd.prog 59 #[.slice A n c] w fun e w' => e = .returned (.bool (l.all okCmd)) ∧ Below w.heap.size w w' := by
  obtain ⟨k, hk⟩ : ∃ k, l.all okCmd = k := ⟨_, rfl⟩
  have HK := Lib.hid hk
  rw [hk]
  clear hk
  go_enter Tryd.func59, Tryd.ntmps59
  go_wp2_with fail
  refine (containsNot_any A n c l _ hn hl ha hz hm).mono ?_
  rw [HK.out]
  rintro e w1 ⟨rfl, hb1⟩
  go_wp2_with fail
  go_ret
  exact ⟨ret_bool (by cases k <;> rfl), hb1⟩
theorem implLogValid_any (A : Option Addr) (n c : Nat) (l : List Cmd) (w : World) (hn : n ≤ 140737488355328) (hl : l.length = n) (ha : At encK 5 w A l) (hz : ∀ q ∈ l, q.p.size ≤ 1048576) (hm : MaxAt w) :
    Calls Tryd.prog 29 #[.slice A n c] w fun e w' => e = .returned (.bool (okLog l)) ∧ Below w.heap.size w w' := by
  have HO := Lib.hid (show okLog l = (l.all okCmd && decide (n ≤ 20)) by unfold okLog; rw [hl])
  by_cases h20 : n ≤ 20
  · obtain ⟨k, hk⟩ : ∃ k, l.all okCmd = k := ⟨_, rfl⟩
    have HK := Lib.hid hk
    clear hk
    go_enter Tryd.func29, Tryd.ntmps29
    go_wp2_with fail
    refine (implAllValid_any A n c l _ hn hl ha hz hm).mono ?_
    rw [HK.out]
    rintro e w1 ⟨rfl, hb1⟩
    go_wp2_with fail
    go_ret
    exact ⟨ret_bool (by rw [HO.out, HK.out, decide_eq_true h20]; simp), hb1⟩
  · go_enter Tryd.func29, Tryd.ntmps29
    go_wp2_with fail
    go_ret
    exact ⟨ret_bool (by rw [HO.out, decide_eq_false h20]; simp), Below.refl _ _⟩

set_option maxHeartbeats 2000000 in
theorem walk_FnExactLogValid (A : Option Addr) (n c : Nat) (l : List Cmd) (hl : l.length = n) (hnc : n ≤ c) (hcm : c ≤ maxLen) (w : World) (ha : At encK 5 w A l) (hw : ∀ q ∈ l, q.wf) (hm : MaxAt w) :
    Calls Tryd.prog 7 #[.slice A n c] w fun e w' => e = .returned (.bool true) ∧ Below w.heap.size w w' := by
  have HM := Lib.hid hm
  have HL := Lib.hid hl
  clear hm
  go_enter Tryd.func7, Tryd.ntmps7
  go_wp2_with fail
  refine (szCommandS_any A n c l 1048576 _ hl (Nat.le_trans hnc hcm) ha hw (by omega) (by omega)).mono ?_
  rintro e w1 ⟨r, rfl, hr, hb1⟩
  rcases hr with hr | ⟨hr0, hrn, hrz⟩
  · have hd : decide (r < 0) = true := decide_eq_true hr
    clear hl
    go_wp2_with fail
    go_ret
    exact ⟨rfl, hb1⟩
  have hd : decide (r < 0) = false := decide_eq_false (by omega)
  have hn : n ≤ 1048576 := by omega
  have hz : ∀ q ∈ l, q.p.size ≤ 1048576 := fun q hq => by have := hrz q hq; omega
  have HM1 := Lib.hid (HM.out.belowS hb1)
  clear hrn hrz hl
  go_wp2_with fail
  refine (toCommandS_any A n c l _ (by omega) HL.out (ha.belowS hb1)).mono ?_
  rintro e w2 ⟨g1, rfl, ho1, hb2⟩
  have bw2 := below_step hb1 hb2
  have at1 := own_at encK_len ho1 HL.out
  have HM2 := Lib.hid (HM1.out.belowS hb2)
  clear ho1
  go_wp2_with fail
  refine (specLogValid_any _ n n l _ (by omega) HL.out at1 hz).mono ?_
  rintro e w3 ⟨rfl, hb3⟩
  have bw3 := below_step bw2 hb3
  have HM3 := Lib.hid (HM2.out.belowS hb3)
  obtain ⟨k, hk⟩ : ∃ k, okLog l = k := ⟨_, rfl⟩
  have HK := Lib.hid hk
  rw [hk]
  clear hk at1
  go_wp2_with fail
  refine (toCommandS_any A n c l _ (by omega) HL.out (ha.belowS bw3)).mono ?_
  rintro e w4 ⟨g2, rfl, ho2, hb4⟩
  have bw4 := below_step bw3 hb4
  have at2 := own_at encK_len ho2 HL.out
  have HM4 := Lib.hid (HM3.out.belowS hb4)
  clear ho2
  go_wp2_with fail
  refine (implLogValid_any _ n n l _ (by omega) HL.out at2 hz HM4.out).mono ?_
  rw [HK.out]
  rintro e w5 ⟨rfl, hb5⟩
  have bw5 := below_step bw4 hb5
  have at3 := at2.belowS hb5
  have hkk : (k != k) = false := by simp
  clear at2
  go_wp2_with fail
  refine (toCommandS_any A n c l _ (by omega) HL.out (ha.belowS bw5)).mono ?_
  rintro e w6 ⟨g3, rfl, ho3, hb6⟩
  have bw6 := below_step bw5 hb6
  have at4 := own_at encK_len ho3 HL.out
  have at5' := at3.belowS hb6
  clear ho3 at3
  go_wp2_with fail
  refine (eqCommandS_same _ n n _ n l _ (by omega) HL.out at5' at4).mono ?_
  rintro e w7 ⟨rfl, hb7⟩
  have bw7 := below_step bw6 hb7
  go_wp2_with fail
  go_ret
  exact ⟨rfl, bw7⟩
end Go.Proofs.YtkbebgpafjopnaaDoor
