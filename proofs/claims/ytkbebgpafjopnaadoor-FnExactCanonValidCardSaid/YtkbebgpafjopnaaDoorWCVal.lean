/- Canonical logs, by the program; the walk of the law on them. -/
import Derived.Test.YtkbebgpafjopnaaDoorCVal
import Derived.Deep.RegionHeld3
namespace Go.Proofs.YtkbebgpafjopnaaDoor
open Go.RowKit
set_option linter.unusedVariables false
set_option linter.unusedSimpArgs false
set_option maxRecDepth 20000

set_option maxHeartbeats 4000000 in
theorem implSorted_any (A : Option Addr) (n c : Nat) (l : List Cmd) (w : World) (hn : n ≤ 140737488355328) (hl : l.length = n) (ha : At encK 5 w A l) :
    Calls Tryd.prog 65 #[.slice A n c, .func (.func 47) #[] #[]] w (Tells (SortN l 0 n) w) := by
  obtain ⟨i0, hi, hz0, hz1, hz2⟩ := info_parts infoK
  have HL := Lib.hid hl
  clear hl
  by_cases h0 : n = 0
  · subst h0
    go_enter Tryd.func65, Tryd.ntmps65
    go_wp2_with fail
    go_loopw [5] (fun i wr => i = .int .i64 (-1) ∧ Below w.heap.size w wr) (fun i _ => 0)
    case atStart => exact ⟨rfl, Below.refl _ _⟩
    case round =>
      obtain ⟨rfl, hbw⟩ := hrel
      go_wp2_with fail
      go_ret
      exact Tells.yes (fun m _ hm => by omega) hbw
  go_enter Tryd.func65, Tryd.ntmps65
  go_wp2_with fail
  go_loopw [5] (fun i wr => ∃ j : Nat, i = .int .i64 j ∧ j + 1 ≤ n ∧ Hid (SortN l j n) ∧ Below w.heap.size w wr) (fun i _ => (intOf i).toNat)
  case atStart => exact ⟨n - 1, by congr 1; first | omega | (rw [IntWalk.i64_in _ (by omega)]; omega), by omega, Lib.hid (fun m h1 h2 => by omega), Below.refl _ _⟩
  case round =>
    obtain ⟨j, rfl, hj, HN, hbw⟩ := hrel
    by_cases hlt : 0 < j
    · obtain ⟨m, hm⟩ : ∃ m, m + 1 = j := ⟨j - 1, by omega⟩
      have HM := Lib.hid hm
      have hlj : j < l.length := by rw [HL.out]; omega
      have hlm : m < l.length := by omega
      have HA := Lib.hid (ha.addr (by omega))
      have hidx := fun W => run_index_any (c := c) Tryd.underlying24 hi hz1 HA.out (show j < n by omega) W
      have hidx2 := fun W => run_index_any (c := c) Tryd.underlying24 hi hz1 HA.out (show m < n by omega) W
      have hwr : IntKind.i64.wrap ((j : Int) - 1) = (m : Int) := by rw [IntWalk.i64_in _ (by omega)]; omega
      obtain ⟨p, hp⟩ : ∃ p, l[m] = p := ⟨_, rfl⟩
      obtain ⟨q, hq⟩ : ∃ q, l[j] = q := ⟨_, rfl⟩
      have HP := Lib.hid (show l[m]? = some p by rw [List.getElem?_eq_getElem hlm, hp])
      have HQ := Lib.hid (show l[m + 1]? = some q by rw [hm, List.getElem?_eq_getElem hlj, hq])
      obtain ⟨c0, c1, c2, c3, c4⟩ := at5 (ha.belowS hbw) hlj hq
      obtain ⟨d0, d1, d2, d3, d4⟩ := at5 (ha.belowS hbw) hlm hp
      have c0' : wr.drew.cell? ⟨blk A, off A + j * 5, none⟩ = _ := c0
      have c1' : wr.drew.cell? ⟨blk A, off A + j * 5 + 1, none⟩ = _ := c1
      have c2' : wr.drew.cell? ⟨blk A, off A + j * 5 + 2, none⟩ = _ := c2
      have c3' : wr.drew.cell? ⟨blk A, off A + j * 5 + 3, none⟩ = _ := c3
      have c4' : wr.drew.cell? ⟨blk A, off A + j * 5 + 4, none⟩ = _ := c4
      have d0' : wr.drew.cell? ⟨blk A, off A + m * 5, none⟩ = _ := d0
      have d1' : wr.drew.cell? ⟨blk A, off A + m * 5 + 1, none⟩ = _ := d1
      have d2' : wr.drew.cell? ⟨blk A, off A + m * 5 + 2, none⟩ = _ := d2
      have d3' : wr.drew.cell? ⟨blk A, off A + m * 5 + 3, none⟩ = _ := d3
      have d4' : wr.drew.cell? ⟨blk A, off A + m * 5 + 4, none⟩ = _ := d4
      obtain ⟨r, hr⟩ : ∃ r, befC q p = r := ⟨_, rfl⟩
      have HR := Lib.hid (show befB q.p.toList q.x q.z p.p.toList p.x p.z = r from hr)
      clear hp hq hr hm
      cases r with
      | false =>
        go_wp2_with fail
        first | (go_region_held3 (fun w' => w'.cell? ⟨blk A, off A + j * 5, none⟩ = some (.string q.p) ∧ w'.cell? ⟨blk A, off A + j * 5 + 1, none⟩ = some (.int .i64 q.x) ∧ w'.cell? ⟨blk A, off A + j * 5 + 2, none⟩ = some (.int .i64 q.y) ∧ w'.cell? ⟨blk A, off A + j * 5 + 3, none⟩ = some (.int .i64 q.z) ∧ w'.cell? ⟨blk A, off A + j * 5 + 4, none⟩ = some (.int .i64 q.u) ∧ w'.cell? ⟨blk A, off A + m * 5, none⟩ = some (.string p.p) ∧ w'.cell? ⟨blk A, off A + m * 5 + 1, none⟩ = some (.int .i64 p.x) ∧ w'.cell? ⟨blk A, off A + m * 5 + 2, none⟩ = some (.int .i64 p.y) ∧ w'.cell? ⟨blk A, off A + m * 5 + 3, none⟩ = some (.int .i64 p.z) ∧ w'.cell? ⟨blk A, off A + m * 5 + 4, none⟩ = some (.int .i64 p.u) ∧ Below w.heap.size w w')
          ((refine ⟨?_, ?_, ?_, ?_, ?_, ?_, ?_, ?_, ?_, ?_, ?_⟩ <;> repeat (first | assumption | exact hbw.drew | refine cell_later (by assumption) ?_ | refine below_step2 (by assumption) ?_)))
          (first | (go_at_call 47; refine (implBefore_any q.p q.x q.y q.z q.u p.p p.x p.y p.z p.u _).mono ?_; rw [HR.out]; rintro e w2 ⟨⟨v, rfl, hv⟩, hb2⟩))) | fail
        all_goals
          have bw2 := below_step hbw.drew hb2
          go_wp2_with fail
          go_roundw
          case rel =>
            have e := HN.out
            rw [← HM.out] at e
            exact ⟨m, by first | rfl | (rw [hwr]; done) | (congr 1; done), by have := HM.out; omega, Lib.hid (e.next HP.out HQ.out (show befC q p = false from HR.out)), bw2⟩
          case measure =>
            have e := HM.out
            simp [intOf, hwr]; omega
      | true =>
        go_wp2_with fail
        first | (go_region_held3 (fun w' => w'.cell? ⟨blk A, off A + j * 5, none⟩ = some (.string q.p) ∧ w'.cell? ⟨blk A, off A + j * 5 + 1, none⟩ = some (.int .i64 q.x) ∧ w'.cell? ⟨blk A, off A + j * 5 + 2, none⟩ = some (.int .i64 q.y) ∧ w'.cell? ⟨blk A, off A + j * 5 + 3, none⟩ = some (.int .i64 q.z) ∧ w'.cell? ⟨blk A, off A + j * 5 + 4, none⟩ = some (.int .i64 q.u) ∧ w'.cell? ⟨blk A, off A + m * 5, none⟩ = some (.string p.p) ∧ w'.cell? ⟨blk A, off A + m * 5 + 1, none⟩ = some (.int .i64 p.x) ∧ w'.cell? ⟨blk A, off A + m * 5 + 2, none⟩ = some (.int .i64 p.y) ∧ w'.cell? ⟨blk A, off A + m * 5 + 3, none⟩ = some (.int .i64 p.z) ∧ w'.cell? ⟨blk A, off A + m * 5 + 4, none⟩ = some (.int .i64 p.u) ∧ Below w.heap.size w w')
          ((refine ⟨?_, ?_, ?_, ?_, ?_, ?_, ?_, ?_, ?_, ?_, ?_⟩ <;> repeat (first | assumption | exact hbw.drew | refine cell_later (by assumption) ?_ | refine below_step2 (by assumption) ?_)))
          (first | (go_at_call 47; refine (implBefore_any q.p q.x q.y q.z q.u p.p p.x p.y p.z p.u _).mono ?_; rw [HR.out]; rintro e w2 ⟨⟨v, rfl, hv⟩, hb2⟩))) | fail
        all_goals
          have bw2 := below_step hbw.drew hb2
          go_wp2_with fail
          go_ret
          exact Tells.no (fun h => by have := h m (Nat.zero_le _) (by have := HM.out; omega) p q HP.out HQ.out; rw [befC, HR.out] at this; cases this) bw2
    · obtain rfl : j = 0 := by omega
      go_wp2_with fail
      go_ret
      exact Tells.yes HN.out hbw

theorem implCanonValid_any (A : Option Addr) (n c : Nat) (l : List Cmd) (w : World) (hn : n ≤ 140737488355328) (hl : l.length = n) (ha : At encK 5 w A l) (hz : ∀ q ∈ l, q.p.size ≤ 1048576) (hm : MaxAt w) :
    Calls Tryd.prog 33 #[.slice A n c] w (Tells (CanonP l n) w) := by
  have HM := Lib.hid hm
  clear hm
  cases hk : okLog l with
  | false =>
    have HK := Lib.hid hk
    clear hk
    go_enter Tryd.func33, Tryd.ntmps33
    go_wp2_with fail
    refine (implLogValid_any A n c l _ hn hl ha hz HM.out).mono ?_
    rw [HK.out]
    rintro e w1 ⟨rfl, hb1⟩
    go_wp2_with fail
    go_ret
    exact Tells.no (fun h => by have := HK.out.symm.trans h.2; cases this) hb1
  | true =>
    have HK := Lib.hid hk
    clear hk
    go_enter Tryd.func33, Tryd.ntmps33
    go_wp2_with fail
    refine (implLogValid_any A n c l _ hn hl ha hz HM.out).mono ?_
    rw [HK.out]
    rintro e w1 ⟨rfl, hb1⟩
    go_wp2_with fail
    refine (implOnce_any A n c l _ hn hl (ha.belowS hb1) hz).mono ?_
    rintro e w2 ⟨b, rfl, hb, hb2⟩
    have bw2 := below_step hb1 hb2
    have HB := Lib.hid hb
    clear hb
    cases b with
    | false =>
      go_wp2_with fail
      go_ret
      exact Tells.no (fun h => by have := HB.out.2 h.1.2; cases this) bw2
    | true =>
      have HO := Lib.hid (HB.out.1 (by first | rfl | trivial))
      go_wp2_with fail
      refine (implSorted_any A n c l _ hn hl (ha.belowS bw2)).mono ?_
      rintro e w3 ⟨b2, rfl, hb3, hbb⟩
      have HB2 := Lib.hid (hb3.trans (sort_iff HO.out))
      clear hb3
      go_wp2_with fail
      go_ret
      exact ⟨b2, rfl, ⟨fun h => ⟨⟨HB2.out.1 h, HO.out⟩, HK.out⟩, fun h => HB2.out.2 h.1.1⟩, below_step bw2 hbb⟩

set_option maxHeartbeats 2000000 in
theorem walk_FnExactCanonValid (A : Option Addr) (n c : Nat) (l : List Cmd) (hl : l.length = n) (hnc : n ≤ c) (hcm : c ≤ maxLen) (w : World) (ha : At encK 5 w A l) (hw : ∀ q ∈ l, q.wf) (hm : MaxAt w) :
    Calls Tryd.prog 9 #[.slice A n c] w fun e w' => e = .returned (.bool true) ∧ Below w.heap.size w w' := by
  have HM := Lib.hid hm
  have HL := Lib.hid hl
  clear hm
  go_enter Tryd.func9, Tryd.ntmps9
  go_wp2_with fail
  refine (szCommandS_any A n c l 1048576 _ hl (Nat.le_trans hnc hcm) ha hw (by omega) (by omega)).mono ?_
  rintro e w1 ⟨r, rfl, hr, hb1⟩
  rcases hr with hr | ⟨hr0, hrn, hrz⟩
  · have hd : decide (r < 0) = true := decide_eq_true hr
    clear hl
    go_wp2_with fail
    go_ret
    exact ⟨rfl, hb1⟩
  have hd : decide (r < 0) = false := decide_eq_false (by omega)
  have hn : n ≤ 1048576 := by omega
  have hz : ∀ q ∈ l, q.p.size ≤ 1048576 := fun q hq => by have := hrz q hq; omega
  have HM1 := Lib.hid (HM.out.belowS hb1)
  clear hrn hrz hl
  go_wp2_with fail
  refine (toCommandS_any A n c l _ (by omega) HL.out (ha.belowS hb1)).mono ?_
  rintro e w2 ⟨g1, rfl, ho1, hb2⟩
  have bw2 := below_step hb1 hb2
  have at1 := own_at encK_len ho1 HL.out
  have HM2 := Lib.hid (HM1.out.belowS hb2)
  clear ho1
  go_wp2_with fail
  refine (specCanonValid_any _ n n l _ (by omega) HL.out at1 hz).mono ?_
  rintro e w3 ⟨k, rfl, hk, hb3⟩
  have HK := Lib.hid hk
  have bw3 := below_step bw2 hb3
  have HM3 := Lib.hid (HM2.out.belowS hb3)
  clear hk at1
  go_wp2_with fail
  refine (toCommandS_any A n c l _ (by omega) HL.out (ha.belowS bw3)).mono ?_
  rintro e w4 ⟨g2, rfl, ho2, hb4⟩
  have bw4 := below_step bw3 hb4
  have at2 := own_at encK_len ho2 HL.out
  have HM4 := Lib.hid (HM3.out.belowS hb4)
  clear ho2
  go_wp2_with fail
  refine (implCanonValid_any _ n n l _ (by omega) HL.out at2 hz HM4.out).mono ?_
  rintro e w5 ⟨k', rfl, hk', hb5⟩
  obtain rfl := same_tells hk' HK.out
  clear hk'
  have bw5 := below_step bw4 hb5
  have at3 := at2.belowS hb5
  have hkk : (k' != k') = false := by simp
  clear at2
  go_wp2_with fail
  refine (toCommandS_any A n c l _ (by omega) HL.out (ha.belowS bw5)).mono ?_
  rintro e w6 ⟨g3, rfl, ho3, hb6⟩
  have bw6 := below_step bw5 hb6
  have at4 := own_at encK_len ho3 HL.out
  have at5' := at3.belowS hb6
  clear ho3 at3
  go_wp2_with fail
  refine (eqCommandS_same _ n n _ n l _ (by omega) HL.out at5' at4).mono ?_
  rintro e w7 ⟨rfl, hb7⟩
  have bw7 := below_step bw6 hb7
  go_wp2_with fail
  go_ret
  exact ⟨rfl, bw7⟩
end Go.Proofs.YtkbebgpafjopnaaDoor
