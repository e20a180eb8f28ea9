/- Canonical logs, by both texts; the walk of the law on them. -/
import Derived.Test.YtkbebgpafjopnaaDoorCanon
import Derived.Deep.RegionHeld3
import Derived.Deep.RegionWith
namespace Go.Proofs.YtkbebgpafjopnaaDoor
open Go.RowKit
set_option linter.unusedVariables false
set_option linter.unusedSimpArgs false
set_option maxRecDepth 20000

def befC (p q : Cmd) : Bool := befB p.p.toList p.x p.z q.p.toList q.x q.z
/-- The log ascends up to n. -/
def SortP (l : List Cmd) (n : Nat) : Prop := ∀ m, m + 1 < n → ∀ p q, l[m]? = some p → l[m + 1]? = some q → befC p q = true
def SortN (l : List Cmd) (a n : Nat) : Prop := ∀ m, a ≤ m → m + 1 < n → ∀ p q, l[m]? = some p → l[m + 1]? = some q → befC q p = false
theorem SortP.next {l : List Cmd} {m : Nat} (h : SortP l (m + 1)) {p q : Cmd} (hp : l[m]? = some p) (hq : l[m + 1]? = some q) (hb : befC p q = true) : SortP l (m + 1 + 1) := by
  intro j hj p' q' hp' hq'
  by_cases hjm : j = m
  · subst hjm; rw [hp] at hp'; rw [hq] at hq'; injection hp' with hp'; injection hq' with hq'; subst hp' hq'; exact hb
  · exact h j (by omega) p' q' hp' hq'
theorem SortN.next {l : List Cmd} {m n : Nat} (h : SortN l (m + 1) n) {p q : Cmd} (hp : l[m]? = some p) (hq : l[m + 1]? = some q) (hb : befC q p = false) : SortN l m n := by
  intro j hj1 hj p' q' hp' hq'
  by_cases hjm : j = m
  · subst hjm; rw [hp] at hp'; rw [hq] at hq'; injection hp' with hp'; injection hq' with hq'; subst hp' hq'; exact hb
  · exact h j (by omega) hj p' q' hp' hq'
theorem sort_iff {l : List Cmd} {n : Nat} (ho : OnceP l n) : SortN l 0 n ↔ SortP l n := by
  have key : ∀ m, m + 1 < n → ∀ p q, l[m]? = some p → l[m + 1]? = some q → befC q p = !befC p q := fun m hm p q hp hq =>
    befB_total (by
      intro e
      have h1 := ho (m + 1) hm q hq m (by omega) p hp
      rw [toList_is rfl, toList_is (s := q.p) rfl] at e
      exact h1 e) _ _ _ _
  constructor
  · intro h m hm p q hp hq
    have h1 := h m (Nat.zero_le _) hm p q hp hq
    rw [key m hm p q hp hq] at h1
    simpa using h1
  · intro h m _ hm p q hp hq
    rw [key m hm p q hp hq, h m hm p q hp hq]; rfl
def CanonP (l : List Cmd) (n : Nat) : Prop := (SortP l n ∧ OnceP l n) ∧ okLog l = true

set_option maxHeartbeats 4000000 in
theorem specCanonValid_any (A : Option Addr) (n c : Nat) (l : List Cmd) (w : World) (hn : n ≤ 140737488355328) (hl : l.length = n) (ha : At encK 5 w A l) (hz : ∀ q ∈ l, q.p.size ≤ 1048576) :
    Calls Tryd.prog 32 #[.slice A n c] w (Tells (CanonP l n) w) := by
  obtain ⟨i0, hi, hz0, hz1, hz2⟩ := info_parts infoK
  have HL := Lib.hid hl
  clear hl
  go_enter Tryd.func32, Tryd.ntmps32
  go_wp2_with fail
  go_loopw [3] (fun i wr => ∃ m : Nat, i = .int .i64 ((m + 1 : Nat) : Int) ∧ (m + 1 ≤ n ∨ m = 0) ∧ Hid (SortP l (m + 1) ∧ OnceP l (m + 1)) ∧ Below w.heap.size w wr) (fun i _ => n - (intOf i).toNat)
  case atStart => exact ⟨0, rfl, .inr rfl, Lib.hid ⟨fun j hj => by omega, fun j hj q hq i hi => by omega⟩, Below.refl _ _⟩
  case round =>
    obtain ⟨m, rfl, hm, HN, hbw⟩ := hrel
    obtain ⟨k, hk⟩ : ∃ k, m + 1 = k := ⟨_, rfl⟩
    have HKM := Lib.hid hk
    rw [hk] at HN hm ⊢
    by_cases hlt : k < n
    · have hlk : k < l.length := by rw [HL.out]; exact hlt
      have hlm : m < l.length := by omega
      have HA := Lib.hid (ha.addr (by omega))
      have hidx := fun W => run_index_any (c := c) Tryd.underlying24 hi hz1 HA.out hlt W
      have hidx2 := fun W => run_index_any (c := c) Tryd.underlying24 hi hz1 HA.out (show m < n by omega) W
      have hwr : IntKind.i64.wrap ((k : Int) - 1) = (m : Int) := by rw [IntWalk.i64_in _ (by omega)]; omega
      obtain ⟨p, hp⟩ : ∃ p, l[m] = p := ⟨_, rfl⟩
      obtain ⟨q, hq⟩ : ∃ q, l[k] = q := ⟨_, rfl⟩
      have HP := Lib.hid (show l[m]? = some p by rw [List.getElem?_eq_getElem hlm, hp])
      have HQ := Lib.hid (show l[k]? = some q by rw [List.getElem?_eq_getElem hlk, hq])
      obtain ⟨c0, c1, c2, c3, c4⟩ := at5 (ha.belowS hbw) hlm hp
      obtain ⟨d0, d1, d2, d3, d4⟩ := at5 (ha.belowS hbw) hlk hq
      have c0' : wr.drew.cell? ⟨blk A, off A + m * 5, none⟩ = _ := c0
      have c1' : wr.drew.cell? ⟨blk A, off A + m * 5 + 1, none⟩ = _ := c1
      have c2' : wr.drew.cell? ⟨blk A, off A + m * 5 + 2, none⟩ = _ := c2
      have c3' : wr.drew.cell? ⟨blk A, off A + m * 5 + 3, none⟩ = _ := c3
      have c4' : wr.drew.cell? ⟨blk A, off A + m * 5 + 4, none⟩ = _ := c4
      have d0' : wr.drew.cell? ⟨blk A, off A + k * 5, none⟩ = _ := d0
      have d1' : wr.drew.cell? ⟨blk A, off A + k * 5 + 1, none⟩ = _ := d1
      have d2' : wr.drew.cell? ⟨blk A, off A + k * 5 + 2, none⟩ = _ := d2
      have d3' : wr.drew.cell? ⟨blk A, off A + k * 5 + 3, none⟩ = _ := d3
      have d4' : wr.drew.cell? ⟨blk A, off A + k * 5 + 4, none⟩ = _ := d4
      obtain ⟨r, hr⟩ : ∃ r, befC p q = r := ⟨_, rfl⟩
      have HR := Lib.hid (show befB p.p.toList p.x p.z q.p.toList q.x q.z = r from hr)
      clear hp hq hr hk
      cases r with
      | false =>
        go_wp2_with fail
        first | (go_region_with (first | (go_at_call 64; refine (specBefore_any p.p p.x p.y p.z p.u q.p q.x q.y q.z q.u _).mono ?_; rw [HR.out]; rintro e w2 ⟨rfl, hb2⟩))) | fail
        all_goals
          have bw2 := below_step hbw.drew hb2
          go_wp2_with fail
          go_ret
          exact Tells.no (fun h => by have := h.1.1 m (by have := HKM.out; omega) p q HP.out (by rw [HKM.out]; exact HQ.out); rw [befC, HR.out] at this; cases this) bw2
      | true =>
        by_cases hN : NoneHas l k q.p.data.toList
        · have HNN := Lib.hid hN
          clear hN
          go_wp2_with fail
          first | (go_region_held3 (fun w' => w'.cell? ⟨blk A, off A + m * 5, none⟩ = some (.string p.p) ∧ w'.cell? ⟨blk A, off A + m * 5 + 1, none⟩ = some (.int .i64 p.x) ∧ w'.cell? ⟨blk A, off A + m * 5 + 2, none⟩ = some (.int .i64 p.y) ∧ w'.cell? ⟨blk A, off A + m * 5 + 3, none⟩ = some (.int .i64 p.z) ∧ w'.cell? ⟨blk A, off A + m * 5 + 4, none⟩ = some (.int .i64 p.u) ∧ w'.cell? ⟨blk A, off A + k * 5, none⟩ = some (.string q.p) ∧ w'.cell? ⟨blk A, off A + k * 5 + 1, none⟩ = some (.int .i64 q.x) ∧ w'.cell? ⟨blk A, off A + k * 5 + 2, none⟩ = some (.int .i64 q.y) ∧ w'.cell? ⟨blk A, off A + k * 5 + 3, none⟩ = some (.int .i64 q.z) ∧ w'.cell? ⟨blk A, off A + k * 5 + 4, none⟩ = some (.int .i64 q.u) ∧ Below w.heap.size w w')
          ((refine ⟨?_, ?_, ?_, ?_, ?_, ?_, ?_, ?_, ?_, ?_, ?_⟩ <;> repeat (first | assumption | exact hbw.drew | refine cell_later (by assumption) ?_ | refine below_step2 (by assumption) ?_)))
          (first
            | (go_at_call 64; refine (specBefore_any p.p p.x p.y p.z p.u q.p q.x q.y q.z q.u _).mono ?_; rw [HR.out]; rintro e w2 ⟨rfl, hb2⟩)
            | (go_at_call 40; refine (specFirst_any A n c k l q _ hn HL.out (ha.belowS (below_step hbw.drew hb2)) hlt HQ.out).mono ?_; rintro e w3 ⟨b, rfl, hbi, hb3⟩; obtain rfl : b = true := hbi.2 HNN.out; clear hbi))) | fail
          all_goals
            have bw3 := below_step (below_step hbw.drew hb2) hb3
            go_wp2_with fail
            go_roundw
            case rel =>
              have e := HKM.out
              subst e
              exact ⟨m + 1, by go_num, .inl (by omega), Lib.hid ⟨HN.out.1.next HP.out HQ.out (show befC p q = true from HR.out), HN.out.2.next HQ.out HNN.out⟩, bw3⟩
            case measure => simp [intOf]; omega
        · have HNN := Lib.hid hN
          clear hN
          go_wp2_with fail
          first | (go_region_held3 (fun w' => w'.cell? ⟨blk A, off A + m * 5, none⟩ = some (.string p.p) ∧ w'.cell? ⟨blk A, off A + m * 5 + 1, none⟩ = some (.int .i64 p.x) ∧ w'.cell? ⟨blk A, off A + m * 5 + 2, none⟩ = some (.int .i64 p.y) ∧ w'.cell? ⟨blk A, off A + m * 5 + 3, none⟩ = some (.int .i64 p.z) ∧ w'.cell? ⟨blk A, off A + m * 5 + 4, none⟩ = some (.int .i64 p.u) ∧ w'.cell? ⟨blk A, off A + k * 5, none⟩ = some (.string q.p) ∧ w'.cell? ⟨blk A, off A + k * 5 + 1, none⟩ = some (.int .i64 q.x) ∧ w'.cell? ⟨blk A, off A + k * 5 + 2, none⟩ = some (.int .i64 q.y) ∧ w'.cell? ⟨blk A, off A + k * 5 + 3, none⟩ = some (.int .i64 q.z) ∧ w'.cell? ⟨blk A, off A + k * 5 + 4, none⟩ = some (.int .i64 q.u) ∧ Below w.heap.size w w')
          ((refine ⟨?_, ?_, ?_, ?_, ?_, ?_, ?_, ?_, ?_, ?_, ?_⟩ <;> repeat (first | assumption | exact hbw.drew | refine cell_later (by assumption) ?_ | refine below_step2 (by assumption) ?_)))
          (first
            | (go_at_call 64; refine (specBefore_any p.p p.x p.y p.z p.u q.p q.x q.y q.z q.u _).mono ?_; rw [HR.out]; rintro e w2 ⟨rfl, hb2⟩)
            | (go_at_call 40; refine (specFirst_any A n c k l q _ hn HL.out (ha.belowS (below_step hbw.drew hb2)) hlt HQ.out).mono ?_; rintro e w3 ⟨b, rfl, hbi, hb3⟩; obtain rfl : b = false := (Bool.eq_false_iff.2 fun h => HNN.out (hbi.1 h)); clear hbi))) | fail
          all_goals
            have bw3 := below_step (below_step hbw.drew hb2) hb3
            go_wp2_with fail
            go_ret
            exact Tells.no (fun h => HNN.out (h.1.2 k hlt q HQ.out)) bw3
    · have hkn : n ≤ k := by omega
      have HS := Lib.hid (show SortP l n from fun j hj => HN.out.1 j (by omega))
      have HO := Lib.hid (show OnceP l n from fun j hj => HN.out.2 j (by omega))
      clear hk
      go_wp2_with fail
      refine (specLogValid_any A n c l _ hn HL.out (ha.belowS hbw) hz).mono ?_
      rintro e w1 ⟨rfl, hb1⟩
      have bw1 := below_step hbw hb1
      go_wp2_with fail
      go_ret
      exact ⟨_, rfl, ⟨fun h => ⟨⟨HS.out, HO.out⟩, h⟩, fun h => h.2⟩, bw1⟩
end Go.Proofs.YtkbebgpafjopnaaDoor
