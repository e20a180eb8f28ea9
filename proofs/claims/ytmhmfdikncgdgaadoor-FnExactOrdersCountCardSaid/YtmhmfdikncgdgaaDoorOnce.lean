/- Each path once, and possible orders, by the reference. -/
import Derived.Test.YtmhmfdikncgdgaaDoorLogV
import Derived.Test.YtmhmfdikncgdgaaDoorPair
namespace Go.Proofs.YtmhmfdikncgdgaaDoor
open Go.RowKit
set_option linter.unusedVariables false
set_option linter.unusedSimpArgs false
set_option maxRecDepth 20000

/-- No command before k has this path. -/
def NoneHas (l : List Cmd) (k : Nat) (x : List UInt8) : Prop := ∀ j, j < k → ∀ p, l[j]? = some p → p.p.data.toList ≠ x
def OnceP (l : List Cmd) (n : Nat) : Prop := ∀ k, k < n → ∀ q, l[k]? = some q → NoneHas l k q.p.data.toList
def PossK (l : List Cmd) (i k : Nat) : Prop := ∀ j, j < k → ∀ p q, l[i]? = some p → l[j]? = some q → mustR p.p.data.toList q.p.data.toList p.z q.x = false
def PossP (l : List Cmd) (n : Nat) : Prop := ∀ i, i < n → PossK l i i
theorem NoneHas.next {l : List Cmd} {k : Nat} {x : List UInt8} (h : NoneHas l k x) {q : Cmd} (hq : l[k]? = some q) (hn : q.p.data.toList ≠ x) : NoneHas l (k + 1) x := by
  intro j hj p hp
  by_cases hjk : j = k
  · subst hjk; rw [hq] at hp; injection hp with hp; subst hp; exact hn
  · exact h j (by omega) p hp
theorem OnceP.next {l : List Cmd} {n : Nat} (h : OnceP l n) {q : Cmd} (hq : l[n]? = some q) (hn : NoneHas l n q.p.data.toList) : OnceP l (n + 1) := by
  intro j hj p hp
  by_cases hjk : j = n
  · subst hjk; rw [hq] at hp; injection hp with hp; subst hp; exact hn
  · exact h j (by omega) p hp
theorem PossK.next {l : List Cmd} {i k : Nat} (h : PossK l i k) {p q : Cmd} (hp : l[i]? = some p) (hq : l[k]? = some q) (hm : mustR p.p.data.toList q.p.data.toList p.z q.x = false) : PossK l i (k + 1) := by
  intro j hj p' q' hp' hq'
  by_cases hjk : j = k
  · subst hjk; rw [hq] at hq'; rw [hp] at hp'; injection hp' with hp'; injection hq' with hq'; subst hp' hq'; exact hm
  · exact h j (by omega) p' q' hp' hq'
theorem PossP.next {l : List Cmd} {n : Nat} (h : PossP l n) (hn : PossK l n n) : PossP l (n + 1) := by
  intro j hj
  by_cases hjk : j = n
  · subst hjk; exact hn
  · exact h j (by omega)

/-- A test that answers whether P holds. -/
def Tells (P : Prop) (w : World) (e : Ending) (w' : World) : Prop := ∃ b : Bool, e = .returned (.bool b) ∧ (b = true ↔ P) ∧ Below w.heap.size w w'
theorem Tells.yes {P : Prop} (h : P) {w w' : World} (hb : Below w.heap.size w w') : Tells P w (.returned (.bool true)) w' := ⟨true, rfl, by simp [h], hb⟩
theorem Tells.no {P : Prop} (h : ¬ P) {w w' : World} (hb : Below w.heap.size w w') : Tells P w (.returned (.bool false)) w' := ⟨false, rfl, by simp [h], hb⟩

set_option maxHeartbeats 1000000 in
theorem specFirst_any (A : Option Addr) (n c m : Nat) (l : List Cmd) (x : Cmd) (w : World) (hn : n ≤ 140737488355328) (hl : l.length = n) (ha : At encK 5 w A l) (hm : m < n) (hx : l[m]? = some x) :
    Calls Tryd.prog 22 #[.slice A n c, .int .i64 m] w (Tells (NoneHas l m x.p.data.toList) w) := by
  obtain ⟨i0, hi, hz0, hz1, hz2⟩ := info_parts infoK
  have HL := Lib.hid hl
  have HA := Lib.hid (ha.addr (by omega))
  have hidx2 := fun W => run_index_any (c := c) Tryd.underlying24 hi hz1 HA.out hm W
  have hxm : l[m]'(by omega) = x := by rw [List.getElem?_eq_getElem (by omega)] at hx; injection hx
  obtain ⟨e0, e1, e2, e3, e4⟩ := at5 ha (by omega) hxm
  clear hl e1 e2 e3 e4 hx hxm
  go_enter Tryd.func22, Tryd.ntmps22
  go_wp2_with fail
  go_loopw [5] (fun i wr => ∃ k : Nat, i = .int .i64 k ∧ k ≤ m ∧ Hid (NoneHas l k x.p.data.toList) ∧ Below w.heap.size w wr) (fun i _ => m - (intOf i).toNat)
  case atStart => exact ⟨0, rfl, Nat.zero_le _, Lib.hid (fun j hj => by omega), Below.refl _ _⟩
  case round =>
    obtain ⟨k, rfl, hk, HN, hbw⟩ := hrel
    by_cases hlt : k < m
    · have hlk : k < l.length := by rw [HL.out]; omega
      have hidx := fun W => run_index_any (c := c) Tryd.underlying24 hi hz1 HA.out (show k < n by omega) W
      obtain ⟨q, hq⟩ : ∃ q, l[k] = q := ⟨_, rfl⟩
      have HQ := Lib.hid (show l[k]? = some q by rw [List.getElem?_eq_getElem hlk, hq])
      obtain ⟨c0, c1, c2, c3, c4⟩ := at5 (ha.belowS hbw) hlk hq
      have d0 := cell_later hbw e0
      have c0' : wr.drew.cell? ⟨blk A, off A + k * 5, none⟩ = some (.string q.p) := c0
      have d0' : wr.drew.cell? ⟨blk A, off A + m * 5, none⟩ = some (.string x.p) := d0
      clear hq c1 c2 c3 c4
      by_cases he : q.p.data.toList = x.p.data.toList
      · have hb : (q.p.toList == x.p.toList) = true := by rw [toList_is he, toList_is rfl]; simp
        have HE := Lib.hid he
        clear he
        go_wp2_with fail
        go_region
        go_wp2_with fail
        go_ret
        exact Tells.no (fun h => h k hlt q HQ.out HE.out) hbw.drew
      · have hb : (q.p.toList == x.p.toList) = false := by rw [toList_is rfl, toList_is (s := x.p) rfl]; simpa using he
        have HE := Lib.hid he
        clear he
        go_wp2_with fail
        go_region
        go_wp2_with fail
        go_roundw
        case rel => exact ⟨k + 1, by go_num, by omega, Lib.hid (HN.out.next HQ.out HE.out), hbw.drew⟩
        case measure => simp [intOf]; omega
    · obtain rfl : m = k := by omega
      go_wp2_with fail
      go_ret
      exact Tells.yes HN.out hbw

set_option maxHeartbeats 1000000 in
theorem specOnce_any (A : Option Addr) (n c : Nat) (l : List Cmd) (w : World) (hn : n ≤ 140737488355328) (hl : l.length = n) (ha : At encK 5 w A l) (hz : ∀ q ∈ l, q.p.size ≤ 1048576) :
    Calls Tryd.prog 39 #[.slice A n c] w (Tells (OnceP l n ∧ okLog l = true) w) := by
  have HL := Lib.hid hl
  clear hl
  go_enter Tryd.func39, Tryd.ntmps39
  go_wp2_with fail
  go_loopw [3] (fun i wr => ∃ k : Nat, i = .int .i64 k ∧ k ≤ n ∧ Hid (OnceP l k) ∧ Below w.heap.size w wr) (fun i _ => n - (intOf i).toNat)
  case atStart => exact ⟨0, rfl, Nat.zero_le _, Lib.hid (fun j hj => by omega), Below.refl _ _⟩
  case round =>
    obtain ⟨k, rfl, hk, HN, hbw⟩ := hrel
    by_cases hlt : k < n
    · have hlk : k < l.length := by rw [HL.out]; exact hlt
      obtain ⟨q, hq⟩ : ∃ q, l[k] = q := ⟨_, rfl⟩
      have HQ := Lib.hid (show l[k]? = some q by rw [List.getElem?_eq_getElem hlk, hq])
      clear hq
      go_wp2_with fail
      refine (specFirst_any A n c k l q _ hn HL.out (ha.belowS hbw) hlt HQ.out).mono ?_
      rintro e w1 ⟨b, rfl, hb, hb1⟩
      have bw1 := below_step hbw hb1
      cases b with
      | false =>
        have HB := Lib.hid hb
        clear hb
        go_wp2_with fail
        go_ret
        exact Tells.no (fun h => by have := HB.out.2 (h.1 k hlt q HQ.out); cases this) bw1
      | true =>
        have HB := Lib.hid (hb.1 rfl)
        clear hb
        go_wp2_with fail
        go_roundw
        case rel => exact ⟨k + 1, by go_num, by omega, Lib.hid (HN.out.next HQ.out HB.out), bw1⟩
        case measure => simp [intOf]; omega
    · obtain rfl : n = k := by omega
      go_wp2_with fail
      refine (specLogValid_any A n c l _ hn HL.out (ha.belowS hbw) hz).mono ?_
      rintro e w1 ⟨rfl, hb1⟩
      have bw1 := below_step hbw hb1
      go_wp2_with fail
      go_ret
      exact ⟨_, rfl, ⟨fun h => ⟨HN.out, h⟩, fun h => h.2⟩, bw1⟩

end Go.Proofs.YtmhmfdikncgdgaaDoor
