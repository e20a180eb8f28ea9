/- Each path once, and possible orders, by the program. -/
import Derived.Test.YtmhmfdikncgdgaaDoorOnce
import Derived.Maps.OwnSet
import Derived.StringKeys
import Derived.Carry
namespace Go.Proofs.YtmhmfdikncgdgaaDoor
open Go.RowKit Go.Maps Go.WideMaps
set_option linter.unusedVariables false
set_option linter.unusedSimpArgs false
set_option maxRecDepth 20000

theorem lawS : Keyed Tryd.prog 9 := string_keyed Tryd.underlying9
theorem zeroB (w : World) : (zeroValue 4).run Tryd.prog w = .ok (.bool false) w := by kernel_rfl
theorem plainB_inv {v : Value} {b : Bool} {ps : List MemPlace} (h : plainElem (H := Unit) Tryd.prog 4 v = some (.lit (.bool b), ps)) : v = .bool b := by
  unfold plainElem at h
  rw [Tryd.underlying4] at h
  cases v <;> simp at h
  obtain ⟨rfl, _⟩ := h
  rfl
/-- The map says which paths the commands before k have. -/
def SeenD (l : List Cmd) (k : Nat) (D : DataW Unit) : Prop := ∀ x : List UInt8, (NoneHas l k x → D.atKey (.string x) (.lit (.bool false)) = .lit (.bool false)) ∧ (¬ NoneHas l k x → D.atKey (.string x) (.lit (.bool false)) = .lit (.bool true))
theorem SeenD.zero (l : List Cmd) : SeenD l 0 (.map []) := fun x => ⟨fun _ => rfl, fun h => absurd (fun j hj => by omega) h⟩
theorem none_next {l : List Cmd} {k : Nat} {q : Cmd} (hq : l[k]? = some q) (x : List UInt8) : NoneHas l (k + 1) x ↔ NoneHas l k x ∧ q.p.data.toList ≠ x :=
  ⟨fun h => ⟨fun j hj p hp => h j (by omega) p hp, h k (by omega) q hq⟩, fun h => h.1.next hq h.2⟩
theorem SeenD.next {l : List Cmd} {k : Nat} {D : DataW Unit} (h : SeenD l k D) (hD : IsMap D) {q : Cmd} (hq : l[k]? = some q) : SeenD l (k + 1) (D.put (.string q.p.data.toList) (.lit (.bool true))) := by
  intro x
  by_cases hx : q.p.data.toList = x
  · subst hx
    have hp : (D.put (.string q.p.data.toList) (.lit (.bool true))).atKey (.string q.p.data.toList) (.lit (.bool false)) = .lit (.bool true) := atKey_put_same hD (by trivial) _ _
    exact ⟨fun hn => absurd rfl ((none_next hq _).1 hn).2, fun _ => hp⟩
  · have hp : (D.put (.string q.p.data.toList) (.lit (.bool true))).atKey (.string x) (.lit (.bool false)) = D.atKey (.string x) (.lit (.bool false)) := atKey_put_other (by intro e; injection e with e; exact hx e.symm) _ _
    rw [hp, none_next hq]
    exact ⟨fun hn => (h x).1 hn.1, fun hn => (h x).2 (fun h0 => hn ⟨h0, hx⟩)⟩
theorem own_isMap {P : Program} {k : TypeId} {R : Value → Option (DataW Unit × List MemPlace)} {w : World} {b n : Nat} {D : DataW Unit} (h : w.ownsMap P k R b n D) : IsMap D := by
  obtain ⟨es, clock, _, _, _, rfl⟩ := h
  exact ⟨_, rfl⟩

set_option maxHeartbeats 2000000 in
theorem implOnce_any (A : Option Addr) (n c : Nat) (l : List Cmd) (w : World) (hn : n ≤ 140737488355328) (hl : l.length = n) (ha : At encK 5 w A l) (hz : ∀ q ∈ l, q.p.size ≤ 1048576) :
    Calls Tryd.prog 41 #[.slice A n c] w (Tells (OnceP l n) w) := by
  obtain ⟨i0, hi, hz0, hz1, hz2⟩ := info_parts infoK
  have HL := Lib.hid hl
  clear hl
  have hmm := @run_makeMap Tryd.prog
  go_enter Tryd.func41, Tryd.ntmps41
  go_wp2_with fail
  clear hmm
  go_loopw [9] (fun i wr => ∃ (k : Nat) (D : DataW Unit), i = .int .i64 k ∧ k ≤ n ∧ Hid (OnceP l k) ∧ Hid (SeenD l k D) ∧ wr.ownsMap Tryd.prog 9 (plainElem Tryd.prog 4) w.heap.size k D ∧ Below w.heap.size w wr) (fun i _ => n - (intOf i).toNat)
  case atStart => exact ⟨0, .map [], rfl, Nat.zero_le _, Lib.hid (fun j hj => by omega), Lib.hid (SeenD.zero l), World.ownsMap_made _ _ _ _, (Below.refl _ _).alloc (Nat.le_refl _) _⟩
  case round =>
    obtain ⟨k, D, rfl, hk, HN, HD, hown, hbw⟩ := hrel
    by_cases hlt : k < n
    · have hlk : k < l.length := by rw [HL.out]; exact hlt
      have hidx := fun W => run_index_any (c := c) Tryd.underlying24 hi hz1 (ha.addr (by rw [HL.out]; omega)) hlt W
      obtain ⟨q, hq⟩ : ∃ q, l[k] = q := ⟨_, rfl⟩
      have HQ := Lib.hid (show l[k]? = some q by rw [List.getElem?_eq_getElem hlk, hq])
      have hqz : q.p.size ≤ 1048576 := hz q (hq ▸ List.getElem_mem _)
      obtain ⟨c0, c1, c2, c3, c4⟩ := at5 (ha.belowS hbw) hlk hq
      have hkey : keyOf Tryd.prog 9 (.string q.p) = some (.string q.p.data.toList) := keyOf_string_mk Tryd.underlying9 (by unfold maxLen; omega)
      have hown2 := hown.alloc (.cells #[.string q.p, .int .i64 q.x, .int .i64 q.y, .int .i64 q.z, .int .i64 q.u] 44)
      obtain ⟨v, ps, hrun, hv⟩ := hown2.lookup lawS Tryd.underlying74 (zeroB _) (plainElem_bool Tryd.underlying4 false) hkey
      clear hq
      by_cases hN : NoneHas l k q.p.data.toList
      · rw [(HD.out q.p.data.toList).1 hN] at hv
        obtain rfl := plainB_inv hv
        have HNN := Lib.hid hN
        clear hv hN
        go_wp2_with (first
          | (at_mapUpdate; refine wpList_mapUpdate_own _ rfl _ _ _ 74 rfl 9 4 lawS Tryd.underlying74 (plainElem (H := Unit) Tryd.prog 4) w.heap.size k D rfl hown2 (by unfold maxLen; omega) _ _ _ rfl rfl hkey _ [] (plainElem_bool Tryd.underlying4 true) ?_; intro w3 hown3 hg3))
        go_roundw
        case rel => exact ⟨k + 1, _, by go_num, by omega, Lib.hid (HN.out.next HQ.out HNN.out), Lib.hid (HD.out.next (own_isMap hown) HQ.out), hown3, below_only (below_alloc hbw _) hg3 (fun b hb => by injection hb with hb; omega)⟩
        case measure => simp [intOf]; omega
      · rw [(HD.out q.p.data.toList).2 hN] at hv
        obtain rfl := plainB_inv hv
        have HNN := Lib.hid hN
        clear hv hN
        go_wp2_with fail
        go_ret
        exact Tells.no (fun h => HNN.out (h k hlt q HQ.out)) (below_alloc hbw _)
    · obtain rfl : n = k := by omega
      go_wp2_with fail
      go_ret
      exact Tells.yes HN.out hbw

theorem okCmd_path {q : Cmd} (h : okCmd q = true) : pathB q.p.data.toList = true := okK_path' h
set_option maxHeartbeats 4000000 in
theorem implPoss_any (A : Option Addr) (n c : Nat) (l : List Cmd) (w : World) (hn : n ≤ 140737488355328) (hl : l.length = n) (hnc : n ≤ c) (ha : At encK 5 w A l) (hok : ∀ q ∈ l, okCmd q = true) :
    Calls Tryd.prog 56 #[.slice A n c] w (Tells (PossP l n) w) := by
  obtain ⟨i0, hi, hz0, hz1, hz2⟩ := info_parts infoK
  have HL := Lib.hid hl
  clear hl
  go_enter Tryd.func56, Tryd.ntmps56
  go_wp2_with fail
  go_loopw [9] (fun i wr => ∃ k : Nat, i = .int .i64 k ∧ k ≤ n ∧ Hid (PossP l k) ∧ Below w.heap.size w wr) (fun i _ => n - (intOf i).toNat)
  case atStart => exact ⟨0, rfl, Nat.zero_le _, Lib.hid (fun j hj => by omega), Below.refl _ _⟩
  case round =>
    obtain ⟨i, rfl, hik, HN, hbw⟩ := hrel
    by_cases hlt : i < n
    · have hli : i < l.length := by rw [HL.out]; exact hlt
      have HA := Lib.hid (ha.addr (by omega))
      have hidx := fun W => run_index_any (c := c) Tryd.underlying24 hi hz1 HA.out hlt W
      obtain ⟨p, hp⟩ : ∃ p, l[i] = p := ⟨_, rfl⟩
      have HP := Lib.hid (show l[i]? = some p by rw [List.getElem?_eq_getElem hli, hp])
      have HPP := Lib.hid (okCmd_path (hok p (hp ▸ List.getElem_mem _)))
      obtain ⟨c0, c1, c2, c3, c4⟩ := at5 (ha.belowS hbw) hli hp
      have hsl : ∀ W, (Instr.slice 24 (.slice A n c) none (some (.int .i64 (i : Int))) none).run Tryd.prog W = .ok (.slice A i c) W := fun W => run_slice_upto Tryd.underlying24 hi hz1 A n c W i (by omega)
      have P0 := Blk.new wr 44 #[.string p.p, .int .i64 p.x, .int .i64 p.y, .int .i64 p.z, .int .i64 p.u]
      have bw0 := below_alloc hbw (.cells #[.string p.p, .int .i64 p.x, .int .i64 p.y, .int .i64 p.z, .int .i64 p.u] 44)
      obtain ⟨g, hg⟩ : ∃ g, wr.heap.size = g := ⟨_, rfl⟩
      have hgw : w.heap.size ≤ g := by have := hbw.size; omega
      obtain ⟨W0, hW0⟩ : ∃ W0, W0 = wr.alloc (.cells #[.string p.p, .int .i64 p.x, .int .i64 p.y, .int .i64 p.z, .int .i64 p.u] 44) := ⟨_, rfl⟩
      rw [hg, ← hW0] at P0
      rw [← hW0] at bw0
      have hd : decide ((i : Int) < (n : Int)) = true := decide_eq_true (by omega)
      go_wp2_with fail
      try rw [hd]
      try rw [hg]
      rw [← hW0]
      clear hd hg hW0 c0 c1 c2 c3 c4 hidx hsl
      go_loopw [18] (fun j wr => ∃ k : Nat, j = .int .i64 k ∧ k ≤ i ∧ Hid (PossK l i k) ∧ Blk wr g 44 #[.string p.p, .int .i64 p.x, .int .i64 p.y, .int .i64 p.z, .int .i64 p.u] ∧ Below w.heap.size w wr) (fun j _ => i - (intOf j).toNat)
      case atStart => exact ⟨0, rfl, Nat.zero_le _, Lib.hid (fun j hj => by omega), P0, bw0⟩
      case round =>
        clear hbw P0 bw0
        obtain ⟨k, rfl, hk, HK, PB, hbw⟩ := hrel
        by_cases hlk : k < i
        · have hlk2 : k < l.length := by omega
          have hidx2 := fun W => run_index_any (c := c) Tryd.underlying24 hi hz1 HA.out hlk W
          obtain ⟨q, hq⟩ : ∃ q, l[k] = q := ⟨_, rfl⟩
          have HQ := Lib.hid (show l[k]? = some q by rw [List.getElem?_eq_getElem hlk2, hq])
          have HQP := Lib.hid (okCmd_path (hok q (hq ▸ List.getElem_mem _)))
          obtain ⟨d0, d1, d2, d3, d4⟩ := at5 (ha.belowS hbw) hlk2 hq
          obtain ⟨c0, c1, c2, c3, c4⟩ := blk5 PB
          have hgl := PB.lt
          have hgne : g ≠ wr.heap.size := by omega
          obtain ⟨r, hr⟩ : ∃ r, mustR p.p.data.toList q.p.data.toList p.z q.x = r := ⟨_, rfl⟩
          have HR := Lib.hid hr
          clear hq hr
          go_wp2_with fail
          refine (implMust_any p.p p.x p.y p.z p.u q.p q.x q.y q.z q.u _ HPP.out HQP.out).mono ?_
          rw [HR.out]
          rintro e w2 ⟨rfl, hb2⟩
          have bw2 := below_step (below_alloc hbw _) hb2
          have PB2 := (PB.alloc (.cells #[.string q.p, .int .i64 q.x, .int .i64 q.y, .int .i64 q.z, .int .i64 q.u] 44)).belowS hb2
          cases r with
          | true =>
            go_wp2_with fail
            go_ret
            exact Tells.no (fun h => by have := h i hlt k hlk p q HP.out HQ.out; rw [HR.out] at this; cases this) bw2
          | false =>
            go_wp2_with fail
            go_roundw
            case rel => exact ⟨k + 1, by go_num, by omega, Lib.hid (HK.out.next HP.out HQ.out HR.out), PB2, bw2⟩
            case measure => simp [intOf]; omega
        · obtain rfl : i = k := by omega
          go_wp2_with fail
          go_roundw
          case rel => exact ⟨i + 1, by go_num, by omega, Lib.hid (HN.out.next HK.out), hbw⟩
          case measure => simp [intOf]; omega
    · obtain rfl : n = i := by omega
      go_wp2_with fail
      go_ret
      exact Tells.yes HN.out hbw

/-- A log is in a possible order. -/
def FitsP (l : List Cmd) (n : Nat) : Prop := (OnceP l n ∧ okLog l = true) ∧ PossP l n
theorem same_tells {P : Prop} {a b : Bool} (ha : a = true ↔ P) (hb : b = true ↔ P) : a = b := by
  rw [Bool.eq_iff_iff]; exact ha.trans hb.symm
end Go.Proofs.YtmhmfdikncgdgaaDoor
