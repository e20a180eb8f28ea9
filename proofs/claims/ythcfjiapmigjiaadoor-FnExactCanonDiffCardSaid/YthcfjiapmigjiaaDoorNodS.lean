/- The laws' helpers on lists of nodes: sizes, copies, comparison. -/
import Derived.Test.YthcfjiapmigjiaaDoorNodH
import Derived.Test.YthcfjiapmigjiaaDoorAppend
import Derived.Deep.RegionHeld3
import Derived.OwnWalk
import Derived.Maps.AppendAt
namespace Go.Proofs.YthcfjiapmigjiaaDoor
open Go.RowKit
set_option linter.unusedVariables false
set_option linter.unusedSimpArgs false
set_option maxRecDepth 20000

theorem infoN : (Tryd.prog.info? 55).map (fun i => (i.zero, i.size, i.bytes)) = some (some (.agg #[.string ByteArray.empty, .int .i64 0, .int .i64 0]), 3, 32) := by kernel_rfl
theorem infoLN : (Tryd.prog.info? 45).map (fun i => (i.zero, i.size, i.bytes)) = some (some (.agg #[.string ByteArray.empty, .int .i64 0, .int .i64 0]), 3, 32) := by kernel_rfl

theorem at3 {w : World} {A : Option Addr} {l : List Nod} (h : At encN 3 w A l) {k : Nat} (hk : k < l.length) {q : Nod} (hq : l[k] = q) :
    w.cell? ⟨blk A, off A + k * 3, none⟩ = some (.string q.p) ∧ w.cell? ⟨blk A, off A + k * 3 + 1, none⟩ = some (.int .i64 q.x) ∧ w.cell? ⟨blk A, off A + k * 3 + 2, none⟩ = some (.int .i64 q.y) := by
  subst hq
  exact ⟨h.cell k hk 0 _ rfl, h.cell k hk 1 _ rfl, h.cell k hk 2 _ rfl⟩

/-- The size of a list of nodes: what is left, or less than none. -/
def SzN (l : List Nod) (left : Int) (w : World) (e : Ending) (w' : World) : Prop := ∃ r : Int, e = .returned (.int .i64 r) ∧ (r < 0 ∨ 0 ≤ r ∧ r + (l.length : Int) ≤ left ∧ ∀ c ∈ l, (c.p.size : Int) ≤ left) ∧ Below w.heap.size w w'
set_option maxHeartbeats 1000000 in
theorem szNodeS_any (A : Option Addr) (n c : Nat) (l : List Nod) (left : Int) (w : World) (hl : l.length = n) (hn : n ≤ maxLen) (ha : At encN 3 w A l) (hw : ∀ q ∈ l, q.wf) (h0 : 0 ≤ left) (h1 : left ≤ 1048576) :
    Calls Tryd.prog 6 #[.slice A n c, .int .i64 left] w (SzN l left w) := by
  obtain ⟨i0, hi, hz0, hz1, hz2⟩ := info_parts infoLN
  have HL := Lib.hid hl
  clear hl
  unfold maxLen at hn
  have hwr : IntKind.i64.wrap (left - (n : Int)) = left - (n : Int) := IntWalk.i64_in _ (by omega)
  by_cases hneg : left < (n : Int)
  · have hd : decide (left - (n : Int) < 0) = true := decide_eq_true (by omega)
    go_enter Tryd.func6, Tryd.ntmps6
    go_wp2_with fail
    go_ret
    exact ⟨_, rfl, .inl (by omega), Below.refl _ _⟩
  have hd : decide (left - (n : Int) < 0) = false := decide_eq_false (by omega)
  go_enter Tryd.func6, Tryd.ntmps6
  go_wp2_with fail
  clear hd hwr
  go_loopw [1, 5] (fun v i wr => ∃ (k : Nat) (r : Int), i = .int .i64 k ∧ v = .int .i64 r ∧ k ≤ n ∧ 0 ≤ r ∧ r + n ≤ left ∧ Hid (∀ j, j < k → ∀ q, l[j]? = some q → (q.p.size : Int) ≤ left) ∧ Below w.heap.size w wr) (fun _ i _ => n - (intOf i).toNat)
  case atStart => exact ⟨0, left - n, rfl, rfl, Nat.zero_le _, by omega, by omega, Lib.hid (fun j hj => by omega), Below.refl _ _⟩
  case round =>
    obtain ⟨k, r, rfl, rfl, hk, hr0, hrn, HK, hbw⟩ := hrel
    by_cases hlt : k < n
    · have hlk : k < l.length := by rw [HL.out]; exact hlt
      have hidx := fun W => run_index_any (c := c) Tryd.underlying22 hi hz1 (ha.addr (by rw [HL.out]; omega)) hlt W
      obtain ⟨q, hq⟩ : ∃ q, l[k] = q := ⟨_, rfl⟩
      have hqw := hw q (hq ▸ List.getElem_mem _)
      obtain ⟨c0, c1, c2⟩ := at3 (ha.belowS hbw) hlk hq
      have HQ := Lib.hid hq
      clear hq
      go_wp2_with fail
      refine (szNode_any q.p q.x q.y r _ hqw.1 hr0 (by omega)).mono ?_
      rintro e w1 ⟨rfl, hb1⟩
      have bw1 := below_step hbw hb1
      by_cases hs : r < (q.p.size : Int)
      · have hz : szN q.p.size r = -1 := if_pos hs
        rw [hz]
        go_wp2_with fail
        go_ret
        exact ⟨-1, rfl, .inl (by omega), bw1⟩
      · have hz : szN q.p.size r = r - q.p.size := if_neg hs
        have hd : decide (r - (q.p.size : Int) < 0) = false := decide_eq_false (by omega)
        rw [hz]
        go_wp2_with fail
        go_roundw
        case rel =>
          refine ⟨k + 1, _, by go_num, rfl, by omega, by omega, by omega, Lib.hid fun j hj p hp => ?_, bw1⟩
          by_cases hjk : j = k
          · subst hjk
            rw [List.getElem?_eq_getElem hlk, HQ.out] at hp
            injection hp with hp
            subst hp; omega
          · exact HK.out j (by omega) p hp
        case measure => simp [intOf]; omega
    · obtain rfl : n = k := by omega
      go_wp2_with fail
      go_ret
      refine ⟨r, rfl, .inr ⟨hr0, by rw [HL.out]; exact hrn, fun q hq => ?_⟩, hbw⟩
      obtain ⟨j, hj, rfl⟩ := List.getElem_of_mem hq
      exact HK.out j (by rw [← HL.out]; exact hj) _ (List.getElem?_eq_getElem hj)

theorem set3 {α : Type} (pre t : List α) (m : Nat) (hm : pre.length = m) (r0 r1 r2 a0 a1 a2 : α) :
    ((((pre ++ r0 :: r1 :: r2 :: t).set m a0).set (m + 1) a1).set (m + 2) a2) = pre ++ a0 :: a1 :: a2 :: t := by
  subst hm
  rw [List.set_append_right _ _ (Nat.le_refl _), List.set_append_right _ _ (by omega), List.set_append_right _ _ (by omega)]
  rw [Nat.sub_self, Nat.add_sub_cancel_left, Nat.add_sub_cancel_left]
  rfl
theorem Part.set3 {l : List Nod} {k : Nat} {cs : List Value} (h : Part encN 3 l k cs) (hk : k < l.length) {q : Nod} (hq : l[k] = q) :
    Part encN 3 l (k + 1) (((cs.set (k * 3) (.string q.p)).set (k * 3 + 1) (.int .i64 q.x)).set (k * 3 + 2) (.int .i64 q.y)) := by
  obtain ⟨_, rest, hr, rfl⟩ := h
  have hl : ((l.take k).flatMap encN).length = k * 3 := by rw [flat_len encN_len, List.length_take]; congr 1; omega
  obtain ⟨r0, r1, r2, t, rfl⟩ : ∃ r0 r1 r2 t, rest = r0 :: r1 :: r2 :: t := by
    match rest, hr with
    | r0 :: r1 :: r2 :: t, _ => exact ⟨_, _, _, _, rfl⟩
    | [], h => simp at h; omega
    | [_], h => simp at h; omega
    | [_, _], h => simp at h; omega
  refine ⟨hk, t, by simp at hr; omega, ?_⟩
  rw [Go.Proofs.YthcfjiapmigjiaaDoor.set3 _ _ _ hl, take_snoc' l k hk, List.flatMap_append, hq]
  simp [encN]

/-- A copy of a list of nodes that the call owns. -/
def CopyN (n : Nat) (l : List Nod) (w : World) (e : Ending) (w' : World) : Prop := ∃ g, e = .returned (.slice (some ⟨g, 0, none⟩) n n) ∧ w'.ownsRow w.heap.size 55 3 (.slice (some ⟨g, 0, none⟩) n n) n (l.flatMap encN) ∧ Below w.heap.size w w'
set_option maxHeartbeats 2000000 in
theorem toNodeS_any (A : Option Addr) (n c : Nat) (l : List Nod) (w : World) (hn : n * 48 ≤ 140737488355328) (hl : l.length = n) (ha : At encN 3 w A l) :
    Calls Tryd.prog 8 #[.slice A n c] w (CopyN n l w) := by
  obtain ⟨i0, hi, hz0, hz1, hz2⟩ := info_parts infoN
  obtain ⟨j0, hj, hj0, hj1, hj2⟩ := info_parts infoLN
  have HL := Lib.hid hl
  clear hl
  have hb := Below.refl w.heap.size w
  go_enter Tryd.func8, Tryd.ntmps8
  go_wp2_with (at_make; refine wpList_make_full _ rfl _ _ _ rfl w.heap.size 55 i0 (.agg #[.string ByteArray.empty, .int .i64 0, .int .i64 0]) 3 Tryd.underlying27 hi hz0 hz1 _ _ _ _ n rfl rfl rfl rfl (by rw [hz2]; omega) (by unfold maxLen; omega) (Nat.le_refl _) ?_; intro w1 hown hgr)
  have hbel := hb.grown hgr (Nat.le_refl _) (fun k h => by cases h)
  go_loopw [4] (fun i wr => ∃ k : Nat, i = .int .i64 k ∧ k ≤ n ∧ ∃ cs, Part encN 3 l k cs ∧ wr.ownsRow w.heap.size 55 3 (.slice (some ⟨w.heap.size, 0, none⟩) n n) n cs ∧ Below w.heap.size w wr) (fun i _ => n - (intOf i).toNat)
  case atStart => exact ⟨0, rfl, Nat.zero_le _, _, Part.zero (by rw [HL.out]; exact hown.1), hown, hbel⟩
  case round =>
    obtain ⟨k, rfl, hk, cs, hp, ho, hbw⟩ := hrel
    have hP := Lib.hid hp
    clear hp hown hgr
    by_cases hlt : k < n
    · have hlk : k < l.length := by rw [HL.out]; exact hlt
      have hidx := fun W => run_index_any (c := c) Tryd.underlying22 hj hj1 (ha.addr (by rw [HL.out]; omega)) hlt W
      have hidx2 : ∀ W, (Instr.indexAt 27 (.slice (some ⟨w.heap.size, 0, none⟩) n n) (.int .i64 (k : Int))).run Tryd.prog W = .ok (.pointer (some ⟨w.heap.size, k * 3, none⟩)) W := fun W => by
        have := run_index_any (c := n) (A := some ⟨w.heap.size, 0, none⟩) Tryd.underlying27 hi hz1 rfl hlt W
        simpa using this
      obtain ⟨q, hq⟩ : ∃ q, l[k] = q := ⟨_, rfl⟩
      obtain ⟨c0, c1, c2⟩ := at3 (ha.belowS hbw) hlk hq
      have HQ := Lib.hid hq
      have hlen : cs.length = n * 3 := ho.1
      have hk5 : k * 3 + 3 ≤ cs.length := by rw [hlen]; omega
      have HK5 := Lib.hid hk5
      clear hq hlen hk5
      go_wp2_with fail
      refine (toNode_any q.p q.x q.y _).mono ?_
      rintro e w2 ⟨rfl, hb2⟩
      have bw2 := below_step hbw hb2
      have ho2 := own_belowS ho hb2
      have cellOf : ∀ r, r < 3 → ∃ v, w2.cell? ⟨w.heap.size, k * 3 + r, none⟩ = some v := fun r hr => ⟨cs[k * 3 + r]'(by have := HK5.out; omega), by rw [ho2.cellAt (k * 3 + r) (by have := HK5.out; omega)]; exact List.getElem?_eq_getElem _⟩
      obtain ⟨v0, d0⟩ := cellOf 0 (by omega)
      obtain ⟨v1, d1⟩ := cellOf 1 (by omega)
      obtain ⟨v2, d2⟩ := cellOf 2 (by omega)
      rw [Nat.add_zero] at d0
      have f0 := ho2.frozenAt (k * 3)
      have f1 := ho2.frozenAt (k * 3 + 1)
      have f2 := ho2.frozenAt (k * 3 + 2)
      have s0 := (ho2.stored (k * 3) (.string q.p)).1
      have s1 := (s0.stored (k * 3 + 1) (.int .i64 q.x)).1
      have s2 := (s1.stored (k * 3 + 2) (.int .i64 q.y)).1
      clear c0 c1 c2 ho cellOf s0 s1
      go_wp2_with fail
      go_roundw
      case rel => exact ⟨k + 1, by go_num, by omega, _, hP.out.set3 hlk HQ.out, s2, below_set (below_set (below_set bw2 (Nat.le_refl _) _) (Nat.le_refl _) _) (Nat.le_refl _) _⟩
      case measure => simp [intOf]; omega
    · obtain rfl : n = k := by omega
      have hall := Part.all (l := l) (by rw [HL.out]; exact hP.out)
      subst hall
      go_wp2_with fail
      go_ret
      exact ⟨_, rfl, ho, hbw⟩

set_option maxHeartbeats 2000000 in
theorem eqNodeS_same (A : Option Addr) (n c : Nat) (B : Option Addr) (m : Nat) (l : List Nod) (w : World) (hn : n ≤ 140737488355328) (hl : l.length = n) (ha : At encN 3 w A l) (hb : At encN 3 w B l) :
    Calls Tryd.prog 11 #[.slice A n c, .slice B n m] w fun e w' => e = .returned (.bool true) ∧ Below w.heap.size w w' := by
  obtain ⟨i0, hi, hz0, hz1, hz2⟩ := info_parts infoN
  have HL := Lib.hid hl
  clear hl
  go_enter Tryd.func11, Tryd.ntmps11
  go_wp2_with fail
  go_loopw [5] (fun i wr => ∃ k : Nat, i = .int .i64 k ∧ k ≤ n ∧ Below w.heap.size w wr) (fun i _ => n - (intOf i).toNat)
  case atStart => exact ⟨0, rfl, Nat.zero_le _, Below.refl _ _⟩
  case round =>
    obtain ⟨k, rfl, hk, hbw⟩ := hrel
    by_cases hlt : k < n
    · have hlk : k < l.length := by rw [HL.out]; exact hlt
      have hidx := fun W => run_index_any (c := c) Tryd.underlying27 hi hz1 (ha.addr (by rw [HL.out]; omega)) hlt W
      have hidx2 := fun W => run_index_any (c := m) Tryd.underlying27 hi hz1 (hb.addr (by rw [HL.out]; omega)) hlt W
      obtain ⟨q, hq⟩ : ∃ q, l[k] = q := ⟨_, rfl⟩
      obtain ⟨c0, c1, c2⟩ := at3 (ha.belowS hbw) hlk hq
      obtain ⟨d0, d1, d2⟩ := at3 (hb.belowS hbw) hlk hq
      clear hq
      obtain ⟨bA, hbA⟩ : ∃ b, blk A = b := ⟨_, rfl⟩
      obtain ⟨oA, hoA⟩ : ∃ o, off A + k * 3 = o := ⟨_, rfl⟩
      obtain ⟨bB, hbB⟩ : ∃ b, blk B = b := ⟨_, rfl⟩
      obtain ⟨oB, hoB⟩ : ∃ o, off B + k * 3 = o := ⟨_, rfl⟩
      rw [hbA, hoA] at hidx c0 c1 c2
      rw [hbB, hoB] at hidx2 d0 d1 d2
      clear hbA hoA hbB hoB
      go_wp2_with fail
      go_region_held3 (fun w' => w'.cell? ⟨bA, oA, none⟩ = some (.string q.p) ∧ w'.cell? ⟨bA, oA + 1, none⟩ = some (.int .i64 q.x) ∧ w'.cell? ⟨bA, oA + 2, none⟩ = some (.int .i64 q.y) ∧ w'.cell? ⟨bB, oB, none⟩ = some (.string q.p) ∧ w'.cell? ⟨bB, oB + 1, none⟩ = some (.int .i64 q.x) ∧ w'.cell? ⟨bB, oB + 2, none⟩ = some (.int .i64 q.y) ∧ Below w.heap.size w w')
        ((refine ⟨?_, ?_, ?_, ?_, ?_, ?_, ?_⟩ <;> repeat (first | assumption | exact hbw.drew | refine cell_later (by assumption) ?_ | refine below_step2 (by assumption) ?_)))
        (first | (go_at_call 33; refine (eqNode_same q.p q.p rfl q.x q.y _).mono ?_; rintro e w2 ⟨rfl, hb2⟩))
      have bw2 := below_step hbw.drew hb2
      clear c0 c1 c2 d0 d1 d2
      go_wp2_with fail
      go_roundw
      case rel => exact ⟨k + 1, by go_num, by omega, bw2⟩
      case measure => simp [intOf]; omega
    · obtain rfl : n = k := by omega
      go_wp2_with fail
      go_ret
      exact ⟨rfl, hbw⟩
end Go.Proofs.YthcfjiapmigjiaaDoor
