/- slices.Backward at commands and at nodes: the iterator's contract. -/
import Derived.RangeFuncNested
import Derived.RangeFuncBound
import Derived.RangeFuncCalls
import Derived.RangeFuncLeaves
import Derived.RangeFuncBox
import Derived.Shelf.Abstract
import Derived.WalkKit
import Derived.OwnWalkIn
import Derived.TacticsInMore
import Derived.LoopNIn
import Derived.LoopIn
import Derived.Test.YtlhhplhciiobfaaDoorCmdS
import Derived.Test.YtlhhplhciiobfaaDoorNodS
namespace Go.Proofs.YtlhhplhciiobfaaDoor
open Go.RowKit Go.Shelf
set_option linter.unusedVariables false
set_option linter.unusedSimpArgs false
attribute [local go_sem] Oper.semAt_some

/-- What lay below n₀, and one block more, lies as it lay. -/
def KeepB (n₀ Bs : Nat) (A B : World) : Prop := Below n₀ A B ∧ B.heap[Bs]? = A.heap[Bs]?
theorem KeepB.refl (n₀ Bs : Nat) (A : World) : KeepB n₀ Bs A A := ⟨Below.refl _ _, rfl⟩
theorem KeepB.trans {n₀ Bs : Nat} {A B C : World} (h : KeepB n₀ Bs A B) (k : KeepB n₀ Bs B C) : KeepB n₀ Bs A C := ⟨h.1.trans k.1, k.2.trans h.2⟩
theorem KeepB.cell {n₀ Bs : Nat} {A B : World} (h : KeepB n₀ Bs A B) {v : Value} (hv : A.cell? ⟨Bs, 0, none⟩ = some v) : B.cell? ⟨Bs, 0, none⟩ = some v := by
  rw [World.cell?_of_block (w := A) (a := ⟨Bs, 0, none⟩) h.2]; exact hv
theorem keepB_b {n₀ Bs : Nat} {w : World} (hn : n₀ ≤ w.heap.size) (hB : Bs < w.heap.size) : ∀ (W : World) (l : Nat) (o o' : Obj), w.heap.size ≤ l → W.heap[l]? = some o → o.isCells = false → o.isWalk = false → KeepB n₀ Bs W (W.putObj l o') := fun W l o o' hl h1 h2 h3 =>
  ⟨belowK_b (w := w) hn W l o o' hl h1 h2 h3, World.putObj_heap_other (fun e => by omega)⟩
/-- What has come when k rounds are over: from the last on. -/
def bk {α : Type} (zs : List α) (d : α) (k : Nat) : List (Nat × α) := (List.range k).map fun j => (zs.length - 1 - j, (zs[zs.length - 1 - j]?).getD d)
theorem bk_len {α : Type} (zs : List α) (d : α) (k : Nat) : (bk zs d k).length = k := by simp [bk]
theorem bk_succ {α : Type} {zs : List α} {d : α} {k m : Nat} {q : α} (hk : k < zs.length) (hm : m = zs.length - 1 - k) (hq : zs[m]? = some q) : bk zs d (k + 1) = bk zs d k ++ [(m, q)] := by
  subst hm
  unfold bk
  rw [List.range_succ, List.map_append]
  simp [hq]
theorem bk_all {α : Type} (zs : List α) (d : α) : (bk zs d zs.length).map (·.2) = zs.reverse := by
  apply List.ext_getElem
  · simp [bk]
  · intro i h1 h2
    have hi : i < zs.length := by simpa [bk] using h1
    have : zs.length - 1 - i < zs.length := by omega
    simp [bk, List.getElem_reverse, this]

/-- Cmd with a path of a bounded size: what a round's body may know of what it is handed. -/
abbrev CmdS := { q : Cmd // q.p.size ≤ 1048576 }
set_option maxRecDepth 100000 in
set_option maxHeartbeats 2000000 in
theorem backK1_in (F : Fence) (n : Nat) (h8 : F.fn 122) (hro : F.round = none) (hn : 1 ≤ n) (l Bs n₀ : Nat) (A : Option Addr) (len cap : Nat) (zs : List CmdS) (hl : zs.length = len) (hreach : len ≤ 140737488355328) (hb : 0 < zs.length → blk A < n₀) (J Jx : List (Nat × CmdS) → World → Prop)
    (hY : ∀ pre x W, J pre W → pre.length < len → YieldAt F (n - 1) Tryd.prog l #[.int .i64 (x.1 : Int), .agg #[.string x.2.1.p, .int .i64 x.2.1.x, .int .i64 x.2.1.y, .int .i64 x.2.1.z, .int .i64 x.2.1.u]] W fun e W' =>
      (e = .returned (.bool true) ∧ J (pre ++ [x]) W' ∧ KeepB n₀ Bs W W') ∨ (e = .returned (.bool false) ∧ Jx (pre ++ [x]) W'))
    (W : World) (hBs : W.cell? ⟨Bs, 0, none⟩ = some (.slice A len cap)) (ha : At encK 5 W A (zs.map (·.1))) (h0 : J [] W) :
    CallsIn F n Tryd.prog 122 #[.func (.yield l) #[] #[], .pointer (some ⟨Bs, 0, none⟩)] W fun e W' => (∃ v, e = .returned v) ∧
      ((∃ ys, ys = bk zs ⟨⟨⟨#[]⟩, 0, 0, 0, 0⟩, Nat.zero_le _⟩ zs.length ∧ J ys W') ∨ (∃ pre, True ∧ Jx pre W')) := by
  obtain ⟨i0, hi, hz0, hz1, hz2⟩ := info_parts infoK
  refine callsIn_of_wp Tryd.func122 rfl h8 ?_ hro
  simp only [Tryd.ntmps122, List.size_toArray, List.length_cons, List.length_nil, Nat.reduceAdd, Nat.reduceSub, Array.replicate_succ, Array.replicate_zero, List.push_toArray, List.append_toArray, List.nil_append, List.cons_append]
  gi_wp2
  gi_loopw [3] (fun i wr => ∃ (k : Nat) (z : Int), k ≤ len ∧ z + k + 1 = len ∧ i = .int .i64 z ∧ J (bk zs ⟨⟨⟨#[]⟩, 0, 0, 0, 0⟩, Nat.zero_le _⟩ k) wr ∧ KeepB n₀ Bs W wr)
    (fun i _ => (intOf i + 1).toNat)
  case atStart => exact ⟨0, (len : Int) - 1, Nat.zero_le _, by omega, by first | rfl | go_num, h0, KeepB.refl _ _ _⟩
  case round =>
    obtain ⟨k, z, hk, hzk, rfl, hJs, hkp⟩ := hrel
    have hbx := hkp.cell hBs
    by_cases hlt : k < len
    · obtain ⟨m, rfl⟩ : ∃ m : Nat, z = m := ⟨z.toNat, by omega⟩
      have hm : m = zs.length - 1 - k := by omega
      have hmz : m < zs.length := by omega
      obtain ⟨q, hq⟩ : ∃ q, zs[m] = q := ⟨_, rfl⟩
      have hqq : zs[m]? = some q := by rw [List.getElem?_eq_getElem hmz, hq]
      have hidx := fun W => run_index_any (c := cap) Tryd.underlying43 hi hz1 (ha.addr (by rw [List.length_map]; omega)) (show m < len by omega) W
      have haw : At encK 5 wr A (zs.map (·.1)) := ha.below hkp.1 (by rw [List.length_map]; exact hb)
      have hmz2 : m < (zs.map (·.1)).length := by rw [List.length_map]; exact hmz
      have hq2 : (zs.map (·.1))[m] = q.1 := by rw [List.getElem_map, hq]
      obtain ⟨c0, c1, c2, c3, c4⟩ := at5 haw hmz2 hq2
      have HS := Lib.hid (bk_succ (d := ⟨⟨⟨#[]⟩, 0, 0, 0, 0⟩, Nat.zero_le _⟩) (show k < zs.length by omega) hm hqq)
      obtain ⟨fn, tmps, assign, body, hy, hR⟩ := hY _ (m, q) wr hJs (by rw [bk_len]; exact hlt)
      dsimp only at hy
      clear hq hqq hm haw hmz2 hq2
      gi_wp2
      refine hR.mono ?_
      rintro e W3 (⟨rfl, hJ3, hk3⟩ | ⟨rfl, hJx3⟩)
      · gi_wp2
        go_roundw
        case rel => exact ⟨k + 1, (m : Int) - 1, by omega, by omega, by first | rfl | go_num, by rw [HS.out]; exact hJ3, hkp.trans hk3⟩
        case measure => simp [intOf] <;> omega
      · gi_wp2
        refine bodyPost_ret (results_none rfl _ _ _) rfl ?_
        exact ⟨⟨_, rfl⟩, .inr ⟨_, trivial, hJx3⟩⟩
    · obtain rfl : k = len := by omega
      obtain rfl : z = -1 := by omega
      gi_wp2
      go_end0
      exact ⟨⟨_, rfl⟩, .inl ⟨bk zs ⟨⟨⟨#[]⟩, 0, 0, 0, 0⟩, Nat.zero_le _⟩ zs.length, rfl, by first | exact hJs | (rw [hl]; exact hJs)⟩⟩

set_option maxHeartbeats 1000000 in
/-- The slice is boxed; the function value captures the box. -/
theorem backK_in (F : Fence) (n : Nat) (h5 : F.fn 92) (hro : F.round = none) (a : Option Addr) (len cap : Nat) (w : World) :
    CallsIn F n Tryd.prog 92 #[.slice a len cap] w fun e w' => e = .returned (.func (.func 122) #[] #[.pointer (some ⟨w.heap.size, 0, none⟩)]) ∧ w' = w.alloc (.cells #[.slice a len cap] 43) := by
  refine callsIn_of_wp Tryd.func92 rfl h5 ?_ hro
  simp only [Tryd.ntmps92, List.size_toArray, List.length_cons, List.length_nil, Nat.reduceAdd, Nat.reduceSub, Array.replicate_succ, Array.replicate_zero, List.push_toArray, List.append_toArray, List.nil_append, List.cons_append]
  gi_wp2
  go_ret
  exact ⟨rfl, rfl⟩

theorem backK_stops (F : Fence) (n : Nat) (h8 : F.fn 122) (hro : F.round = none) (hn : 1 ≤ n) (Bs n₀ : Nat) (A : Option Addr) (len cap : Nat) (zs : List CmdS) (hl : zs.length = len) (hreach : len ≤ 140737488355328) (hb : 0 < zs.length → blk A < n₀) (w : World) (hBl : Bs < w.heap.size)
    (hBs : w.cell? ⟨Bs, 0, none⟩ = some (.slice A len cap)) (ha : At encK 5 w A (zs.map (·.1))) :
    SeqStopsK F n Tryd.prog 122 #[.pointer (some ⟨Bs, 0, none⟩)] (fun x : Nat × CmdS => #[Value.int .i64 (x.1 : Int), .agg #[.string x.2.1.p, .int .i64 x.2.1.x, .int .i64 x.2.1.y, .int .i64 x.2.1.z, .int .i64 x.2.1.u]]) (KeepB n₀ Bs) (fun ys => ys = bk zs ⟨⟨⟨#[]⟩, 0, 0, 0, 0⟩, Nat.zero_le _⟩ zs.length) (fun _ => True) len w := fun l J Jx W hW _ _ hY h0 =>
  backK1_in F n h8 hro hn l Bs n₀ A len cap zs hl hreach hb J Jx hY W ((hW.cell (p := ⟨Bs, 0, none⟩) hBl).trans hBs) (ha.belowS hW) h0

/-- Nod with a path of a bounded size: what a round's body may know of what it is handed. -/
abbrev NodS := { q : Nod // q.p.size ≤ 1048576 }
set_option maxRecDepth 100000 in
set_option maxHeartbeats 2000000 in
theorem backN1_in (F : Fence) (n : Nat) (h8 : F.fn 120) (hro : F.round = none) (hn : 1 ≤ n) (l Bs n₀ : Nat) (A : Option Addr) (len cap : Nat) (zs : List NodS) (hl : zs.length = len) (hreach : len ≤ 140737488355328) (hb : 0 < zs.length → blk A < n₀) (J Jx : List (Nat × NodS) → World → Prop)
    (hY : ∀ pre x W, J pre W → pre.length < len → YieldAt F (n - 1) Tryd.prog l #[.int .i64 (x.1 : Int), .agg #[.string x.2.1.p, .int .i64 x.2.1.x, .int .i64 x.2.1.y]] W fun e W' =>
      (e = .returned (.bool true) ∧ J (pre ++ [x]) W' ∧ KeepB n₀ Bs W W') ∨ (e = .returned (.bool false) ∧ Jx (pre ++ [x]) W'))
    (W : World) (hBs : W.cell? ⟨Bs, 0, none⟩ = some (.slice A len cap)) (ha : At encN 3 W A (zs.map (·.1))) (h0 : J [] W) :
    CallsIn F n Tryd.prog 120 #[.func (.yield l) #[] #[], .pointer (some ⟨Bs, 0, none⟩)] W fun e W' => (∃ v, e = .returned v) ∧
      ((∃ ys, ys = bk zs ⟨⟨⟨#[]⟩, 0, 0⟩, Nat.zero_le _⟩ zs.length ∧ J ys W') ∨ (∃ pre, True ∧ Jx pre W')) := by
  obtain ⟨i0, hi, hz0, hz1, hz2⟩ := info_parts infoN
  refine callsIn_of_wp Tryd.func120 rfl h8 ?_ hro
  simp only [Tryd.ntmps120, List.size_toArray, List.length_cons, List.length_nil, Nat.reduceAdd, Nat.reduceSub, Array.replicate_succ, Array.replicate_zero, List.push_toArray, List.append_toArray, List.nil_append, List.cons_append]
  gi_wp2
  gi_loopw [3] (fun i wr => ∃ (k : Nat) (z : Int), k ≤ len ∧ z + k + 1 = len ∧ i = .int .i64 z ∧ J (bk zs ⟨⟨⟨#[]⟩, 0, 0⟩, Nat.zero_le _⟩ k) wr ∧ KeepB n₀ Bs W wr)
    (fun i _ => (intOf i + 1).toNat)
  case atStart => exact ⟨0, (len : Int) - 1, Nat.zero_le _, by omega, by first | rfl | go_num, h0, KeepB.refl _ _ _⟩
  case round =>
    obtain ⟨k, z, hk, hzk, rfl, hJs, hkp⟩ := hrel
    have hbx := hkp.cell hBs
    by_cases hlt : k < len
    · obtain ⟨m, rfl⟩ : ∃ m : Nat, z = m := ⟨z.toNat, by omega⟩
      have hm : m = zs.length - 1 - k := by omega
      have hmz : m < zs.length := by omega
      obtain ⟨q, hq⟩ : ∃ q, zs[m] = q := ⟨_, rfl⟩
      have hqq : zs[m]? = some q := by rw [List.getElem?_eq_getElem hmz, hq]
      have hidx := fun W => run_index_any (c := cap) Tryd.underlying29 hi hz1 (ha.addr (by rw [List.length_map]; omega)) (show m < len by omega) W
      have haw : At encN 3 wr A (zs.map (·.1)) := ha.below hkp.1 (by rw [List.length_map]; exact hb)
      have hmz2 : m < (zs.map (·.1)).length := by rw [List.length_map]; exact hmz
      have hq2 : (zs.map (·.1))[m] = q.1 := by rw [List.getElem_map, hq]
      obtain ⟨c0, c1, c2⟩ := at3 haw hmz2 hq2
      have HS := Lib.hid (bk_succ (d := ⟨⟨⟨#[]⟩, 0, 0⟩, Nat.zero_le _⟩) (show k < zs.length by omega) hm hqq)
      obtain ⟨fn, tmps, assign, body, hy, hR⟩ := hY _ (m, q) wr hJs (by rw [bk_len]; exact hlt)
      dsimp only at hy
      clear hq hqq hm haw hmz2 hq2
      gi_wp2
      refine hR.mono ?_
      rintro e W3 (⟨rfl, hJ3, hk3⟩ | ⟨rfl, hJx3⟩)
      · gi_wp2
        go_roundw
        case rel => exact ⟨k + 1, (m : Int) - 1, by omega, by omega, by first | rfl | go_num, by rw [HS.out]; exact hJ3, hkp.trans hk3⟩
        case measure => simp [intOf] <;> omega
      · gi_wp2
        refine bodyPost_ret (results_none rfl _ _ _) rfl ?_
        exact ⟨⟨_, rfl⟩, .inr ⟨_, trivial, hJx3⟩⟩
    · obtain rfl : k = len := by omega
      obtain rfl : z = -1 := by omega
      gi_wp2
      go_end0
      exact ⟨⟨_, rfl⟩, .inl ⟨bk zs ⟨⟨⟨#[]⟩, 0, 0⟩, Nat.zero_le _⟩ zs.length, rfl, by first | exact hJs | (rw [hl]; exact hJs)⟩⟩

set_option maxHeartbeats 1000000 in
/-- The slice is boxed; the function value captures the box. -/
theorem backN_in (F : Fence) (n : Nat) (h5 : F.fn 82) (hro : F.round = none) (a : Option Addr) (len cap : Nat) (w : World) :
    CallsIn F n Tryd.prog 82 #[.slice a len cap] w fun e w' => e = .returned (.func (.func 120) #[] #[.pointer (some ⟨w.heap.size, 0, none⟩)]) ∧ w' = w.alloc (.cells #[.slice a len cap] 29) := by
  refine callsIn_of_wp Tryd.func82 rfl h5 ?_ hro
  simp only [Tryd.ntmps82, List.size_toArray, List.length_cons, List.length_nil, Nat.reduceAdd, Nat.reduceSub, Array.replicate_succ, Array.replicate_zero, List.push_toArray, List.append_toArray, List.nil_append, List.cons_append]
  gi_wp2
  go_ret
  exact ⟨rfl, rfl⟩

theorem backN_stops (F : Fence) (n : Nat) (h8 : F.fn 120) (hro : F.round = none) (hn : 1 ≤ n) (Bs n₀ : Nat) (A : Option Addr) (len cap : Nat) (zs : List NodS) (hl : zs.length = len) (hreach : len ≤ 140737488355328) (hb : 0 < zs.length → blk A < n₀) (w : World) (hBl : Bs < w.heap.size)
    (hBs : w.cell? ⟨Bs, 0, none⟩ = some (.slice A len cap)) (ha : At encN 3 w A (zs.map (·.1))) :
    SeqStopsK F n Tryd.prog 120 #[.pointer (some ⟨Bs, 0, none⟩)] (fun x : Nat × NodS => #[Value.int .i64 (x.1 : Int), .agg #[.string x.2.1.p, .int .i64 x.2.1.x, .int .i64 x.2.1.y]]) (KeepB n₀ Bs) (fun ys => ys = bk zs ⟨⟨⟨#[]⟩, 0, 0⟩, Nat.zero_le _⟩ zs.length) (fun _ => True) len w := fun l J Jx W hW _ _ hY h0 =>
  backN1_in F n h8 hro hn l Bs n₀ A len cap zs hl hreach hb J Jx hY W ((hW.cell (p := ⟨Bs, 0, none⟩) hBl).trans hBs) (ha.belowS hW) h0
end Go.Proofs.YtlhhplhciiobfaaDoor
