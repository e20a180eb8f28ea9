/- slices.Backward at nodes: the iterator's contract where the list lies in the call's own memory. -/
import Derived.Test.YtlhhplhciiobfaaDoorLogU
import Derived.Test.YtlhhplhciiobfaaDoorNodS
namespace Go.Proofs.YtlhhplhciiobfaaDoor
open Go.RowKit Go.Shelf
set_option linter.unusedVariables false
set_option linter.unusedSimpArgs false
attribute [local go_sem] Oper.semAt_some

/-- Two blocks lie as they lay. -/
def Keep2 (p : Prop) (b Bs : Nat) (A B : World) : Prop := (p → B.heap[b]? = A.heap[b]?) ∧ B.heap[Bs]? = A.heap[Bs]? ∧ A.heap.size ≤ B.heap.size
theorem Keep2.refl (p : Prop) (b Bs : Nat) (A : World) : Keep2 p b Bs A A := ⟨fun _ => rfl, rfl, Nat.le_refl _⟩
theorem Keep2.trans {p : Prop} {b Bs : Nat} {A B C : World} (h : Keep2 p b Bs A B) (k : Keep2 p b Bs B C) : Keep2 p b Bs A C := ⟨fun x => (k.1 x).trans (h.1 x), k.2.1.trans h.2.1, Nat.le_trans h.2.2 k.2.2⟩
theorem Keep2.cell {p : Prop} {b Bs : Nat} {A B : World} (h : Keep2 p b Bs A B) {v : Value} (hv : A.cell? ⟨Bs, 0, none⟩ = some v) : B.cell? ⟨Bs, 0, none⟩ = some v := by
  rw [World.cell?_of_block (w := A) (a := ⟨Bs, 0, none⟩) h.2.1]; exact hv
theorem keep2_b {p : Prop} {b Bs : Nat} {w : World} (hn : p → b < w.heap.size) (hB : Bs < w.heap.size) : ∀ (W : World) (l : Nat) (o o' : Obj), w.heap.size ≤ l → W.heap[l]? = some o → o.isCells = false → o.isWalk = false → Keep2 p b Bs W (W.putObj l o') := fun W l o o' hl h1 h2 h3 =>
  ⟨fun x => World.putObj_heap_other (fun e => by have := hn x; omega), World.putObj_heap_other (fun e => by omega), by simp⟩
theorem Below.keep2 {p : Prop} {b Bs n₀ : Nat} {A B : World} (h : Below n₀ A B) (h1 : p → b < n₀) (h2 : Bs < n₀) : Keep2 p b Bs A B := ⟨fun x => h.block b (h1 x), h.block Bs h2, h.size⟩

/-- Nod with a path of a bounded size: what a round's body may know of what it is handed. -/
abbrev NodS2 := { q : Nod // q.p.size ≤ 1048576 }
set_option maxRecDepth 100000 in
set_option maxHeartbeats 2000000 in
theorem back2N1_in (F : Fence) (n : Nat) (h8 : F.fn 120) (hro : F.round = none) (hn : 1 ≤ n) (l Bs : Nat) (A : Option Addr) (len cap : Nat) (zs : List NodS2) (hl : zs.length = len) (hreach : len ≤ 140737488355328) (J Jx : List (Nat × NodS2) → World → Prop)
    (hY : ∀ pre x W, J pre W → pre.length < len → YieldAt F (n - 1) Tryd.prog l #[.int .i64 (x.1 : Int), .agg #[.string x.2.1.p, .int .i64 x.2.1.x, .int .i64 x.2.1.y]] W fun e W' =>
      (e = .returned (.bool true) ∧ J (pre ++ [x]) W' ∧ Keep2 (0 < zs.length) (blk A) Bs W W') ∨ (e = .returned (.bool false) ∧ Jx (pre ++ [x]) W'))
    (W : World) (hBs : W.cell? ⟨Bs, 0, none⟩ = some (.slice A len cap)) (ha : At encN 3 W A (zs.map (·.1))) (h0 : J [] W) :
    CallsIn F n Tryd.prog 120 #[.func (.yield l) #[] #[], .pointer (some ⟨Bs, 0, none⟩)] W fun e W' => (∃ v, e = .returned v) ∧
      ((∃ ys, ys = bk zs ⟨⟨⟨#[]⟩, 0, 0⟩, Nat.zero_le _⟩ zs.length ∧ J ys W') ∨ (∃ pre, True ∧ Jx pre W')) := by
  obtain ⟨i0, hi, hz0, hz1, hz2⟩ := info_parts infoN
  refine callsIn_of_wp Tryd.func120 rfl h8 ?_ hro
  simp only [Tryd.ntmps120, List.size_toArray, List.length_cons, List.length_nil, Nat.reduceAdd, Nat.reduceSub, Array.replicate_succ, Array.replicate_zero, List.push_toArray, List.append_toArray, List.nil_append, List.cons_append]
  gi_wp2
  gi_loopw [3] (fun i wr => ∃ (k : Nat) (z : Int), k ≤ len ∧ z + k + 1 = len ∧ i = .int .i64 z ∧ J (bk zs ⟨⟨⟨#[]⟩, 0, 0⟩, Nat.zero_le _⟩ k) wr ∧ Keep2 (0 < zs.length) (blk A) Bs W wr)
    (fun i _ => (intOf i + 1).toNat)
  case atStart => exact ⟨0, (len : Int) - 1, Nat.zero_le _, by omega, by first | rfl | go_num, h0, Keep2.refl _ _ _ _⟩
  case round =>
    obtain ⟨k, z, hk, hzk, rfl, hJs, hkp⟩ := hrel
    have hbx := hkp.cell hBs
    by_cases hlt : k < len
    · obtain ⟨m, rfl⟩ : ∃ m : Nat, z = m := ⟨z.toNat, by omega⟩
      have hm : m = zs.length - 1 - k := by omega
      have hmz : m < zs.length := by omega
      obtain ⟨q, hq⟩ : ∃ q, zs[m] = q := ⟨_, rfl⟩
      have hqq : zs[m]? = some q := by rw [List.getElem?_eq_getElem hmz, hq]
      have hidx := fun W => run_index_any (c := cap) Tryd.underlying29 hi hz1 (ha.addr (by rw [List.length_map]; omega)) (show m < len by omega) W
      have haw : At encN 3 wr A (zs.map (·.1)) := ha.keep hkp.2.2 (fun h => hkp.1 (by rw [List.length_map] at h; exact h))
      have hmz2 : m < (zs.map (·.1)).length := by rw [List.length_map]; exact hmz
      have hq2 : (zs.map (·.1))[m] = q.1 := by rw [List.getElem_map, hq]
      obtain ⟨c0, c1, c2⟩ := at3 haw hmz2 hq2
      have HS := Lib.hid (bk_succ (d := ⟨⟨⟨#[]⟩, 0, 0⟩, Nat.zero_le _⟩) (show k < zs.length by omega) hm hqq)
      obtain ⟨fn, tmps, assign, body, hy, hR⟩ := hY _ (m, q) wr hJs (by rw [bk_len]; exact hlt)
      dsimp only at hy
      clear hq hqq hm haw hmz2 hq2
      gi_wp2
      refine hR.mono ?_
      rintro e W3 (⟨rfl, hJ3, hk3⟩ | ⟨rfl, hJx3⟩)
      · gi_wp2
        go_roundw
        case rel => exact ⟨k + 1, (m : Int) - 1, by omega, by omega, by first | rfl | go_num, by rw [HS.out]; exact hJ3, hkp.trans hk3⟩
        case measure => simp [intOf] <;> omega
      · gi_wp2
        refine bodyPost_ret (results_none rfl _ _ _) rfl ?_
        exact ⟨⟨_, rfl⟩, .inr ⟨_, trivial, hJx3⟩⟩
    · obtain rfl : k = len := by omega
      obtain rfl : z = -1 := by omega
      gi_wp2
      go_end0
      exact ⟨⟨_, rfl⟩, .inl ⟨bk zs ⟨⟨⟨#[]⟩, 0, 0⟩, Nat.zero_le _⟩ zs.length, rfl, by first | exact hJs | (rw [hl]; exact hJs)⟩⟩

set_option maxHeartbeats 1000000 in
/-- The slice is boxed; the function value captures the box. -/
theorem back2N_in (F : Fence) (n : Nat) (h5 : F.fn 82) (hro : F.round = none) (a : Option Addr) (len cap : Nat) (w : World) :
    CallsIn F n Tryd.prog 82 #[.slice a len cap] w fun e w' => e = .returned (.func (.func 120) #[] #[.pointer (some ⟨w.heap.size, 0, none⟩)]) ∧ w' = w.alloc (.cells #[.slice a len cap] 29) := by
  refine callsIn_of_wp Tryd.func82 rfl h5 ?_ hro
  simp only [Tryd.ntmps82, List.size_toArray, List.length_cons, List.length_nil, Nat.reduceAdd, Nat.reduceSub, Array.replicate_succ, Array.replicate_zero, List.push_toArray, List.append_toArray, List.nil_append, List.cons_append]
  gi_wp2
  go_ret
  exact ⟨rfl, rfl⟩

theorem back2N_stops (F : Fence) (n : Nat) (h8 : F.fn 120) (hro : F.round = none) (hn : 1 ≤ n) (Bs : Nat) (A : Option Addr) (len cap : Nat) (zs : List NodS2) (hl : zs.length = len) (hreach : len ≤ 140737488355328) (w : World) (hBl : Bs < w.heap.size)
    (hBs : w.cell? ⟨Bs, 0, none⟩ = some (.slice A len cap)) (ha : At encN 3 w A (zs.map (·.1))) :
    SeqStopsK F n Tryd.prog 120 #[.pointer (some ⟨Bs, 0, none⟩)] (fun x : Nat × NodS2 => #[Value.int .i64 (x.1 : Int), .agg #[.string x.2.1.p, .int .i64 x.2.1.x, .int .i64 x.2.1.y]]) (Keep2 (0 < zs.length) (blk A) Bs) (fun ys => ys = bk zs ⟨⟨⟨#[]⟩, 0, 0⟩, Nat.zero_le _⟩ zs.length) (fun _ => True) len w := fun l J Jx W hW _ _ hY h0 =>
  back2N1_in F n h8 hro hn l Bs A len cap zs hl hreach J Jx hY W ((hW.cell (p := ⟨Bs, 0, none⟩) hBl).trans hBs) (ha.belowS hW) h0
end Go.Proofs.YtlhhplhciiobfaaDoor
