/- The laws' own helpers on []int: the copy, the comparison, the marks. -/
import Derived.Test.YtehdoambbeddpaaDoorProg
import Derived.Test.YtehdoambbeddpaaDoorBase
import Derived.Deep.QuietTactic
import Derived.BigQuiet
import Derived.KernelRfl
namespace Go.Proofs.YtehdoambbeddpaaDoor
open Go.RowKit
set_option maxRecDepth 20000

theorem infoInt : (Tryd.prog.info? 3).map (fun i => (i.zero, i.size, i.bytes)) = some (some (.int .i64 0), 1, 8) := by kernel_rfl

theorem encI_len (z : Int) : (encI z).length = 1 := rfl

theorem take_succ_eq_iff {α : Type} {xs ys : List α} {k : Nat} {x y : α} (hx : xs[k]? = some x) (hy : ys[k]? = some y) (h : xs.take k = ys.take k) : xs.take (k + 1) = ys.take (k + 1) ↔ x = y := by
  rw [List.take_add_one, List.take_add_one, hx, hy, h]; simp
theorem ne_of_at {α : Type} {xs ys : List α} {k : Nat} {x y : α} (hx : xs[k]? = some x) (hy : ys[k]? = some y) (h : x ≠ y) : xs ≠ ys := by
  rintro rfl
  rw [hx] at hy
  injection hy with hy
  exact h hy

/-- What a comparison of two slices says. -/
def Same {α : Type} [DecidableEq α] (xs ys : List α) (w : World) (e : Ending) (w' : World) : Prop := e = .returned (.bool (decide (xs = ys))) ∧ ∃ q, w' = w.drewN q

set_option maxHeartbeats 400000 in
theorem eqIntS_any (A B : Option Addr) (n m c d : Nat) (xs ys : List Int) (w : World) (hn : n ≤ 140737488355328) (hx : xs.length = n) (hy : ys.length = m) (ha : At encI 1 w A xs) (hb : At encI 1 w B ys) :
    Calls Tryd.prog 29 #[.slice A n c, .slice B m d] w (Same xs ys w) := by
  obtain ⟨i0, hi, hz0, hz1, hz2⟩ := info_parts infoInt
  by_cases hnm : n = m
  case neg =>
    have h1 : ((n : Int) != m) = true := by simp; omega
    have h2 : xs ≠ ys := by rintro rfl; omega
    have H2 := Lib.hid h2
    clear h2 hx hy
    go_enter Tryd.func29, Tryd.ntmps29
    go_wp2
    go_ret
    exact ⟨ret_bool (b := false) (decide_eq_false H2.out).symm, 0, rfl⟩
  subst hnm
  have HX := Lib.hid hx
  have HY := Lib.hid hy
  clear hx hy
  go_enter Tryd.func29, Tryd.ntmps29
  go_wp2
  go_loopw [5] (fun i wr => ∃ k : Nat, i = .int .i64 k ∧ k ≤ n ∧ (∃ q, wr = w.drewN q) ∧ xs.take k = ys.take k) (fun i _ => n - (intOf i).toNat)
  case atStart => exact ⟨0, rfl, Nat.zero_le _, ⟨0, rfl⟩, rfl⟩
  case round =>
    obtain ⟨k, rfl, hk, ⟨q, rfl⟩, ht⟩ := hrel
    have HT := Lib.hid ht
    clear ht
    by_cases hlt : k < n
    · have hlx : k < xs.length := by rw [HX.out]; exact hlt
      have hly : k < ys.length := by rw [HY.out]; exact hlt
      have hidx := fun W => run_index_one (c := c) Tryd.underlying40 hi hz1 (ha.addr (by omega)) hlt W
      have hidy := fun W => run_index_one (c := d) Tryd.underlying40 hi hz1 (hb.addr (by omega)) hlt W
      have c1 : w.cell? ⟨blk A, off A + k, none⟩ = some (.int .i64 xs[k]) := ha.cell1 hlx rfl
      have c2 : w.cell? ⟨blk B, off B + k, none⟩ = some (.int .i64 ys[k]) := hb.cell1 hly rfl
      have HIFF := Lib.hid (take_succ_eq_iff (List.getElem?_eq_getElem hlx) (List.getElem?_eq_getElem hly) HT.out)
      have HNE := Lib.hid (fun h => ne_of_at (List.getElem?_eq_getElem hlx) (List.getElem?_eq_getElem hly) h)
      go_wp2
      go_quiet (fail)
      go_wp2
      · have ht : (xs[k] != ys[k]) = true := by assumption
        go_ret
        exact ⟨ret_bool (b := false) (decide_eq_false (HNE.out (by simpa using ht))).symm, _, World.drewN_drewN ..⟩
      · go_roundw
        case rel =>
          have ht : (xs[k] != ys[k]) = false := by assumption
          exact ⟨k + 1, by go_num, by omega, (by first | exact ⟨_, rfl⟩ | exact ⟨_, World.drewN_drewN ..⟩), HIFF.out.2 (by simpa using ht)⟩
        case measure => simp [intOf]; omega
    · obtain rfl : n = k := by omega
      have he : xs = ys := by
        have := HT.out
        rwa [List.take_of_length_le (by rw [HX.out]; exact Nat.le_refl _), List.take_of_length_le (by rw [HY.out]; exact Nat.le_refl _)] at this
      have HE := Lib.hid he
      clear he
      go_wp2
      go_ret
      exact ⟨ret_bool (b := true) (decide_eq_true HE.out).symm, q, rfl⟩

/-- The marks: k, k + 1, .. -/
def marks (k : Int) : Nat → List Int
  | 0 => []
  | n + 1 => k :: marks (k + 1) n
theorem marks_len (k : Int) (n : Nat) : (marks k n).length = n := by induction n generalizing k with
  | zero => rfl
  | succ n ih => simp [marks, ih]
theorem marks_get (k : Int) (n j : Nat) (hj : j < n) : (marks k n)[j]? = some (k + j) := by
  induction n generalizing k j with
  | zero => omega
  | succ n ih =>
    cases j with
    | zero => simp [marks]
    | succ j => simp only [marks, List.getElem?_cons_succ]; rw [ih (k + 1) j (by omega)]; congr 1; omega

set_option maxHeartbeats 400000 in
theorem markIntS_any (A : Option Addr) (n c : Nat) (k : Int) (cs : List Value) (w : World) (base : Nat) (hn : n ≤ 140737488355328) (hk : 0 ≤ k) (hk2 : k ≤ 140737488355328) (ho : w.ownsRow base 3 1 (.slice A n c) n cs) :
    Calls Tryd.prog 30 #[.slice A n c, .int .i64 k] w fun e w' => e = .returned (.int .i64 (k + n)) ∧ w'.ownsRow base 3 1 (.slice A n c) n ((marks k n).flatMap encI) ∧ w.grownBy w' (rowOf A n) := by
  obtain ⟨i0, hi, hz0, hz1, hz2⟩ := info_parts infoInt
  obtain ⟨A', c', hv, hc1, hc2, hA⟩ := own_form ho
  injection hv with hv1 _ hv2
  subst hv1
  subst hv2
  go_enter Tryd.func30, Tryd.ntmps30
  go_wp2
  go_loopw [1, 5] (fun q i wr => ∃ j : Nat, i = .int .i64 j ∧ q = .int .i64 (k + j) ∧ j ≤ n ∧ ∃ cs, Part encI 1 (marks k n) j cs ∧ wr.ownsRow base 3 1 (.slice A n c) n cs ∧ w.grownBy wr (rowOf A n)) (fun _ i _ => n - (intOf i).toNat)
  case atStart => exact ⟨0, rfl, by go_num, Nat.zero_le _, _, Part.zero (by rw [marks_len]; exact ho.1), ho, World.grownBy.refl _ _⟩
  case round =>
    obtain ⟨j, rfl, rfl, hj, cs, hp, ho, hg⟩ := hrel
    by_cases hlt : j < n
    · obtain ⟨hA1, hA2, hA3⟩ := hA (by omega)
      have HA := Lib.hid hA1
      clear hA1
      have hlk : j < (marks k n).length := by rw [marks_len]; exact hlt
      have ho' := ho
      rw [HA.out] at ho'
      have hidx := fun W => run_index_one (c := c) (n := n) Tryd.underlying40 hi hz1 (A := A) (by rw [HA.out]; rfl) hlt W
      have hoff : off A = 0 := by rw [HA.out]; rfl
      simp only [hoff, Nat.zero_add] at hidx
      clear hoff
      obtain ⟨u0, hc2⟩ : ∃ u0, wr.cell? ⟨blk A, j, none⟩ = some u0 := ⟨cs[j]'(by rw [ho.1]; omega), by rw [ho'.cellAt j (by omega)]; exact List.getElem?_eq_getElem _⟩
      have hf2 := ho'.frozenAt j
      have hst := ho'.stored j (.int .i64 (k + j))
      have hmk : encI ((marks k n)[j]'hlk) = [.int .i64 (k + j)] := by
        have := marks_get k n j hlt
        rw [List.getElem?_eq_getElem hlk] at this
        injection this with this
        rw [this]; rfl
      have HG := Lib.hid hg
      clear hg ho ho'
      go_wp2
      go_roundw
      case rel =>
        refine ⟨j + 1, by go_num, by go_num, by omega, _, hp.set1 encI_len hlk hmk, ?_, ?_⟩
        · rw [HA.out]; exact hst.1
        · have := HG.out
          rw [rowOf_pos (by omega)] at this ⊢
          exact only_setCell (p := ⟨blk A, j, none⟩) this (.inl rfl) _
      case measure => simp [intOf]; omega
    · obtain rfl : n = j := by omega
      have hall := Part.all (l := marks k n) (by rw [marks_len]; exact hp)
      subst hall
      have HG := Lib.hid hg
      clear hg
      go_wp2
      go_ret
      exact ⟨rfl, ho, HG.out⟩

set_option maxHeartbeats 400000 in
/-- held: the marks are there. -/
theorem heldIntS_any (A : Option Addr) (n c : Nat) (k : Int) (w : World) (hn : n ≤ 140737488355328) (hk : 0 ≤ k) (hk2 : k ≤ 140737488355328) (ha : At encI 1 w A (marks k n)) :
    Calls Tryd.prog 31 #[.slice A n c, .int .i64 k] w fun e w' => e = .returned (.int .i64 (k + n)) ∧ ∃ q, w' = w.drewN q := by
  obtain ⟨i0, hi, hz0, hz1, hz2⟩ := info_parts infoInt
  go_enter Tryd.func31, Tryd.ntmps31
  go_wp2
  go_loop [1, 5] (fun q i => ∃ j : Nat, i = .int .i64 j ∧ q = .int .i64 (k + j) ∧ j ≤ n) (fun _ i => n - (intOf i).toNat)
  case atStart => exact ⟨0, rfl, by go_num, Nat.zero_le _⟩
  case round =>
    obtain ⟨j, rfl, rfl, hj⟩ := hrel
    by_cases hlt : j < n
    · have hlk : j < (marks k n).length := by rw [marks_len]; exact hlt
      have hidx := fun W => run_index_one (c := c) Tryd.underlying40 hi hz1 (ha.addr (by omega)) hlt W
      have c1 : w.cell? ⟨blk A, off A + j, none⟩ = some (.int .i64 (k + j)) := ha.cell1 hlk (by
        have := marks_get k n j hlt
        rw [List.getElem?_eq_getElem hlk] at this
        injection this with this
        rw [this]; rfl)
      go_wp2
      go_round
      case rel => exact ⟨j + 1, by go_num, by go_num, by omega⟩
      case measure => simp [intOf]; omega
    · obtain rfl : n = j := by omega
      go_wp2
      go_ret
      exact ⟨rfl, 0, rfl⟩

theorem eqIntS_b (A B : Option Addr) (n m c d : Nat) (xs ys : List Int) (w : World) (hn : n ≤ 140737488355328) (hx : xs.length = n) (hy : ys.length = m) (ha : At encI 1 w A xs) (hb : At encI 1 w B ys) :
    Calls Tryd.prog 29 #[.slice A n c, .slice B m d] w (SameB xs ys w) :=
  (eqIntS_any A B n m c d xs ys w hn hx hy ha hb).mono fun _ _ ⟨he, q, hq⟩ => ⟨he, by subst hq; exact below_drawn (Below.refl _ _) q⟩
theorem heldIntS_b (A : Option Addr) (n c : Nat) (k : Int) (w : World) (hn : n ≤ 140737488355328) (hk : 0 ≤ k) (hk2 : k ≤ 140737488355328) (ha : At encI 1 w A (marks k n)) :
    Calls Tryd.prog 31 #[.slice A n c, .int .i64 k] w fun e w' => e = .returned (.int .i64 (k + n)) ∧ Below w.heap.size w w' :=
  (heldIntS_any A n c k w hn hk hk2 ha).mono fun _ _ ⟨he, q, hq⟩ => ⟨he, by subst hq; exact below_drawn (Below.refl _ _) q⟩

end Go.Proofs.YtehdoambbeddpaaDoor
